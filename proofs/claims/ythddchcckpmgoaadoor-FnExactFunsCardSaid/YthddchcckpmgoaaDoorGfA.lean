/- Proof: the functions as Lean functions, and that these are what they evaluate to, first part. No condition. -/
import Derived.Test.YthddchcckpmgoaaDoorIm
set_option autoImplicit true
set_option relaxedAutoImplicit true
set_option linter.unusedSimpArgs false
set_option linter.unusedVariables false
namespace Go.Pv
set_option maxRecDepth 100000
set_option maxHeartbeats 40000000
set_option linter.unusedSimpArgs false
set_option linter.unusedVariables false
structure T_Node where
  op_ : Int
  s_ : ByteArray
  n_ : Int
  kids_ : List T_Node
mutual
def e_Node (o : Bool) : T_Node → List V
  | ⟨c0, c1, c2, c3⟩ => [.sc (.int .i64 c0), .sc (.string c1), .sc (.int .i64 c2), .ls o (r_Node o c3)]
def r_Node (o : Bool) : List T_Node → List (List V)
  | [] => []
  | x :: l => e_Node o x :: r_Node o l
end
theorem r_Node_map {o : Bool} (xs : List T_Node) : r_Node o xs = xs.map (e_Node o) := by
  induction xs with
  | nil => rfl
  | cons x l ih => simp [r_Node, ih]
theorem e_Node_eq {o : Bool} (x : T_Node) : e_Node o x = [.sc (.int .i64 x.op_), .sc (.string x.s_), .sc (.int .i64 x.n_), .ls o (r_Node o x.kids_)] := by cases x; simp [e_Node]
@[simp] theorem r_Node_nil {o : Bool} : r_Node o [] = [] := nr rfl
@[simp] theorem r_Node_len {o : Bool} (xs : List T_Node) : (r_Node o xs).length = xs.length := by simp [r_Node_map]
@[simp] theorem r_Node_all {o : Bool} (xs : List T_Node) : allLen 4 (r_Node o xs) = true := by simp [r_Node_map, allLen, e_Node_eq]
@[simp] theorem r_Node_emp {o : Bool} (xs : List T_Node) : (r_Node o xs).isEmpty = xs.isEmpty := by cases xs <;> rfl
@[simp] theorem r_Node_app {o : Bool} (xs ys : List T_Node) : r_Node o xs ++ r_Node o ys = r_Node o (xs ++ ys) := by simp [r_Node_map]
@[simp] theorem r_Node_app1 {o : Bool} (xs : List T_Node) (c0 : Int) (c1 : ByteArray) (c2 : Int) (c3 : List T_Node) : r_Node o xs ++ [[V.sc (.int .i64 c0), V.sc (.string c1), V.sc (.int .i64 c2), V.ls o (r_Node o c3)]] = r_Node o (xs ++ [⟨c0, c1, c2, c3⟩]) := by simp [r_Node_map, e_Node_eq]
@[simp] theorem r_Node_one {o : Bool} (c0 : Int) (c1 : ByteArray) (c2 : Int) (c3 : List T_Node) : [[V.sc (.int .i64 c0), V.sc (.string c1), V.sc (.int .i64 c2), V.ls o (r_Node o c3)]] = r_Node o [⟨c0, c1, c2, c3⟩] := by simp [r_Node_map, e_Node_eq]
@[simp] theorem r_Node_cons {o : Bool} (c0 : Int) (c1 : ByteArray) (c2 : Int) (c3 : List T_Node) (l : List T_Node) : [V.sc (.int .i64 c0), V.sc (.string c1), V.sc (.int .i64 c2), V.ls o (r_Node o c3)] :: r_Node o l = r_Node o (⟨c0, c1, c2, c3⟩ :: l) := by simp [r_Node_map, e_Node_eq]
@[simp] theorem r_Node_set {o : Bool} (xs : List T_Node) (i : Nat) (c0 : Int) (c1 : ByteArray) (c2 : Int) (c3 : List T_Node) : (r_Node o xs).set i [V.sc (.int .i64 c0), V.sc (.string c1), V.sc (.int .i64 c2), V.ls o (r_Node o c3)] = r_Node o (xs.set i ⟨c0, c1, c2, c3⟩) := by simp [r_Node_map, e_Node_eq, List.map_set]
@[simp] theorem r_Node_sub {o : Bool} (xs : List T_Node) (a n : Nat) : sub (r_Node o xs) a n = r_Node o ((xs.drop a).take n) := by simp [sub, r_Node_map, List.map_drop, List.map_take]
@[simp] theorem r_Node_rep (n : Nat) : List.replicate n [V.sc (.int .i64 0), V.sc (.string ⟨#[]⟩), V.sc (.int .i64 0), V.ls true []] = r_Node true (List.replicate n ⟨0, ⟨#[]⟩, 0, []⟩) := by simp [r_Node_map, e_Node_eq]
mutual
theorem e_Node_frz (o : Bool) : ∀ x : T_Node, frzL (e_Node o x) = e_Node false x
  | ⟨c0, c1, c2, c3⟩ => by simp [e_Node, frzL, frz, r_Node_frz]
@[simp] theorem r_Node_frz {o : Bool} : ∀ xs : List T_Node, frzR (r_Node o xs) = r_Node false xs
  | [] => by simp [r_Node, frzR]
  | x :: l => by simp [r_Node, frzR, e_Node_frz o x, r_Node_frz l]
end
mutual
theorem e_Node_hasFz : ∀ x : T_Node, hasFzL (e_Node true x) = false
  | ⟨c0, c1, c2, c3⟩ => by simp [e_Node, hasFzL, hasFz, r_Node_hasFz]
@[simp] theorem r_Node_hasFz : ∀ xs : List T_Node, hasFzR (r_Node true xs) = false
  | [] => by simp [r_Node, hasFzR]
  | x :: l => by simp [r_Node, hasFzR, e_Node_hasFz x, r_Node_hasFz l]
end
@[simp] theorem r_Node_noH {o : Bool} (xs : List T_Node) : noH (r_Node o xs) = true := by simp [noH, r_Node_map, e_Node_eq, isRf]
@[simp] theorem r_Node_sameL {o o2 : Bool} (xs ys : List T_Node) : sameL (r_Node o xs) (r_Node o2 ys) = true := sameL_len (r_Node_all xs) (r_Node_all ys)
theorem r_Node_getI {o : Bool} {xs : List T_Node} {i : Int} {x : T_Node} (h : getI xs i = some x) : 0 ≤ i ∧ i < xs.length ∧ i.toNat < xs.length ∧ (r_Node o xs)[i.toNat]? = some [.sc (.int .i64 x.op_), .sc (.string x.s_), .sc (.int .i64 x.n_), .ls o (r_Node o x.kids_)] := by
  obtain ⟨h1, h2, h3⟩ := getI_some h
  exact ⟨h1, h2, by omega, by simp [r_Node_map, h3, e_Node_eq]⟩
theorem r_Node_getN {o : Bool} {xs : List T_Node} {i : Nat} {x : T_Node} (h : xs[i]? = some x) : (r_Node o xs)[i]? = some [.sc (.int .i64 x.op_), .sc (.string x.s_), .sc (.int .i64 x.n_), .ls o (r_Node o x.kids_)] := by simp [r_Node_map, h, e_Node_eq]
def Fw_szNode_ans (a0_5 : Int) (a0_6 : ByteArray) (a0_7 : Int) (a0_8 : List T_Node) (a1_1 : Int) : Int → Ans
  | q1 => .val (.sc (.int .i64 q1)) []
def Pw_szNode (Rw_szNode : Int → ByteArray → Int → (List T_Node) → Int → Option Int) : Prop := ∀ (a0_5 : Int) (a0_6 : ByteArray) (a0_7 : Int) (a0_8 : List T_Node) (a1_1 : Int) (r_ : Int), Rw_szNode a0_5 a0_6 a0_7 a0_8 a1_1 = some r_ → ev EE (.call 6 [.ag [.sc (.int .i64 a0_5), .sc (.string a0_6), .sc (.int .i64 a0_7), .ls false (r_Node false a0_8)], .sc (.int .i64 a1_1)] []) = some (Fw_szNode_ans a0_5 a0_6 a0_7 a0_8 a1_1 r_)
def Lw_szNodeS_0 (Rw_szNode : Int → ByteArray → Int → (List T_Node) → Int → Option Int) : Nat → (List T_Node) → Int → Int → Option ((Int × Int) ⊕ Int)
  | 0, _, _, _ => none
  | n_ + 1, t0_1, t1_1, t5_1 =>
  if t5_1 < (t0_1.length : Int) then
    bS (getI t0_1 t5_1) fun e1 =>
    bS (Rw_szNode e1.op_ e1.s_ e1.n_ e1.kids_ t1_1) fun r1 =>
    if r1 < 0 then
      some (.inl (r1, (-1)))
    else
      Lw_szNodeS_0 Rw_szNode n_ t0_1 r1 (IntKind.i64.wrap (t5_1 + 1))
  else
    some (.inr t1_1)
def Lw_szNodeS_0_ans (t0_1 : List T_Node) (t1_1 : Int) (t5_1 : Int) : (Int × Int) ⊕ Int → Ans
  | .inl (t1_2, t4_1) => .out .ret { np := 0, tm := [(1, .sc (.int .i64 t1_2)), (4, .sc (.int .i64 t4_1))], ar := [], bx := [] }
  | .inr t1_3 => .out (.exit 0) { np := 0, tm := [(1, .sc (.int .i64 t1_3))], ar := [], bx := [] }
theorem Lw_szNodeS_0_ok (Rw_szNode : Int → ByteArray → Int → (List T_Node) → Int → Option Int) (hRw_szNode : Pw_szNode Rw_szNode) : ∀ (n_ : Nat) (t0_1 : List T_Node) (t1_1 : Int) (t5_1 : Int) (r_ : (Int × Int) ⊕ Int), Lw_szNodeS_0 Rw_szNode n_ t0_1 t1_1 t5_1 = some r_ → ev EE (.loop lp22_0 [0, 1, 5] [1, 4] { np := 0, tm := [(0, .ls false (r_Node false t0_1)), (1, .sc (.int .i64 t1_1)), (5, .sc (.int .i64 t5_1))], ar := [], bx := [] }) = some (Lw_szNodeS_0_ans t0_1 t1_1 t5_1 r_) := by
  intro n_
  induction n_ with
  | zero => intro t0_1 t1_1 t5_1 r_ h_; simp only [Lw_szNodeS_0] at h_; cases h_
  | succ n_ ih_ =>
    intro t0_1 t1_1 t5_1 r_ h_
    rw [ev_loop EE lp22_0.eq_1]
    simp only [Lw_szNodeS_0] at h_
    rcases bI h_ with ⟨h1_, h_⟩ | ⟨h1_, h_⟩
    · have h1_s := h1_; try simp at h1_s
      obtain ⟨e1, h3_, h_⟩ := bS_some h_
      obtain ⟨h3_a, h3_b, h3_c, h3_d⟩ := r_Node_getI (o := false)  h3_
      try simp [-getElem?_pos] at h3_d
      obtain ⟨r1, h7_, h_⟩ := bS_some h_
      have h7_f := hRw_szNode e1.op_ e1.s_ e1.n_ e1.kids_ t1_1 _ h7_
      try simp [Fw_szNode_ans] at h7_f
      rcases bI h_ with ⟨h8_, h_⟩ | ⟨h8_, h_⟩
      · cases h_
        simp (maxSteps := 2000000) (decide := true) [-getElem?_pos, h1_, h1_s, h3_a, h3_b, h3_c, h3_d, h7_f, h8_, Lw_szNodeS_0_ans]
      · have q_ := ih_ t0_1 r1 (IntKind.i64.wrap (t5_1 + 1)) _ h_
        rcases r_ with ⟨t1_2, t4_1⟩ | t1_3
        all_goals (try simp [Lw_szNodeS_0_ans] at q_)
        all_goals simp (maxSteps := 2000000) (decide := true) [-getElem?_pos, h1_, h1_s, h3_a, h3_b, h3_c, h3_d, h7_f, h8_, q_, Lw_szNodeS_0_ans]
    · have h1_s := h1_; try simp at h1_s
      cases h_
      simp (maxSteps := 2000000) (decide := true) [-getElem?_pos, h1_, h1_s, Lw_szNodeS_0_ans]
/-- laws.szNodeS -/
def Fw_szNodeS (Rw_szNode : Int → ByteArray → Int → (List T_Node) → Int → Option Int) (a0_9 : List T_Node) (a1_2 : Int) : Option Int :=
  if IntKind.i64.wrap (a1_2 - (a0_9.length : Int)) < 0 then
    some (-1)
  else
  bS (Lw_szNodeS_0 Rw_szNode FU a0_9 (IntKind.i64.wrap (a1_2 - (a0_9.length : Int))) 0) fun r_ => match r_ with
  | .inl (r2, r3) =>
    some r3
  | .inr r4 =>
    some r4
def Fw_szNodeS_ans (a0_9 : List T_Node) (a1_2 : Int) : Int → Ans
  | q2 => .val (.sc (.int .i64 q2)) []
theorem Fw_szNodeS_ok (Rw_szNode : Int → ByteArray → Int → (List T_Node) → Int → Option Int) (hRw_szNode : Pw_szNode Rw_szNode) (a0_9 : List T_Node) (a1_2 : Int) (r_ : Int) (h_ : Fw_szNodeS Rw_szNode a0_9 a1_2 = some r_) : ev EE (.call 22 [.ls false (r_Node false a0_9), .sc (.int .i64 a1_2)] []) = some (Fw_szNodeS_ans a0_9 a1_2 r_) := by
  rw [ev_eq]
  simp only [Fw_szNodeS] at h_
  rcases bI h_ with ⟨h1_, h_⟩ | ⟨h1_, h_⟩
  · have h1_s := h1_; try simp at h1_s
    cases h_
    simp (maxSteps := 2000000) (decide := true) [-getElem?_pos, ir22, h1_, h1_s, Fw_szNodeS_ans]
  · have h1_s := h1_; try simp at h1_s
    obtain ⟨r_2, h3_, h_⟩ := bS_some h_
    have h3_f := Lw_szNodeS_0_ok Rw_szNode hRw_szNode FU a0_9 (IntKind.i64.wrap (a1_2 - (a0_9.length : Int))) 0 _ h3_
    rcases r_2 with ⟨r2, r3⟩ | r4
    · try dsimp only at h_
      try simp [Lw_szNodeS_0_ans] at h3_f
      cases h_
      simp (maxSteps := 2000000) (decide := true) [-getElem?_pos, ir22, h1_, h1_s, h3_f, Fw_szNodeS_ans]
    · try dsimp only at h_
      try simp [Lw_szNodeS_0_ans] at h3_f
      cases h_
      simp (maxSteps := 2000000) (decide := true) [-getElem?_pos, ir22, h1_, h1_s, h3_f, Fw_szNodeS_ans]
/-- laws.szNode -/
def Sw_szNode (Rw_szNode : Int → ByteArray → Int → (List T_Node) → Int → Option Int) (a0_5 : Int) (a0_6 : ByteArray) (a0_7 : Int) (a0_8 : List T_Node) (a1_1 : Int) : Option Int :=
  if IntKind.i64.wrap (a1_1 - (a0_6.size : Int)) < 0 then
    some (-1)
  else
  bS (Fw_szNodeS Rw_szNode a0_8 (IntKind.i64.wrap (a1_1 - (a0_6.size : Int)))) fun r5 =>
  if r5 < 0 then
    some (-1)
  else
    some r5
theorem Sw_szNode_ok (Rw_szNode : Int → ByteArray → Int → (List T_Node) → Int → Option Int) (hRw_szNode : Pw_szNode Rw_szNode) (a0_5 : Int) (a0_6 : ByteArray) (a0_7 : Int) (a0_8 : List T_Node) (a1_1 : Int) (r_ : Int) (h_ : Sw_szNode Rw_szNode a0_5 a0_6 a0_7 a0_8 a1_1 = some r_) : ev EE (.call 6 [.ag [.sc (.int .i64 a0_5), .sc (.string a0_6), .sc (.int .i64 a0_7), .ls false (r_Node false a0_8)], .sc (.int .i64 a1_1)] []) = some (Fw_szNode_ans a0_5 a0_6 a0_7 a0_8 a1_1 r_) := by
  rw [ev_eq]
  simp only [Sw_szNode] at h_
  rcases bI h_ with ⟨h1_, h_⟩ | ⟨h1_, h_⟩
  · have h1_s := h1_; try simp at h1_s
    cases h_
    simp (maxSteps := 2000000) (decide := true) [-getElem?_pos, ir6, h1_, h1_s, Fw_szNode_ans]
  · have h1_s := h1_; try simp at h1_s
    obtain ⟨r5, h3_, h_⟩ := bS_some h_
    have h3_f := Fw_szNodeS_ok Rw_szNode hRw_szNode a0_8 (IntKind.i64.wrap (a1_1 - (a0_6.size : Int))) _ h3_
    try simp [Fw_szNodeS_ans] at h3_f
    rcases bI h_ with ⟨h4_, h_⟩ | ⟨h4_, h_⟩
    · cases h_
      simp (maxSteps := 2000000) (decide := true) [-getElem?_pos, ir6, h1_, h1_s, h3_f, h4_, Fw_szNode_ans]
    · cases h_
      simp (maxSteps := 2000000) (decide := true) [-getElem?_pos, ir6, h1_, h1_s, h3_f, h4_, Fw_szNode_ans]
def Fw_szNoden : Nat → Int → ByteArray → Int → (List T_Node) → Int → Option Int
  | 0 => fun _ _ _ _ _ => none
  | n_ + 1 => Sw_szNode (Fw_szNoden n_)
def Fw_szNode (a0_5 : Int) (a0_6 : ByteArray) (a0_7 : Int) (a0_8 : List T_Node) (a1_1 : Int) : Option Int := Fw_szNoden FU a0_5 a0_6 a0_7 a0_8 a1_1
theorem Fw_szNoden_ok : ∀ (n_ : Nat) (a0_5 : Int) (a0_6 : ByteArray) (a0_7 : Int) (a0_8 : List T_Node) (a1_1 : Int) (r_ : Int), Fw_szNoden n_ a0_5 a0_6 a0_7 a0_8 a1_1 = some r_ → ev EE (.call 6 [.ag [.sc (.int .i64 a0_5), .sc (.string a0_6), .sc (.int .i64 a0_7), .ls false (r_Node false a0_8)], .sc (.int .i64 a1_1)] []) = some (Fw_szNode_ans a0_5 a0_6 a0_7 a0_8 a1_1 r_) := by
  intro n_
  induction n_ with
  | zero => intro a0_5 a0_6 a0_7 a0_8 a1_1 r_ h_; cases h_
  | succ n_ ih_ => intro a0_5 a0_6 a0_7 a0_8 a1_1 r_ h_; exact Sw_szNode_ok (Fw_szNoden n_) ih_ a0_5 a0_6 a0_7 a0_8 a1_1 r_ h_
theorem Fw_szNode_ok (a0_5 : Int) (a0_6 : ByteArray) (a0_7 : Int) (a0_8 : List T_Node) (a1_1 : Int) (r_ : Int) (h_ : Fw_szNode a0_5 a0_6 a0_7 a0_8 a1_1 = some r_) : ev EE (.call 6 [.ag [.sc (.int .i64 a0_5), .sc (.string a0_6), .sc (.int .i64 a0_7), .ls false (r_Node false a0_8)], .sc (.int .i64 a1_1)] []) = some (Fw_szNode_ans a0_5 a0_6 a0_7 a0_8 a1_1 r_) := Fw_szNoden_ok FU a0_5 a0_6 a0_7 a0_8 a1_1 r_ h_
def Fw_toNode_ans (a0_10 : Int) (a0_11 : ByteArray) (a0_12 : Int) (a0_13 : List T_Node) : (Int × ByteArray × Int × (List T_Node)) → Ans
  | (q3, q4, q5, q6) => .val (.ag [.sc (.int .i64 q3), .sc (.string q4), .sc (.int .i64 q5), .ls true (r_Node true q6)]) []
def Pw_toNode (Rw_toNode : Int → ByteArray → Int → (List T_Node) → Option (Int × ByteArray × Int × (List T_Node))) : Prop := ∀ (a0_10 : Int) (a0_11 : ByteArray) (a0_12 : Int) (a0_13 : List T_Node) (r_ : (Int × ByteArray × Int × (List T_Node))), Rw_toNode a0_10 a0_11 a0_12 a0_13 = some r_ → ev EE (.call 8 [.ag [.sc (.int .i64 a0_10), .sc (.string a0_11), .sc (.int .i64 a0_12), .ls false (r_Node false a0_13)]] []) = some (Fw_toNode_ans a0_10 a0_11 a0_12 a0_13 r_)
def Lw_toNodeS_0 (Rw_toNode : Int → ByteArray → Int → (List T_Node) → Option (Int × ByteArray × Int × (List T_Node))) : Nat → (List T_Node) → (List T_Node) → Int → Option (List T_Node)
  | 0, _, _, _ => none
  | n_ + 1, t0_2, t3_1, t4_2 =>
  if t4_2 < (t0_2.length : Int) then
    bS (getI t0_2 t4_2) fun e2 =>
    bS (Rw_toNode e2.op_ e2.s_ e2.n_ e2.kids_) fun (r7, r8, r9, r10) =>
    bS (getI t3_1 t4_2) fun e3 =>
    Lw_toNodeS_0 Rw_toNode n_ t0_2 (List.set t3_1 t4_2.toNat (⟨r7, r8, r9, r10⟩ : T_Node)) (IntKind.i64.wrap (t4_2 + 1))
  else
    some t3_1
def Lw_toNodeS_0_ans (t0_2 : List T_Node) (t3_1 : List T_Node) (t4_2 : Int) : (List T_Node) → Ans
  | t3_2 => .out (.exit 0) { np := 0, tm := [(3, .rf 0 0 t3_2.length)], ar := [(0, .a false (r_Node true t3_2))], bx := [] }
theorem Lw_toNodeS_0_ok (Rw_toNode : Int → ByteArray → Int → (List T_Node) → Option (Int × ByteArray × Int × (List T_Node))) (hRw_toNode : Pw_toNode Rw_toNode) : ∀ (n_ : Nat) (t0_2 : List T_Node) (t3_1 : List T_Node) (t4_2 : Int) (r_ : (List T_Node)), Lw_toNodeS_0 Rw_toNode n_ t0_2 t3_1 t4_2 = some r_ → ev EE (.loop lp25_0 [0, 3, 4] [2, 3] { np := 0, tm := [(0, .ls false (r_Node false t0_2)), (3, .rf 0 0 t3_1.length), (4, .sc (.int .i64 t4_2))], ar := [(0, .a false (r_Node true t3_1))], bx := [] }) = some (Lw_toNodeS_0_ans t0_2 t3_1 t4_2 r_) := by
  intro n_
  induction n_ with
  | zero => intro t0_2 t3_1 t4_2 r_ h_; simp only [Lw_toNodeS_0] at h_; cases h_
  | succ n_ ih_ =>
    intro t0_2 t3_1 t4_2 r_ h_
    rw [ev_loop EE lp25_0.eq_1]
    simp only [Lw_toNodeS_0] at h_
    rcases bI h_ with ⟨h1_, h_⟩ | ⟨h1_, h_⟩
    · have h1_s := h1_; try simp at h1_s
      obtain ⟨e2, h3_, h_⟩ := bS_some h_
      obtain ⟨h3_a, h3_b, h3_c, h3_d⟩ := r_Node_getI (o := false)  h3_
      try simp [-getElem?_pos] at h3_d
      obtain ⟨⟨r7, r8, r9, r10⟩, h7_, h_⟩ := bS_some h_
      try dsimp only at h_
      have h7_f := hRw_toNode e2.op_ e2.s_ e2.n_ e2.kids_ _ h7_
      try simp [Fw_toNode_ans] at h7_f
      obtain ⟨e3, h8_, h_⟩ := bS_some h_
      obtain ⟨h8_a, h8_b, h8_c, h8_d⟩ := r_Node_getI (o := true)  h8_
      try simp [-getElem?_pos] at h8_d
      have q_ := ih_ t0_2 (List.set t3_1 t4_2.toNat (⟨r7, r8, r9, r10⟩ : T_Node)) (IntKind.i64.wrap (t4_2 + 1)) _ h_
      rcases r_ with t3_2
      all_goals (try simp [Lw_toNodeS_0_ans] at q_)
      all_goals simp (maxSteps := 2000000) (decide := true) [-getElem?_pos, h1_, h1_s, h3_a, h3_b, h3_c, h3_d, h7_f, h8_a, h8_b, h8_c, h8_d, q_, Lw_toNodeS_0_ans]
    · have h1_s := h1_; try simp at h1_s
      cases h_
      simp (maxSteps := 2000000) (decide := true) [-getElem?_pos, h1_, h1_s, Lw_toNodeS_0_ans]
/-- laws.toNodeS -/
def Fw_toNodeS (Rw_toNode : Int → ByteArray → Int → (List T_Node) → Option (Int × ByteArray × Int × (List T_Node))) (a0_14 : List T_Node) : Option (List T_Node) :=
  if lim a0_14.length 56 = true then
  bS (Lw_toNodeS_0 Rw_toNode FU a0_14 (List.replicate a0_14.length (⟨0, (⟨#[]⟩ : ByteArray), 0, []⟩ : T_Node)) 0) fun r11 =>
  some r11
  else none
def Fw_toNodeS_ans (a0_14 : List T_Node) : (List T_Node) → Ans
  | q7 => .val (.ls true (r_Node true q7)) []
theorem Fw_toNodeS_ok (Rw_toNode : Int → ByteArray → Int → (List T_Node) → Option (Int × ByteArray × Int × (List T_Node))) (hRw_toNode : Pw_toNode Rw_toNode) (a0_14 : List T_Node) (r_ : (List T_Node)) (h_ : Fw_toNodeS Rw_toNode a0_14 = some r_) : ev EE (.call 25 [.ls false (r_Node false a0_14)] []) = some (Fw_toNodeS_ans a0_14 r_) := by
  rw [ev_eq]
  simp only [Fw_toNodeS] at h_
  obtain ⟨h1_, h_⟩ := bP h_
  obtain ⟨r11, h2_, h_⟩ := bS_some h_
  have h2_f := Lw_toNodeS_0_ok Rw_toNode hRw_toNode FU a0_14 (List.replicate a0_14.length (⟨0, (⟨#[]⟩ : ByteArray), 0, []⟩ : T_Node)) 0 _ h2_
  try simp [Lw_toNodeS_0_ans] at h2_f
  cases h_
  simp (maxSteps := 2000000) (decide := true) [-getElem?_pos, ir25, h1_, h2_f, Fw_toNodeS_ans]
/-- laws.toNode -/
def Sw_toNode (Rw_toNode : Int → ByteArray → Int → (List T_Node) → Option (Int × ByteArray × Int × (List T_Node))) (a0_10 : Int) (a0_11 : ByteArray) (a0_12 : Int) (a0_13 : List T_Node) : Option (Int × ByteArray × Int × (List T_Node)) :=
  bS (Fw_toNodeS Rw_toNode a0_13) fun r12 =>
  some (a0_10, a0_11, a0_12, r12)
theorem Sw_toNode_ok (Rw_toNode : Int → ByteArray → Int → (List T_Node) → Option (Int × ByteArray × Int × (List T_Node))) (hRw_toNode : Pw_toNode Rw_toNode) (a0_10 : Int) (a0_11 : ByteArray) (a0_12 : Int) (a0_13 : List T_Node) (r_ : (Int × ByteArray × Int × (List T_Node))) (h_ : Sw_toNode Rw_toNode a0_10 a0_11 a0_12 a0_13 = some r_) : ev EE (.call 8 [.ag [.sc (.int .i64 a0_10), .sc (.string a0_11), .sc (.int .i64 a0_12), .ls false (r_Node false a0_13)]] []) = some (Fw_toNode_ans a0_10 a0_11 a0_12 a0_13 r_) := by
  rw [ev_eq]
  simp only [Sw_toNode] at h_
  obtain ⟨r12, h1_, h_⟩ := bS_some h_
  have h1_f := Fw_toNodeS_ok Rw_toNode hRw_toNode a0_13 _ h1_
  try simp [Fw_toNodeS_ans] at h1_f
  cases h_
  simp (maxSteps := 2000000) (decide := true) [-getElem?_pos, ir8, h1_f, Fw_toNode_ans]
def Fw_toNoden : Nat → Int → ByteArray → Int → (List T_Node) → Option (Int × ByteArray × Int × (List T_Node))
  | 0 => fun _ _ _ _ => none
  | n_ + 1 => Sw_toNode (Fw_toNoden n_)
def Fw_toNode (a0_10 : Int) (a0_11 : ByteArray) (a0_12 : Int) (a0_13 : List T_Node) : Option (Int × ByteArray × Int × (List T_Node)) := Fw_toNoden FU a0_10 a0_11 a0_12 a0_13
theorem Fw_toNoden_ok : ∀ (n_ : Nat) (a0_10 : Int) (a0_11 : ByteArray) (a0_12 : Int) (a0_13 : List T_Node) (r_ : (Int × ByteArray × Int × (List T_Node))), Fw_toNoden n_ a0_10 a0_11 a0_12 a0_13 = some r_ → ev EE (.call 8 [.ag [.sc (.int .i64 a0_10), .sc (.string a0_11), .sc (.int .i64 a0_12), .ls false (r_Node false a0_13)]] []) = some (Fw_toNode_ans a0_10 a0_11 a0_12 a0_13 r_) := by
  intro n_
  induction n_ with
  | zero => intro a0_10 a0_11 a0_12 a0_13 r_ h_; cases h_
  | succ n_ ih_ => intro a0_10 a0_11 a0_12 a0_13 r_ h_; exact Sw_toNode_ok (Fw_toNoden n_) ih_ a0_10 a0_11 a0_12 a0_13 r_ h_
theorem Fw_toNode_ok (a0_10 : Int) (a0_11 : ByteArray) (a0_12 : Int) (a0_13 : List T_Node) (r_ : (Int × ByteArray × Int × (List T_Node))) (h_ : Fw_toNode a0_10 a0_11 a0_12 a0_13 = some r_) : ev EE (.call 8 [.ag [.sc (.int .i64 a0_10), .sc (.string a0_11), .sc (.int .i64 a0_12), .ls false (r_Node false a0_13)]] []) = some (Fw_toNode_ans a0_10 a0_11 a0_12 a0_13 r_) := Fw_toNoden_ok FU a0_10 a0_11 a0_12 a0_13 r_ h_
def Fs_Deep_ans (a0_23 : Int) (a0_24 : ByteArray) (a0_25 : Int) (a0_26 : List T_Node) : Int → Ans
  | q8 => .val (.sc (.int .i64 q8)) []
def Ps_Deep (Rs_Deep : Int → ByteArray → Int → (List T_Node) → Option Int) : Prop := ∀ (a0_23 : Int) (a0_24 : ByteArray) (a0_25 : Int) (a0_26 : List T_Node) (r_ : Int), Rs_Deep a0_23 a0_24 a0_25 a0_26 = some r_ → ev EE (.call 32 [.ag [.sc (.int .i64 a0_23), .sc (.string a0_24), .sc (.int .i64 a0_25), .ls false (r_Node false a0_26)]] []) = some (Fs_Deep_ans a0_23 a0_24 a0_25 a0_26 r_)
/-- spec.l1Max -/
def Fs_l1Max (a0_27 : Int) (a1_3 : Int) : Option Int :=
  if a1_3 < a0_27 then
    some a0_27
  else
    some a1_3
def Fs_l1Max_ans (a0_27 : Int) (a1_3 : Int) : Int → Ans
  | q9 => .val (.sc (.int .i64 q9)) []
theorem Fs_l1Max_ok (a0_27 : Int) (a1_3 : Int) (r_ : Int) (h_ : Fs_l1Max a0_27 a1_3 = some r_) : ev EE (.call 46 [.sc (.int .i64 a0_27), .sc (.int .i64 a1_3)] []) = some (Fs_l1Max_ans a0_27 a1_3 r_) := by
  rw [ev_eq]
  simp only [Fs_l1Max] at h_
  rcases bI h_ with ⟨h1_, h_⟩ | ⟨h1_, h_⟩
  · cases h_
    simp (maxSteps := 2000000) (decide := true) [-getElem?_pos, ir46, h1_, Fs_l1Max_ans]
  · cases h_
    simp (maxSteps := 2000000) (decide := true) [-getElem?_pos, ir46, h1_, Fs_l1Max_ans]
def Ls_Deep_0 (Rs_Deep : Int → ByteArray → Int → (List T_Node) → Option Int) : Nat → Int → Int → Int → ByteArray → Int → (List T_Node) → Option Int
  | 0, _, _, _, _, _, _ => none
  | n_ + 1, t3_3, t4_3, x0_1, x0_2, x0_3, x0_4 =>
  if t4_3 < (x0_4.length : Int) then
    bS (getI x0_4 t4_3) fun e4 =>
    bS (Rs_Deep e4.op_ e4.s_ e4.n_ e4.kids_) fun r17 =>
    bS (Fs_l1Max t3_3 r17) fun r18 =>
    Ls_Deep_0 Rs_Deep n_ r18 (IntKind.i64.wrap (t4_3 + 1)) x0_1 x0_2 x0_3 x0_4
  else
    some t3_3
def Ls_Deep_0_ans (t3_3 : Int) (t4_3 : Int) (x0_1 : Int) (x0_2 : ByteArray) (x0_3 : Int) (x0_4 : List T_Node) : Int → Ans
  | t3_4 => .out (.exit 0) { np := 0, tm := [(3, .sc (.int .i64 t3_4))], ar := [], bx := [] }
theorem Ls_Deep_0_ok (Rs_Deep : Int → ByteArray → Int → (List T_Node) → Option Int) (hRs_Deep : Ps_Deep Rs_Deep) : ∀ (n_ : Nat) (t3_3 : Int) (t4_3 : Int) (x0_1 : Int) (x0_2 : ByteArray) (x0_3 : Int) (x0_4 : List T_Node) (r_ : Int), Ls_Deep_0 Rs_Deep n_ t3_3 t4_3 x0_1 x0_2 x0_3 x0_4 = some r_ → ev EE (.loop lp32_0 [1, 3, 4] [2, 3] { np := 0, tm := [(1, .bx 0 0), (3, .sc (.int .i64 t3_3)), (4, .sc (.int .i64 t4_3))], ar := [], bx := [(0, .b [.sc (.int .i64 x0_1), .sc (.string x0_2), .sc (.int .i64 x0_3), .ls false (r_Node false x0_4)])] }) = some (Ls_Deep_0_ans t3_3 t4_3 x0_1 x0_2 x0_3 x0_4 r_) := by
  intro n_
  induction n_ with
  | zero => intro t3_3 t4_3 x0_1 x0_2 x0_3 x0_4 r_ h_; simp only [Ls_Deep_0] at h_; cases h_
  | succ n_ ih_ =>
    intro t3_3 t4_3 x0_1 x0_2 x0_3 x0_4 r_ h_
    rw [ev_loop EE lp32_0.eq_1]
    simp only [Ls_Deep_0] at h_
    rcases bI h_ with ⟨h1_, h_⟩ | ⟨h1_, h_⟩
    · have h1_s := h1_; try simp at h1_s
      obtain ⟨e4, h3_, h_⟩ := bS_some h_
      obtain ⟨h3_a, h3_b, h3_c, h3_d⟩ := r_Node_getI (o := false)  h3_
      try simp [-getElem?_pos] at h3_d
      obtain ⟨r17, h7_, h_⟩ := bS_some h_
      have h7_f := hRs_Deep e4.op_ e4.s_ e4.n_ e4.kids_ _ h7_
      try simp [Fs_Deep_ans] at h7_f
      obtain ⟨r18, h8_, h_⟩ := bS_some h_
      have h8_f := Fs_l1Max_ok t3_3 r17 _ h8_
      try simp [Fs_l1Max_ans] at h8_f
      have q_ := ih_ r18 (IntKind.i64.wrap (t4_3 + 1)) x0_1 x0_2 x0_3 x0_4 _ h_
      rcases r_ with t3_4
      all_goals (try simp [Ls_Deep_0_ans] at q_)
      all_goals simp (maxSteps := 2000000) (decide := true) [-getElem?_pos, h1_, h1_s, h3_a, h3_b, h3_c, h3_d, h7_f, h8_f, q_, Ls_Deep_0_ans]
    · have h1_s := h1_; try simp at h1_s
      cases h_
      simp (maxSteps := 2000000) (decide := true) [-getElem?_pos, h1_, h1_s, Ls_Deep_0_ans]
/-- spec.Deep -/
def Ss_Deep (Rs_Deep : Int → ByteArray → Int → (List T_Node) → Option Int) (a0_23 : Int) (a0_24 : ByteArray) (a0_25 : Int) (a0_26 : List T_Node) : Option Int :=
  bS (Ls_Deep_0 Rs_Deep FU 0 0 a0_23 a0_24 a0_25 a0_26) fun r19 =>
  some (IntKind.i64.wrap (r19 + 1))
theorem Ss_Deep_ok (Rs_Deep : Int → ByteArray → Int → (List T_Node) → Option Int) (hRs_Deep : Ps_Deep Rs_Deep) (a0_23 : Int) (a0_24 : ByteArray) (a0_25 : Int) (a0_26 : List T_Node) (r_ : Int) (h_ : Ss_Deep Rs_Deep a0_23 a0_24 a0_25 a0_26 = some r_) : ev EE (.call 32 [.ag [.sc (.int .i64 a0_23), .sc (.string a0_24), .sc (.int .i64 a0_25), .ls false (r_Node false a0_26)]] []) = some (Fs_Deep_ans a0_23 a0_24 a0_25 a0_26 r_) := by
  rw [ev_eq]
  simp only [Ss_Deep] at h_
  obtain ⟨r19, h1_, h_⟩ := bS_some h_
  have h1_f := Ls_Deep_0_ok Rs_Deep hRs_Deep FU 0 0 a0_23 a0_24 a0_25 a0_26 _ h1_
  try simp [Ls_Deep_0_ans] at h1_f
  cases h_
  simp (maxSteps := 2000000) (decide := true) [-getElem?_pos, ir32, h1_f, Fs_Deep_ans]
def Fs_Deepn : Nat → Int → ByteArray → Int → (List T_Node) → Option Int
  | 0 => fun _ _ _ _ => none
  | n_ + 1 => Ss_Deep (Fs_Deepn n_)
def Fs_Deep (a0_23 : Int) (a0_24 : ByteArray) (a0_25 : Int) (a0_26 : List T_Node) : Option Int := Fs_Deepn FU a0_23 a0_24 a0_25 a0_26
theorem Fs_Deepn_ok : ∀ (n_ : Nat) (a0_23 : Int) (a0_24 : ByteArray) (a0_25 : Int) (a0_26 : List T_Node) (r_ : Int), Fs_Deepn n_ a0_23 a0_24 a0_25 a0_26 = some r_ → ev EE (.call 32 [.ag [.sc (.int .i64 a0_23), .sc (.string a0_24), .sc (.int .i64 a0_25), .ls false (r_Node false a0_26)]] []) = some (Fs_Deep_ans a0_23 a0_24 a0_25 a0_26 r_) := by
  intro n_
  induction n_ with
  | zero => intro a0_23 a0_24 a0_25 a0_26 r_ h_; cases h_
  | succ n_ ih_ => intro a0_23 a0_24 a0_25 a0_26 r_ h_; exact Ss_Deep_ok (Fs_Deepn n_) ih_ a0_23 a0_24 a0_25 a0_26 r_ h_
theorem Fs_Deep_ok (a0_23 : Int) (a0_24 : ByteArray) (a0_25 : Int) (a0_26 : List T_Node) (r_ : Int) (h_ : Fs_Deep a0_23 a0_24 a0_25 a0_26 = some r_) : ev EE (.call 32 [.ag [.sc (.int .i64 a0_23), .sc (.string a0_24), .sc (.int .i64 a0_25), .ls false (r_Node false a0_26)]] []) = some (Fs_Deep_ans a0_23 a0_24 a0_25 a0_26 r_) := Fs_Deepn_ok FU a0_23 a0_24 a0_25 a0_26 r_ h_
def Fs_Size_ans (a0_28 : Int) (a0_29 : ByteArray) (a0_30 : Int) (a0_31 : List T_Node) : Int → Ans
  | q10 => .val (.sc (.int .i64 q10)) []
def Ps_Size (Rs_Size : Int → ByteArray → Int → (List T_Node) → Option Int) : Prop := ∀ (a0_28 : Int) (a0_29 : ByteArray) (a0_30 : Int) (a0_31 : List T_Node) (r_ : Int), Rs_Size a0_28 a0_29 a0_30 a0_31 = some r_ → ev EE (.call 33 [.ag [.sc (.int .i64 a0_28), .sc (.string a0_29), .sc (.int .i64 a0_30), .ls false (r_Node false a0_31)]] []) = some (Fs_Size_ans a0_28 a0_29 a0_30 a0_31 r_)
def Ls_Size_0 (Rs_Size : Int → ByteArray → Int → (List T_Node) → Option Int) : Nat → Int → Int → Int → ByteArray → Int → (List T_Node) → Option Int
  | 0, _, _, _, _, _, _ => none
  | n_ + 1, t3_5, t4_4, x0_5, x0_6, x0_7, x0_8 =>
  if t4_4 < (x0_8.length : Int) then
    bS (getI x0_8 t4_4) fun e5 =>
    bS (Rs_Size e5.op_ e5.s_ e5.n_ e5.kids_) fun r21 =>
    Ls_Size_0 Rs_Size n_ (IntKind.i64.wrap (t3_5 + r21)) (IntKind.i64.wrap (t4_4 + 1)) x0_5 x0_6 x0_7 x0_8
  else
    some t3_5
def Ls_Size_0_ans (t3_5 : Int) (t4_4 : Int) (x0_5 : Int) (x0_6 : ByteArray) (x0_7 : Int) (x0_8 : List T_Node) : Int → Ans
  | t3_6 => .out (.exit 0) { np := 0, tm := [(3, .sc (.int .i64 t3_6))], ar := [], bx := [] }
theorem Ls_Size_0_ok (Rs_Size : Int → ByteArray → Int → (List T_Node) → Option Int) (hRs_Size : Ps_Size Rs_Size) : ∀ (n_ : Nat) (t3_5 : Int) (t4_4 : Int) (x0_5 : Int) (x0_6 : ByteArray) (x0_7 : Int) (x0_8 : List T_Node) (r_ : Int), Ls_Size_0 Rs_Size n_ t3_5 t4_4 x0_5 x0_6 x0_7 x0_8 = some r_ → ev EE (.loop lp33_0 [1, 3, 4] [2, 3] { np := 0, tm := [(1, .bx 0 0), (3, .sc (.int .i64 t3_5)), (4, .sc (.int .i64 t4_4))], ar := [], bx := [(0, .b [.sc (.int .i64 x0_5), .sc (.string x0_6), .sc (.int .i64 x0_7), .ls false (r_Node false x0_8)])] }) = some (Ls_Size_0_ans t3_5 t4_4 x0_5 x0_6 x0_7 x0_8 r_) := by
  intro n_
  induction n_ with
  | zero => intro t3_5 t4_4 x0_5 x0_6 x0_7 x0_8 r_ h_; simp only [Ls_Size_0] at h_; cases h_
  | succ n_ ih_ =>
    intro t3_5 t4_4 x0_5 x0_6 x0_7 x0_8 r_ h_
    rw [ev_loop EE lp33_0.eq_1]
    simp only [Ls_Size_0] at h_
    rcases bI h_ with ⟨h1_, h_⟩ | ⟨h1_, h_⟩
    · have h1_s := h1_; try simp at h1_s
      obtain ⟨e5, h3_, h_⟩ := bS_some h_
      obtain ⟨h3_a, h3_b, h3_c, h3_d⟩ := r_Node_getI (o := false)  h3_
      try simp [-getElem?_pos] at h3_d
      obtain ⟨r21, h7_, h_⟩ := bS_some h_
      have h7_f := hRs_Size e5.op_ e5.s_ e5.n_ e5.kids_ _ h7_
      try simp [Fs_Size_ans] at h7_f
      have q_ := ih_ (IntKind.i64.wrap (t3_5 + r21)) (IntKind.i64.wrap (t4_4 + 1)) x0_5 x0_6 x0_7 x0_8 _ h_
      rcases r_ with t3_6
      all_goals (try simp [Ls_Size_0_ans] at q_)
      all_goals simp (maxSteps := 2000000) (decide := true) [-getElem?_pos, h1_, h1_s, h3_a, h3_b, h3_c, h3_d, h7_f, q_, Ls_Size_0_ans]
    · have h1_s := h1_; try simp at h1_s
      cases h_
      simp (maxSteps := 2000000) (decide := true) [-getElem?_pos, h1_, h1_s, Ls_Size_0_ans]
/-- spec.Size -/
def Ss_Size (Rs_Size : Int → ByteArray → Int → (List T_Node) → Option Int) (a0_28 : Int) (a0_29 : ByteArray) (a0_30 : Int) (a0_31 : List T_Node) : Option Int :=
  bS (Ls_Size_0 Rs_Size FU 1 0 a0_28 a0_29 a0_30 a0_31) fun r22 =>
  some r22
theorem Ss_Size_ok (Rs_Size : Int → ByteArray → Int → (List T_Node) → Option Int) (hRs_Size : Ps_Size Rs_Size) (a0_28 : Int) (a0_29 : ByteArray) (a0_30 : Int) (a0_31 : List T_Node) (r_ : Int) (h_ : Ss_Size Rs_Size a0_28 a0_29 a0_30 a0_31 = some r_) : ev EE (.call 33 [.ag [.sc (.int .i64 a0_28), .sc (.string a0_29), .sc (.int .i64 a0_30), .ls false (r_Node false a0_31)]] []) = some (Fs_Size_ans a0_28 a0_29 a0_30 a0_31 r_) := by
  rw [ev_eq]
  simp only [Ss_Size] at h_
  obtain ⟨r22, h1_, h_⟩ := bS_some h_
  have h1_f := Ls_Size_0_ok Rs_Size hRs_Size FU 1 0 a0_28 a0_29 a0_30 a0_31 _ h1_
  try simp [Ls_Size_0_ans] at h1_f
  cases h_
  simp (maxSteps := 2000000) (decide := true) [-getElem?_pos, ir33, h1_f, Fs_Size_ans]
def Fs_Sizen : Nat → Int → ByteArray → Int → (List T_Node) → Option Int
  | 0 => fun _ _ _ _ => none
  | n_ + 1 => Ss_Size (Fs_Sizen n_)
def Fs_Size (a0_28 : Int) (a0_29 : ByteArray) (a0_30 : Int) (a0_31 : List T_Node) : Option Int := Fs_Sizen FU a0_28 a0_29 a0_30 a0_31
theorem Fs_Sizen_ok : ∀ (n_ : Nat) (a0_28 : Int) (a0_29 : ByteArray) (a0_30 : Int) (a0_31 : List T_Node) (r_ : Int), Fs_Sizen n_ a0_28 a0_29 a0_30 a0_31 = some r_ → ev EE (.call 33 [.ag [.sc (.int .i64 a0_28), .sc (.string a0_29), .sc (.int .i64 a0_30), .ls false (r_Node false a0_31)]] []) = some (Fs_Size_ans a0_28 a0_29 a0_30 a0_31 r_) := by
  intro n_
  induction n_ with
  | zero => intro a0_28 a0_29 a0_30 a0_31 r_ h_; cases h_
  | succ n_ ih_ => intro a0_28 a0_29 a0_30 a0_31 r_ h_; exact Ss_Size_ok (Fs_Sizen n_) ih_ a0_28 a0_29 a0_30 a0_31 r_ h_
theorem Fs_Size_ok (a0_28 : Int) (a0_29 : ByteArray) (a0_30 : Int) (a0_31 : List T_Node) (r_ : Int) (h_ : Fs_Size a0_28 a0_29 a0_30 a0_31 = some r_) : ev EE (.call 33 [.ag [.sc (.int .i64 a0_28), .sc (.string a0_29), .sc (.int .i64 a0_30), .ls false (r_Node false a0_31)]] []) = some (Fs_Size_ans a0_28 a0_29 a0_30 a0_31 r_) := Fs_Sizen_ok FU a0_28 a0_29 a0_30 a0_31 r_ h_
/-- spec.l1In -/
def Fs_l1In (a0_40 : Int) (a1_4 : Int) (a2_1 : Int) : Option Bool :=
  if a1_4 ≤ a0_40 then
    some (decide (a0_40 ≤ a2_1))
  else
    some false
def Fs_l1In_ans (a0_40 : Int) (a1_4 : Int) (a2_1 : Int) : Bool → Ans
  | q11 => .val (.sc (.bool q11)) []
theorem Fs_l1In_ok (a0_40 : Int) (a1_4 : Int) (a2_1 : Int) (r_ : Bool) (h_ : Fs_l1In a0_40 a1_4 a2_1 = some r_) : ev EE (.call 51 [.sc (.int .i64 a0_40), .sc (.int .i64 a1_4), .sc (.int .i64 a2_1)] []) = some (Fs_l1In_ans a0_40 a1_4 a2_1 r_) := by
  rw [ev_eq]
  simp only [Fs_l1In] at h_
  rcases bI h_ with ⟨h1_, h_⟩ | ⟨h1_, h_⟩
  · cases h_
    simp (maxSteps := 2000000) (decide := true) [-getElem?_pos, ir51, h1_, Fs_l1In_ans]
  · cases h_
    simp (maxSteps := 2000000) (decide := true) [-getElem?_pos, ir51, h1_, Fs_l1In_ans]
def Fs_l13Ok_ans (a0_32 : Int) (a0_33 : ByteArray) (a0_34 : Int) (a0_35 : List T_Node) : Bool → Ans
  | q12 => .val (.sc (.bool q12)) []
def Ps_l13Ok (Rs_l13Ok : Int → ByteArray → Int → (List T_Node) → Option Bool) : Prop := ∀ (a0_32 : Int) (a0_33 : ByteArray) (a0_34 : Int) (a0_35 : List T_Node) (r_ : Bool), Rs_l13Ok a0_32 a0_33 a0_34 a0_35 = some r_ → ev EE (.call 34 [.ag [.sc (.int .i64 a0_32), .sc (.string a0_33), .sc (.int .i64 a0_34), .ls false (r_Node false a0_35)]] []) = some (Fs_l13Ok_ans a0_32 a0_33 a0_34 a0_35 r_)
def Ls_l13Kids_1 (Rs_l13Ok : Int → ByteArray → Int → (List T_Node) → Option Bool) : Nat → Int → Int → Int → ByteArray → Int → (List T_Node) → Option (Bool ⊕ Unit)
  | 0, _, _, _, _, _, _ => none
  | n_ + 1, t3_7, t4_5, x0_9, x0_10, x0_11, x0_12 =>
  if t4_5 < t3_7 then
    bS (getI x0_12 t4_5) fun e6 =>
    bS (Fs_l1In e6.op_ 2 9) fun r24 =>
    if r24 = true then
      bS (Rs_l13Ok e6.op_ e6.s_ e6.n_ e6.kids_) fun r25 =>
      if r25 = true then
        Ls_l13Kids_1 Rs_l13Ok n_ t3_7 (IntKind.i64.wrap (t4_5 + 1)) x0_9 x0_10 x0_11 x0_12
      else
        some (.inl false)
    else
      some (.inl false)
  else
    some (.inr ())
def Ls_l13Kids_1_ans (t3_7 : Int) (t4_5 : Int) (x0_9 : Int) (x0_10 : ByteArray) (x0_11 : Int) (x0_12 : List T_Node) : Bool ⊕ Unit → Ans
  | .inl t2_1 => .out .ret { np := 0, tm := [(2, .sc (.bool t2_1)), (3, .sc (.int .i64 t3_7))], ar := [], bx := [] }
  | .inr _ => .out (.exit 1) { np := 0, tm := [(3, .sc (.int .i64 t3_7))], ar := [], bx := [] }
theorem Ls_l13Kids_1_ok (Rs_l13Ok : Int → ByteArray → Int → (List T_Node) → Option Bool) (hRs_l13Ok : Ps_l13Ok Rs_l13Ok) : ∀ (n_ : Nat) (t3_7 : Int) (t4_5 : Int) (x0_9 : Int) (x0_10 : ByteArray) (x0_11 : Int) (x0_12 : List T_Node) (r_ : Bool ⊕ Unit), Ls_l13Kids_1 Rs_l13Ok n_ t3_7 t4_5 x0_9 x0_10 x0_11 x0_12 = some r_ → ev EE (.loop lp47_1 [1, 3, 4] [2, 3] { np := 0, tm := [(1, .bx 0 0), (3, .sc (.int .i64 t3_7)), (4, .sc (.int .i64 t4_5))], ar := [], bx := [(0, .b [.sc (.int .i64 x0_9), .sc (.string x0_10), .sc (.int .i64 x0_11), .ls false (r_Node false x0_12)])] }) = some (Ls_l13Kids_1_ans t3_7 t4_5 x0_9 x0_10 x0_11 x0_12 r_) := by
  intro n_
  induction n_ with
  | zero => intro t3_7 t4_5 x0_9 x0_10 x0_11 x0_12 r_ h_; simp only [Ls_l13Kids_1] at h_; cases h_
  | succ n_ ih_ =>
    intro t3_7 t4_5 x0_9 x0_10 x0_11 x0_12 r_ h_
    rw [ev_loop EE lp47_1.eq_1]
    simp only [Ls_l13Kids_1] at h_
    rcases bI h_ with ⟨h1_, h_⟩ | ⟨h1_, h_⟩
    · obtain ⟨e6, h2_, h_⟩ := bS_some h_
      obtain ⟨h2_a, h2_b, h2_c, h2_d⟩ := r_Node_getI (o := false)  h2_
      try simp [-getElem?_pos] at h2_d
      obtain ⟨r24, h6_, h_⟩ := bS_some h_
      have h6_f := Fs_l1In_ok e6.op_ 2 9 _ h6_
      try simp [Fs_l1In_ans] at h6_f
      rcases bI h_ with ⟨h7_, h_⟩ | ⟨h7_, h_⟩
      · obtain ⟨r25, h8_, h_⟩ := bS_some h_
        have h8_f := hRs_l13Ok e6.op_ e6.s_ e6.n_ e6.kids_ _ h8_
        try simp [Fs_l13Ok_ans] at h8_f
        rcases bI h_ with ⟨h9_, h_⟩ | ⟨h9_, h_⟩
        · have q_ := ih_ t3_7 (IntKind.i64.wrap (t4_5 + 1)) x0_9 x0_10 x0_11 x0_12 _ h_
          rcases r_ with t2_1 | _
          all_goals (try simp [Ls_l13Kids_1_ans] at q_)
          all_goals simp (maxSteps := 2000000) (decide := true) [-getElem?_pos, h1_, h2_a, h2_b, h2_c, h2_d, h6_f, h7_, h8_f, h9_, q_, Ls_l13Kids_1_ans]
        · cases h_
          simp (maxSteps := 2000000) (decide := true) [-getElem?_pos, h1_, h2_a, h2_b, h2_c, h2_d, h6_f, h7_, h8_f, h9_, Ls_l13Kids_1_ans]
      · cases h_
        simp (maxSteps := 2000000) (decide := true) [-getElem?_pos, h1_, h2_a, h2_b, h2_c, h2_d, h6_f, h7_, Ls_l13Kids_1_ans]
    · cases h_
      simp (maxSteps := 2000000) (decide := true) [-getElem?_pos, h1_, Ls_l13Kids_1_ans]
def Ls_l13Exprs_0 (Rs_l13Ok : Int → ByteArray → Int → (List T_Node) → Option Bool) : Nat → Int → Int → Int → ByteArray → Int → (List T_Node) → Option (Bool ⊕ Unit)
  | 0, _, _, _, _, _, _ => none
  | n_ + 1, t1_4, t5_2, x0_13, x0_14, x0_15, x0_16 =>
  if t5_2 < t1_4 then
    if t5_2 < (x0_16.length : Int) then
      bS (getI x0_16 t5_2) fun e7 =>
      bS (Fs_l1In e7.op_ 10 25) fun r27 =>
      if r27 = true then
        bS (Rs_l13Ok e7.op_ e7.s_ e7.n_ e7.kids_) fun r28 =>
        if r28 = true then
          Ls_l13Exprs_0 Rs_l13Ok n_ t1_4 (IntKind.i64.wrap (t5_2 + 1)) x0_13 x0_14 x0_15 x0_16
        else
          some (.inl false)
      else
      if e7.op_ = 27 then
        bS (Rs_l13Ok e7.op_ e7.s_ e7.n_ e7.kids_) fun r29 =>
        if r29 = true then
          Ls_l13Exprs_0 Rs_l13Ok n_ t1_4 (IntKind.i64.wrap (t5_2 + 1)) x0_13 x0_14 x0_15 x0_16
        else
          some (.inl false)
      else
        some (.inl false)
    else
      some (.inr ())
  else
    some (.inr ())
def Ls_l13Exprs_0_ans (t1_4 : Int) (t5_2 : Int) (x0_13 : Int) (x0_14 : ByteArray) (x0_15 : Int) (x0_16 : List T_Node) : Bool ⊕ Unit → Ans
  | .inl t4_6 => .out .ret { np := 0, tm := [(1, .sc (.int .i64 t1_4)), (2, .bx 0 0), (4, .sc (.bool t4_6))], ar := [], bx := [(0, .b [.sc (.int .i64 x0_13), .sc (.string x0_14), .sc (.int .i64 x0_15), .ls false (r_Node false x0_16)])] }
  | .inr _ => .out (.exit 0) { np := 0, tm := [(1, .sc (.int .i64 t1_4)), (2, .bx 0 0)], ar := [], bx := [(0, .b [.sc (.int .i64 x0_13), .sc (.string x0_14), .sc (.int .i64 x0_15), .ls false (r_Node false x0_16)])] }
theorem Ls_l13Exprs_0_ok (Rs_l13Ok : Int → ByteArray → Int → (List T_Node) → Option Bool) (hRs_l13Ok : Ps_l13Ok Rs_l13Ok) : ∀ (n_ : Nat) (t1_4 : Int) (t5_2 : Int) (x0_13 : Int) (x0_14 : ByteArray) (x0_15 : Int) (x0_16 : List T_Node) (r_ : Bool ⊕ Unit), Ls_l13Exprs_0 Rs_l13Ok n_ t1_4 t5_2 x0_13 x0_14 x0_15 x0_16 = some r_ → ev EE (.loop lp57_0 [1, 2, 5] [1, 2, 4] { np := 0, tm := [(1, .sc (.int .i64 t1_4)), (2, .bx 0 0), (5, .sc (.int .i64 t5_2))], ar := [], bx := [(0, .b [.sc (.int .i64 x0_13), .sc (.string x0_14), .sc (.int .i64 x0_15), .ls false (r_Node false x0_16)])] }) = some (Ls_l13Exprs_0_ans t1_4 t5_2 x0_13 x0_14 x0_15 x0_16 r_) := by
  intro n_
  induction n_ with
  | zero => intro t1_4 t5_2 x0_13 x0_14 x0_15 x0_16 r_ h_; simp only [Ls_l13Exprs_0] at h_; cases h_
  | succ n_ ih_ =>
    intro t1_4 t5_2 x0_13 x0_14 x0_15 x0_16 r_ h_
    rw [ev_loop EE lp57_0.eq_1]
    simp only [Ls_l13Exprs_0] at h_
    rcases bI h_ with ⟨h1_, h_⟩ | ⟨h1_, h_⟩
    · rcases bI h_ with ⟨h2_, h_⟩ | ⟨h2_, h_⟩
      · have h2_s := h2_; try simp at h2_s
        obtain ⟨e7, h4_, h_⟩ := bS_some h_
        obtain ⟨h4_a, h4_b, h4_c, h4_d⟩ := r_Node_getI (o := false)  h4_
        try simp [-getElem?_pos] at h4_d
        obtain ⟨r27, h8_, h_⟩ := bS_some h_
        have h8_f := Fs_l1In_ok e7.op_ 10 25 _ h8_
        try simp [Fs_l1In_ans] at h8_f
        rcases bI h_ with ⟨h9_, h_⟩ | ⟨h9_, h_⟩
        · obtain ⟨r28, h10_, h_⟩ := bS_some h_
          have h10_f := hRs_l13Ok e7.op_ e7.s_ e7.n_ e7.kids_ _ h10_
          try simp [Fs_l13Ok_ans] at h10_f
          rcases bI h_ with ⟨h11_, h_⟩ | ⟨h11_, h_⟩
          · have q_ := ih_ t1_4 (IntKind.i64.wrap (t5_2 + 1)) x0_13 x0_14 x0_15 x0_16 _ h_
            rcases r_ with t4_6 | _
            all_goals (try simp [Ls_l13Exprs_0_ans] at q_)
            all_goals simp (maxSteps := 2000000) (decide := true) [-getElem?_pos, h1_, h2_, h2_s, h4_a, h4_b, h4_c, h4_d, h8_f, h9_, h10_f, h11_, q_, Ls_l13Exprs_0_ans]
          · cases h_
            simp (maxSteps := 2000000) (decide := true) [-getElem?_pos, h1_, h2_, h2_s, h4_a, h4_b, h4_c, h4_d, h8_f, h9_, h10_f, h11_, Ls_l13Exprs_0_ans]
        · rcases bI h_ with ⟨h10_, h_⟩ | ⟨h10_, h_⟩
          · obtain ⟨r29, h11_, h_⟩ := bS_some h_
            have h11_f := hRs_l13Ok e7.op_ e7.s_ e7.n_ e7.kids_ _ h11_
            try simp [Fs_l13Ok_ans] at h11_f
            rcases bI h_ with ⟨h12_, h_⟩ | ⟨h12_, h_⟩
            · have q_ := ih_ t1_4 (IntKind.i64.wrap (t5_2 + 1)) x0_13 x0_14 x0_15 x0_16 _ h_
              rcases r_ with t4_6 | _
              all_goals (try simp [Ls_l13Exprs_0_ans] at q_)
              all_goals simp (maxSteps := 2000000) (decide := true) [-getElem?_pos, h1_, h2_, h2_s, h4_a, h4_b, h4_c, h4_d, h8_f, h9_, eq_true h10_, h11_f, h12_, q_, Ls_l13Exprs_0_ans]
            · cases h_
              simp (maxSteps := 2000000) (decide := true) [-getElem?_pos, h1_, h2_, h2_s, h4_a, h4_b, h4_c, h4_d, h8_f, h9_, eq_true h10_, h11_f, h12_, Ls_l13Exprs_0_ans]
          · cases h_
            simp (maxSteps := 2000000) (decide := true) [-getElem?_pos, h1_, h2_, h2_s, h4_a, h4_b, h4_c, h4_d, h8_f, h9_, h10_, Ls_l13Exprs_0_ans]
      · have h2_s := h2_; try simp at h2_s
        cases h_
        simp (maxSteps := 2000000) (decide := true) [-getElem?_pos, h1_, h2_, h2_s, Ls_l13Exprs_0_ans]
    · cases h_
      simp (maxSteps := 2000000) (decide := true) [-getElem?_pos, h1_, Ls_l13Exprs_0_ans]
/-- spec.l13Exprs -/
def Fs_l13Exprs (Rs_l13Ok : Int → ByteArray → Int → (List T_Node) → Option Bool) (a0_41 : Int) (a0_42 : ByteArray) (a0_43 : Int) (a0_44 : List T_Node) (a1_5 : Int) : Option Bool :=
  bS (Ls_l13Exprs_0 Rs_l13Ok FU a1_5 0 a0_41 a0_42 a0_43 a0_44) fun r_ => match r_ with
  | .inl r30 =>
    some r30
  | .inr () =>
    some (decide (a1_5 ≤ (a0_44.length : Int)))
def Fs_l13Exprs_ans (a0_41 : Int) (a0_42 : ByteArray) (a0_43 : Int) (a0_44 : List T_Node) (a1_5 : Int) : Bool → Ans
  | q13 => .val (.sc (.bool q13)) []
theorem Fs_l13Exprs_ok (Rs_l13Ok : Int → ByteArray → Int → (List T_Node) → Option Bool) (hRs_l13Ok : Ps_l13Ok Rs_l13Ok) (a0_41 : Int) (a0_42 : ByteArray) (a0_43 : Int) (a0_44 : List T_Node) (a1_5 : Int) (r_ : Bool) (h_ : Fs_l13Exprs Rs_l13Ok a0_41 a0_42 a0_43 a0_44 a1_5 = some r_) : ev EE (.call 57 [.ag [.sc (.int .i64 a0_41), .sc (.string a0_42), .sc (.int .i64 a0_43), .ls false (r_Node false a0_44)], .sc (.int .i64 a1_5)] []) = some (Fs_l13Exprs_ans a0_41 a0_42 a0_43 a0_44 a1_5 r_) := by
  rw [ev_eq]
  simp only [Fs_l13Exprs] at h_
  obtain ⟨r_0, h1_, h_⟩ := bS_some h_
  have h1_f := Ls_l13Exprs_0_ok Rs_l13Ok hRs_l13Ok FU a1_5 0 a0_41 a0_42 a0_43 a0_44 _ h1_
  rcases r_0 with r30 | _
  · try dsimp only at h_
    try simp [Ls_l13Exprs_0_ans] at h1_f
    cases h_
    simp (maxSteps := 2000000) (decide := true) [-getElem?_pos, ir57, h1_f, Fs_l13Exprs_ans]
  · try dsimp only at h_
    try simp [Ls_l13Exprs_0_ans] at h1_f
    cases h_
    simp (maxSteps := 2000000) (decide := true) [-getElem?_pos, ir57, h1_f, Fs_l13Exprs_ans]
end Go.Pv

namespace Go.Pv
set_option maxRecDepth 100000
set_option maxHeartbeats 40000000
set_option linter.unusedSimpArgs false
set_option linter.unusedVariables false
def Ls_l13Blocks_0 (Rs_l13Ok : Int → ByteArray → Int → (List T_Node) → Option Bool) : Nat → Int → Int → ByteArray → Int → (List T_Node) → Option (Bool ⊕ Unit)
  | 0, _, _, _, _, _ => none
  | n_ + 1, t5_3, x0_17, x0_18, x0_19, x0_20 =>
  if t5_3 < (x0_20.length : Int) then
    bS (getI x0_20 t5_3) fun e8 =>
    if e8.op_ = 1 then
      bS (Rs_l13Ok e8.op_ e8.s_ e8.n_ e8.kids_) fun r47 =>
      if r47 = true then
        Ls_l13Blocks_0 Rs_l13Ok n_ (IntKind.i64.wrap (t5_3 + 1)) x0_17 x0_18 x0_19 x0_20
      else
        some (.inl false)
    else
      some (.inl false)
  else
    some (.inr ())
def Ls_l13Blocks_0_ans (t5_3 : Int) (x0_17 : Int) (x0_18 : ByteArray) (x0_19 : Int) (x0_20 : List T_Node) : Bool ⊕ Unit → Ans
  | .inl t4_7 => .out .ret { np := 0, tm := [(4, .sc (.bool t4_7))], ar := [], bx := [] }
  | .inr _ => .out (.exit 0) { np := 0, tm := [], ar := [], bx := [] }
theorem Ls_l13Blocks_0_ok (Rs_l13Ok : Int → ByteArray → Int → (List T_Node) → Option Bool) (hRs_l13Ok : Ps_l13Ok Rs_l13Ok) : ∀ (n_ : Nat) (t5_3 : Int) (x0_17 : Int) (x0_18 : ByteArray) (x0_19 : Int) (x0_20 : List T_Node) (r_ : Bool ⊕ Unit), Ls_l13Blocks_0 Rs_l13Ok n_ t5_3 x0_17 x0_18 x0_19 x0_20 = some r_ → ev EE (.loop lp58_0 [2, 5] [4] { np := 0, tm := [(2, .bx 0 0), (5, .sc (.int .i64 t5_3))], ar := [], bx := [(0, .b [.sc (.int .i64 x0_17), .sc (.string x0_18), .sc (.int .i64 x0_19), .ls false (r_Node false x0_20)])] }) = some (Ls_l13Blocks_0_ans t5_3 x0_17 x0_18 x0_19 x0_20 r_) := by
  intro n_
  induction n_ with
  | zero => intro t5_3 x0_17 x0_18 x0_19 x0_20 r_ h_; simp only [Ls_l13Blocks_0] at h_; cases h_
  | succ n_ ih_ =>
    intro t5_3 x0_17 x0_18 x0_19 x0_20 r_ h_
    rw [ev_loop EE lp58_0.eq_1]
    simp only [Ls_l13Blocks_0] at h_
    rcases bI h_ with ⟨h1_, h_⟩ | ⟨h1_, h_⟩
    · have h1_s := h1_; try simp at h1_s
      obtain ⟨e8, h3_, h_⟩ := bS_some h_
      obtain ⟨h3_a, h3_b, h3_c, h3_d⟩ := r_Node_getI (o := false)  h3_
      try simp [-getElem?_pos] at h3_d
      rcases bI h_ with ⟨h7_, h_⟩ | ⟨h7_, h_⟩
      · obtain ⟨r47, h8_, h_⟩ := bS_some h_
        have h8_f := hRs_l13Ok e8.op_ e8.s_ e8.n_ e8.kids_ _ h8_
        try simp [Fs_l13Ok_ans] at h8_f
        rcases bI h_ with ⟨h9_, h_⟩ | ⟨h9_, h_⟩
        · have q_ := ih_ (IntKind.i64.wrap (t5_3 + 1)) x0_17 x0_18 x0_19 x0_20 _ h_
          rcases r_ with t4_7 | _
          all_goals (try simp [Ls_l13Blocks_0_ans] at q_)
          all_goals simp (maxSteps := 2000000) (decide := true) [-getElem?_pos, h1_, h1_s, h3_a, h3_b, h3_c, h3_d, eq_true h7_, h8_f, h9_, q_, Ls_l13Blocks_0_ans]
        · cases h_
          simp (maxSteps := 2000000) (decide := true) [-getElem?_pos, h1_, h1_s, h3_a, h3_b, h3_c, h3_d, eq_true h7_, h8_f, h9_, Ls_l13Blocks_0_ans]
      · cases h_
        simp (maxSteps := 2000000) (decide := true) [-getElem?_pos, h1_, h1_s, h3_a, h3_b, h3_c, h3_d, h7_, Ls_l13Blocks_0_ans]
    · have h1_s := h1_; try simp at h1_s
      cases h_
      simp (maxSteps := 2000000) (decide := true) [-getElem?_pos, h1_, h1_s, Ls_l13Blocks_0_ans]
/-- spec.l13Blocks -/
def Fs_l13Blocks (Rs_l13Ok : Int → ByteArray → Int → (List T_Node) → Option Bool) (a0_45 : Int) (a0_46 : ByteArray) (a0_47 : Int) (a0_48 : List T_Node) (a1_6 : Int) : Option Bool :=
  bS (Ls_l13Blocks_0 Rs_l13Ok FU a1_6 a0_45 a0_46 a0_47 a0_48) fun r_ => match r_ with
  | .inl r48 =>
    some r48
  | .inr () =>
    some true
def Fs_l13Blocks_ans (a0_45 : Int) (a0_46 : ByteArray) (a0_47 : Int) (a0_48 : List T_Node) (a1_6 : Int) : Bool → Ans
  | q14 => .val (.sc (.bool q14)) []
theorem Fs_l13Blocks_ok (Rs_l13Ok : Int → ByteArray → Int → (List T_Node) → Option Bool) (hRs_l13Ok : Ps_l13Ok Rs_l13Ok) (a0_45 : Int) (a0_46 : ByteArray) (a0_47 : Int) (a0_48 : List T_Node) (a1_6 : Int) (r_ : Bool) (h_ : Fs_l13Blocks Rs_l13Ok a0_45 a0_46 a0_47 a0_48 a1_6 = some r_) : ev EE (.call 58 [.ag [.sc (.int .i64 a0_45), .sc (.string a0_46), .sc (.int .i64 a0_47), .ls false (r_Node false a0_48)], .sc (.int .i64 a1_6)] []) = some (Fs_l13Blocks_ans a0_45 a0_46 a0_47 a0_48 a1_6 r_) := by
  rw [ev_eq]
  simp only [Fs_l13Blocks] at h_
  obtain ⟨r_0, h1_, h_⟩ := bS_some h_
  have h1_f := Ls_l13Blocks_0_ok Rs_l13Ok hRs_l13Ok FU a1_6 a0_45 a0_46 a0_47 a0_48 _ h1_
  rcases r_0 with r48 | _
  · try dsimp only at h_
    try simp [Ls_l13Blocks_0_ans] at h1_f
    cases h_
    simp (maxSteps := 2000000) (decide := true) [-getElem?_pos, ir58, h1_f, Fs_l13Blocks_ans]
  · try dsimp only at h_
    try simp [Ls_l13Blocks_0_ans] at h1_f
    cases h_
    simp (maxSteps := 2000000) (decide := true) [-getElem?_pos, ir58, h1_f, Fs_l13Blocks_ans]
def Ls_l13Kids_0 (Rs_l13Ok : Int → ByteArray → Int → (List T_Node) → Option Bool) : Nat → Int → Int → Int → ByteArray → Int → (List T_Node) → Option (Bool ⊕ Unit)
  | 0, _, _, _, _, _, _ => none
  | n_ + 1, t3_8, t5_4, x0_21, x0_22, x0_23, x0_24 =>
  if t5_4 < t3_8 then
    bS (getI x0_24 t5_4) fun e9 =>
    if e9.op_ = 26 then
      bS (Rs_l13Ok e9.op_ e9.s_ e9.n_ e9.kids_) fun r53 =>
      if r53 = true then
        Ls_l13Kids_0 Rs_l13Ok n_ t3_8 (IntKind.i64.wrap (t5_4 + 1)) x0_21 x0_22 x0_23 x0_24
      else
        some (.inl false)
    else
      some (.inl false)
  else
    some (.inr ())
def Ls_l13Kids_0_ans (t3_8 : Int) (t5_4 : Int) (x0_21 : Int) (x0_22 : ByteArray) (x0_23 : Int) (x0_24 : List T_Node) : Bool ⊕ Unit → Ans
  | .inl t2_2 => .out .ret { np := 0, tm := [(2, .sc (.bool t2_2)), (3, .sc (.int .i64 t3_8))], ar := [], bx := [] }
  | .inr _ => .out (.exit 3) { np := 0, tm := [(3, .sc (.int .i64 t3_8))], ar := [], bx := [] }
theorem Ls_l13Kids_0_ok (Rs_l13Ok : Int → ByteArray → Int → (List T_Node) → Option Bool) (hRs_l13Ok : Ps_l13Ok Rs_l13Ok) : ∀ (n_ : Nat) (t3_8 : Int) (t5_4 : Int) (x0_21 : Int) (x0_22 : ByteArray) (x0_23 : Int) (x0_24 : List T_Node) (r_ : Bool ⊕ Unit), Ls_l13Kids_0 Rs_l13Ok n_ t3_8 t5_4 x0_21 x0_22 x0_23 x0_24 = some r_ → ev EE (.loop lp47_0 [1, 3, 5] [2, 3] { np := 0, tm := [(1, .bx 0 0), (3, .sc (.int .i64 t3_8)), (5, .sc (.int .i64 t5_4))], ar := [], bx := [(0, .b [.sc (.int .i64 x0_21), .sc (.string x0_22), .sc (.int .i64 x0_23), .ls false (r_Node false x0_24)])] }) = some (Ls_l13Kids_0_ans t3_8 t5_4 x0_21 x0_22 x0_23 x0_24 r_) := by
  intro n_
  induction n_ with
  | zero => intro t3_8 t5_4 x0_21 x0_22 x0_23 x0_24 r_ h_; simp only [Ls_l13Kids_0] at h_; cases h_
  | succ n_ ih_ =>
    intro t3_8 t5_4 x0_21 x0_22 x0_23 x0_24 r_ h_
    rw [ev_loop EE lp47_0.eq_1]
    simp only [Ls_l13Kids_0] at h_
    rcases bI h_ with ⟨h1_, h_⟩ | ⟨h1_, h_⟩
    · obtain ⟨e9, h2_, h_⟩ := bS_some h_
      obtain ⟨h2_a, h2_b, h2_c, h2_d⟩ := r_Node_getI (o := false)  h2_
      try simp [-getElem?_pos] at h2_d
      rcases bI h_ with ⟨h6_, h_⟩ | ⟨h6_, h_⟩
      · obtain ⟨r53, h7_, h_⟩ := bS_some h_
        have h7_f := hRs_l13Ok e9.op_ e9.s_ e9.n_ e9.kids_ _ h7_
        try simp [Fs_l13Ok_ans] at h7_f
        rcases bI h_ with ⟨h8_, h_⟩ | ⟨h8_, h_⟩
        · have q_ := ih_ t3_8 (IntKind.i64.wrap (t5_4 + 1)) x0_21 x0_22 x0_23 x0_24 _ h_
          rcases r_ with t2_2 | _
          all_goals (try simp [Ls_l13Kids_0_ans] at q_)
          all_goals simp (maxSteps := 2000000) (decide := true) [-getElem?_pos, h1_, h2_a, h2_b, h2_c, h2_d, eq_true h6_, h7_f, h8_, q_, Ls_l13Kids_0_ans]
        · cases h_
          simp (maxSteps := 2000000) (decide := true) [-getElem?_pos, h1_, h2_a, h2_b, h2_c, h2_d, eq_true h6_, h7_f, h8_, Ls_l13Kids_0_ans]
      · cases h_
        simp (maxSteps := 2000000) (decide := true) [-getElem?_pos, h1_, h2_a, h2_b, h2_c, h2_d, h6_, Ls_l13Kids_0_ans]
    · cases h_
      simp (maxSteps := 2000000) (decide := true) [-getElem?_pos, h1_, Ls_l13Kids_0_ans]
/-- spec.l13Kids -/
def Fs_l13Kids (Rs_l13Ok : Int → ByteArray → Int → (List T_Node) → Option Bool) (a0_36 : Int) (a0_37 : ByteArray) (a0_38 : Int) (a0_39 : List T_Node) : Option Bool :=
  if a0_36 = 1 then
    bS (Ls_l13Kids_1 Rs_l13Ok FU (a0_39.length : Int) 0 a0_36 a0_37 a0_38 a0_39) fun r_ => match r_ with
    | .inl r26 =>
      some r26
    | .inr () =>
      some true
  else
  if a0_36 = 2 then
    if (a0_39.length : Int) = 1 then
      bS (Fs_l13Exprs Rs_l13Ok a0_36 a0_37 a0_38 a0_39 1) fun r31 =>
      some r31
    else
      some false
  else
  if a0_36 = 3 then
    if (a0_39.length : Int) = 1 then
      bS (Fs_l13Exprs Rs_l13Ok a0_36 a0_37 a0_38 a0_39 1) fun r32 =>
      some r32
    else
      some false
  else
  if a0_36 = 7 then
    if (a0_39.length : Int) = 1 then
      bS (Fs_l13Exprs Rs_l13Ok a0_36 a0_37 a0_38 a0_39 1) fun r33 =>
      some r33
    else
      some false
  else
  if a0_36 = 8 then
    if (a0_39.length : Int) = 1 then
      bS (Fs_l13Exprs Rs_l13Ok a0_36 a0_37 a0_38 a0_39 1) fun r34 =>
      some r34
    else
      some false
  else
  if a0_36 = 9 then
    if (a0_39.length : Int) = 1 then
      bS (Fs_l13Exprs Rs_l13Ok a0_36 a0_37 a0_38 a0_39 1) fun r35 =>
      some r35
    else
      some false
  else
  if a0_36 = 17 then
    if (a0_39.length : Int) = 1 then
      bS (Fs_l13Exprs Rs_l13Ok a0_36 a0_37 a0_38 a0_39 1) fun r36 =>
      some r36
    else
      some false
  else
  if a0_36 = 24 then
    if (a0_39.length : Int) = 1 then
      bS (Fs_l13Exprs Rs_l13Ok a0_36 a0_37 a0_38 a0_39 1) fun r37 =>
      some r37
    else
      some false
  else
  if a0_36 = 26 then
    if (a0_39.length : Int) = 1 then
      bS (Fs_l13Exprs Rs_l13Ok a0_36 a0_37 a0_38 a0_39 1) fun r38 =>
      some r38
    else
      some false
  else
  if a0_36 = 4 then
    if (a0_39.length : Int) = 2 then
      bS (Fs_l13Exprs Rs_l13Ok a0_36 a0_37 a0_38 a0_39 2) fun r39 =>
      some r39
    else
      some false
  else
  if a0_36 = 19 then
    if (a0_39.length : Int) = 2 then
      bS (Fs_l13Exprs Rs_l13Ok a0_36 a0_37 a0_38 a0_39 2) fun r40 =>
      some r40
    else
      some false
  else
  if a0_36 = 20 then
    if (a0_39.length : Int) = 2 then
      bS (Fs_l13Exprs Rs_l13Ok a0_36 a0_37 a0_38 a0_39 2) fun r41 =>
      some r41
    else
      some false
  else
  if a0_36 = 21 then
    if (a0_39.length : Int) = 2 then
      bS (Fs_l13Exprs Rs_l13Ok a0_36 a0_37 a0_38 a0_39 2) fun r42 =>
      some r42
    else
      some false
  else
  if a0_36 = 22 then
    if (a0_39.length : Int) = 2 then
      bS (Fs_l13Exprs Rs_l13Ok a0_36 a0_37 a0_38 a0_39 2) fun r43 =>
      some r43
    else
      some false
  else
  if a0_36 = 23 then
    if (a0_39.length : Int) = 2 then
      bS (Fs_l13Exprs Rs_l13Ok a0_36 a0_37 a0_38 a0_39 2) fun r44 =>
      some r44
    else
      some false
  else
  if a0_36 = 5 then
    bS (Fs_l1In (a0_39.length : Int) 2 3) fun r45 =>
    if r45 = true then
      bS (Fs_l13Exprs Rs_l13Ok a0_36 a0_37 a0_38 a0_39 1) fun r46 =>
      if r46 = true then
        bS (Fs_l13Blocks Rs_l13Ok a0_36 a0_37 a0_38 a0_39 1) fun r49 =>
        some r49
      else
        some false
    else
      some false
  else
  if a0_36 = 6 then
    if (a0_39.length : Int) = 2 then
      bS (Fs_l13Exprs Rs_l13Ok a0_36 a0_37 a0_38 a0_39 1) fun r50 =>
      if r50 = true then
        bS (Fs_l13Blocks Rs_l13Ok a0_36 a0_37 a0_38 a0_39 1) fun r51 =>
        some r51
      else
        some false
    else
      some false
  else
  if a0_36 = 18 then
    if 1 ≤ (a0_39.length : Int) then
      bS (Fs_l13Exprs Rs_l13Ok a0_36 a0_37 a0_38 a0_39 (a0_39.length : Int)) fun r52 =>
      some r52
    else
      some false
  else
  if a0_36 = 25 then
    bS (Ls_l13Kids_0 Rs_l13Ok FU (a0_39.length : Int) 0 a0_36 a0_37 a0_38 a0_39) fun r_ => match r_ with
    | .inl r54 =>
      some r54
    | .inr () =>
      some true
  else
  if a0_36 = 27 then
    if (a0_39.length : Int) = 1 then
      bS (Fs_l13Blocks Rs_l13Ok a0_36 a0_37 a0_38 a0_39 0) fun r55 =>
      some r55
    else
      some false
  else
    some (decide ((a0_39.length : Int) = 0))
def Fs_l13Kids_ans (a0_36 : Int) (a0_37 : ByteArray) (a0_38 : Int) (a0_39 : List T_Node) : Bool → Ans
  | q15 => .val (.sc (.bool q15)) []
theorem Fs_l13Kids_ok (Rs_l13Ok : Int → ByteArray → Int → (List T_Node) → Option Bool) (hRs_l13Ok : Ps_l13Ok Rs_l13Ok) (a0_36 : Int) (a0_37 : ByteArray) (a0_38 : Int) (a0_39 : List T_Node) (r_ : Bool) (h_ : Fs_l13Kids Rs_l13Ok a0_36 a0_37 a0_38 a0_39 = some r_) : ev EE (.call 47 [.ag [.sc (.int .i64 a0_36), .sc (.string a0_37), .sc (.int .i64 a0_38), .ls false (r_Node false a0_39)]] []) = some (Fs_l13Kids_ans a0_36 a0_37 a0_38 a0_39 r_) := by
  rw [ev_eq]
  simp only [Fs_l13Kids] at h_
  rcases bI h_ with ⟨h1_, h_⟩ | ⟨h1_, h_⟩
  · obtain ⟨r_1, h2_, h_⟩ := bS_some h_
    have h2_f := Ls_l13Kids_1_ok Rs_l13Ok hRs_l13Ok FU (a0_39.length : Int) 0 a0_36 a0_37 a0_38 a0_39 _ h2_
    rcases r_1 with r26 | _
    · try dsimp only at h_
      try simp [Ls_l13Kids_1_ans] at h2_f
      cases h_
      simp (maxSteps := 2000000) (decide := true) [-getElem?_pos, ir47, eq_true h1_, h2_f, Fs_l13Kids_ans]
    · try dsimp only at h_
      try simp [Ls_l13Kids_1_ans] at h2_f
      cases h_
      simp (maxSteps := 2000000) (decide := true) [-getElem?_pos, ir47, eq_true h1_, h2_f, Fs_l13Kids_ans]
  · rcases bI h_ with ⟨h2_, h_⟩ | ⟨h2_, h_⟩
    · rcases bI h_ with ⟨h3_, h_⟩ | ⟨h3_, h_⟩
      · have h3_s := h3_; try simp at h3_s
        obtain ⟨r31, h5_, h_⟩ := bS_some h_
        have h5_f := Fs_l13Exprs_ok Rs_l13Ok hRs_l13Ok a0_36 a0_37 a0_38 a0_39 1 _ h5_
        try simp [Fs_l13Exprs_ans] at h5_f
        cases h_
        simp (maxSteps := 2000000) (decide := true) [-getElem?_pos, ir47, h1_, eq_true h2_, eq_true h3_, eq_true h3_s, h5_f, Fs_l13Kids_ans]
      · have h3_s := h3_; try simp at h3_s
        cases h_
        simp (maxSteps := 2000000) (decide := true) [-getElem?_pos, ir47, h1_, eq_true h2_, h3_, h3_s, Fs_l13Kids_ans]
    · rcases bI h_ with ⟨h3_, h_⟩ | ⟨h3_, h_⟩
      · rcases bI h_ with ⟨h4_, h_⟩ | ⟨h4_, h_⟩
        · have h4_s := h4_; try simp at h4_s
          obtain ⟨r32, h6_, h_⟩ := bS_some h_
          have h6_f := Fs_l13Exprs_ok Rs_l13Ok hRs_l13Ok a0_36 a0_37 a0_38 a0_39 1 _ h6_
          try simp [Fs_l13Exprs_ans] at h6_f
          cases h_
          simp (maxSteps := 2000000) (decide := true) [-getElem?_pos, ir47, h1_, h2_, eq_true h3_, eq_true h4_, eq_true h4_s, h6_f, Fs_l13Kids_ans]
        · have h4_s := h4_; try simp at h4_s
          cases h_
          simp (maxSteps := 2000000) (decide := true) [-getElem?_pos, ir47, h1_, h2_, eq_true h3_, h4_, h4_s, Fs_l13Kids_ans]
      · rcases bI h_ with ⟨h4_, h_⟩ | ⟨h4_, h_⟩
        · rcases bI h_ with ⟨h5_, h_⟩ | ⟨h5_, h_⟩
          · have h5_s := h5_; try simp at h5_s
            obtain ⟨r33, h7_, h_⟩ := bS_some h_
            have h7_f := Fs_l13Exprs_ok Rs_l13Ok hRs_l13Ok a0_36 a0_37 a0_38 a0_39 1 _ h7_
            try simp [Fs_l13Exprs_ans] at h7_f
            cases h_
            simp (maxSteps := 2000000) (decide := true) [-getElem?_pos, ir47, h1_, h2_, h3_, eq_true h4_, eq_true h5_, eq_true h5_s, h7_f, Fs_l13Kids_ans]
          · have h5_s := h5_; try simp at h5_s
            cases h_
            simp (maxSteps := 2000000) (decide := true) [-getElem?_pos, ir47, h1_, h2_, h3_, eq_true h4_, h5_, h5_s, Fs_l13Kids_ans]
        · rcases bI h_ with ⟨h5_, h_⟩ | ⟨h5_, h_⟩
          · rcases bI h_ with ⟨h6_, h_⟩ | ⟨h6_, h_⟩
            · have h6_s := h6_; try simp at h6_s
              obtain ⟨r34, h8_, h_⟩ := bS_some h_
              have h8_f := Fs_l13Exprs_ok Rs_l13Ok hRs_l13Ok a0_36 a0_37 a0_38 a0_39 1 _ h8_
              try simp [Fs_l13Exprs_ans] at h8_f
              cases h_
              simp (maxSteps := 2000000) (decide := true) [-getElem?_pos, ir47, h1_, h2_, h3_, h4_, eq_true h5_, eq_true h6_, eq_true h6_s, h8_f, Fs_l13Kids_ans]
            · have h6_s := h6_; try simp at h6_s
              cases h_
              simp (maxSteps := 2000000) (decide := true) [-getElem?_pos, ir47, h1_, h2_, h3_, h4_, eq_true h5_, h6_, h6_s, Fs_l13Kids_ans]
          · rcases bI h_ with ⟨h6_, h_⟩ | ⟨h6_, h_⟩
            · rcases bI h_ with ⟨h7_, h_⟩ | ⟨h7_, h_⟩
              · have h7_s := h7_; try simp at h7_s
                obtain ⟨r35, h9_, h_⟩ := bS_some h_
                have h9_f := Fs_l13Exprs_ok Rs_l13Ok hRs_l13Ok a0_36 a0_37 a0_38 a0_39 1 _ h9_
                try simp [Fs_l13Exprs_ans] at h9_f
                cases h_
                simp (maxSteps := 2000000) (decide := true) [-getElem?_pos, ir47, h1_, h2_, h3_, h4_, h5_, eq_true h6_, eq_true h7_, eq_true h7_s, h9_f, Fs_l13Kids_ans]
              · have h7_s := h7_; try simp at h7_s
                cases h_
                simp (maxSteps := 2000000) (decide := true) [-getElem?_pos, ir47, h1_, h2_, h3_, h4_, h5_, eq_true h6_, h7_, h7_s, Fs_l13Kids_ans]
            · rcases bI h_ with ⟨h7_, h_⟩ | ⟨h7_, h_⟩
              · rcases bI h_ with ⟨h8_, h_⟩ | ⟨h8_, h_⟩
                · have h8_s := h8_; try simp at h8_s
                  obtain ⟨r36, h10_, h_⟩ := bS_some h_
                  have h10_f := Fs_l13Exprs_ok Rs_l13Ok hRs_l13Ok a0_36 a0_37 a0_38 a0_39 1 _ h10_
                  try simp [Fs_l13Exprs_ans] at h10_f
                  cases h_
                  simp (maxSteps := 2000000) (decide := true) [-getElem?_pos, ir47, h1_, h2_, h3_, h4_, h5_, h6_, eq_true h7_, eq_true h8_, eq_true h8_s, h10_f, Fs_l13Kids_ans]
                · have h8_s := h8_; try simp at h8_s
                  cases h_
                  simp (maxSteps := 2000000) (decide := true) [-getElem?_pos, ir47, h1_, h2_, h3_, h4_, h5_, h6_, eq_true h7_, h8_, h8_s, Fs_l13Kids_ans]
              · rcases bI h_ with ⟨h8_, h_⟩ | ⟨h8_, h_⟩
                · rcases bI h_ with ⟨h9_, h_⟩ | ⟨h9_, h_⟩
                  · have h9_s := h9_; try simp at h9_s
                    obtain ⟨r37, h11_, h_⟩ := bS_some h_
                    have h11_f := Fs_l13Exprs_ok Rs_l13Ok hRs_l13Ok a0_36 a0_37 a0_38 a0_39 1 _ h11_
                    try simp [Fs_l13Exprs_ans] at h11_f
                    cases h_
                    simp (maxSteps := 2000000) (decide := true) [-getElem?_pos, ir47, h1_, h2_, h3_, h4_, h5_, h6_, h7_, eq_true h8_, eq_true h9_, eq_true h9_s, h11_f, Fs_l13Kids_ans]
                  · have h9_s := h9_; try simp at h9_s
                    cases h_
                    simp (maxSteps := 2000000) (decide := true) [-getElem?_pos, ir47, h1_, h2_, h3_, h4_, h5_, h6_, h7_, eq_true h8_, h9_, h9_s, Fs_l13Kids_ans]
                · rcases bI h_ with ⟨h9_, h_⟩ | ⟨h9_, h_⟩
                  · rcases bI h_ with ⟨h10_, h_⟩ | ⟨h10_, h_⟩
                    · have h10_s := h10_; try simp at h10_s
                      obtain ⟨r38, h12_, h_⟩ := bS_some h_
                      have h12_f := Fs_l13Exprs_ok Rs_l13Ok hRs_l13Ok a0_36 a0_37 a0_38 a0_39 1 _ h12_
                      try simp [Fs_l13Exprs_ans] at h12_f
                      cases h_
                      simp (maxSteps := 2000000) (decide := true) [-getElem?_pos, ir47, h1_, h2_, h3_, h4_, h5_, h6_, h7_, h8_, eq_true h9_, eq_true h10_, eq_true h10_s, h12_f, Fs_l13Kids_ans]
                    · have h10_s := h10_; try simp at h10_s
                      cases h_
                      simp (maxSteps := 2000000) (decide := true) [-getElem?_pos, ir47, h1_, h2_, h3_, h4_, h5_, h6_, h7_, h8_, eq_true h9_, h10_, h10_s, Fs_l13Kids_ans]
                  · rcases bI h_ with ⟨h10_, h_⟩ | ⟨h10_, h_⟩
                    · rcases bI h_ with ⟨h11_, h_⟩ | ⟨h11_, h_⟩
                      · have h11_s := h11_; try simp at h11_s
                        obtain ⟨r39, h13_, h_⟩ := bS_some h_
                        have h13_f := Fs_l13Exprs_ok Rs_l13Ok hRs_l13Ok a0_36 a0_37 a0_38 a0_39 2 _ h13_
                        try simp [Fs_l13Exprs_ans] at h13_f
                        cases h_
                        simp (maxSteps := 2000000) (decide := true) [-getElem?_pos, ir47, h1_, h2_, h3_, h4_, h5_, h6_, h7_, h8_, h9_, eq_true h10_, eq_true h11_, eq_true h11_s, h13_f, Fs_l13Kids_ans]
                      · have h11_s := h11_; try simp at h11_s
                        cases h_
                        simp (maxSteps := 2000000) (decide := true) [-getElem?_pos, ir47, h1_, h2_, h3_, h4_, h5_, h6_, h7_, h8_, h9_, eq_true h10_, h11_, h11_s, Fs_l13Kids_ans]
                    · rcases bI h_ with ⟨h11_, h_⟩ | ⟨h11_, h_⟩
                      · rcases bI h_ with ⟨h12_, h_⟩ | ⟨h12_, h_⟩
                        · have h12_s := h12_; try simp at h12_s
                          obtain ⟨r40, h14_, h_⟩ := bS_some h_
                          have h14_f := Fs_l13Exprs_ok Rs_l13Ok hRs_l13Ok a0_36 a0_37 a0_38 a0_39 2 _ h14_
                          try simp [Fs_l13Exprs_ans] at h14_f
                          cases h_
                          simp (maxSteps := 2000000) (decide := true) [-getElem?_pos, ir47, h1_, h2_, h3_, h4_, h5_, h6_, h7_, h8_, h9_, h10_, eq_true h11_, eq_true h12_, eq_true h12_s, h14_f, Fs_l13Kids_ans]
                        · have h12_s := h12_; try simp at h12_s
                          cases h_
                          simp (maxSteps := 2000000) (decide := true) [-getElem?_pos, ir47, h1_, h2_, h3_, h4_, h5_, h6_, h7_, h8_, h9_, h10_, eq_true h11_, h12_, h12_s, Fs_l13Kids_ans]
                      · rcases bI h_ with ⟨h12_, h_⟩ | ⟨h12_, h_⟩
                        · rcases bI h_ with ⟨h13_, h_⟩ | ⟨h13_, h_⟩
                          · have h13_s := h13_; try simp at h13_s
                            obtain ⟨r41, h15_, h_⟩ := bS_some h_
                            have h15_f := Fs_l13Exprs_ok Rs_l13Ok hRs_l13Ok a0_36 a0_37 a0_38 a0_39 2 _ h15_
                            try simp [Fs_l13Exprs_ans] at h15_f
                            cases h_
                            simp (maxSteps := 2000000) (decide := true) [-getElem?_pos, ir47, h1_, h2_, h3_, h4_, h5_, h6_, h7_, h8_, h9_, h10_, h11_, eq_true h12_, eq_true h13_, eq_true h13_s, h15_f, Fs_l13Kids_ans]
                          · have h13_s := h13_; try simp at h13_s
                            cases h_
                            simp (maxSteps := 2000000) (decide := true) [-getElem?_pos, ir47, h1_, h2_, h3_, h4_, h5_, h6_, h7_, h8_, h9_, h10_, h11_, eq_true h12_, h13_, h13_s, Fs_l13Kids_ans]
                        · rcases bI h_ with ⟨h13_, h_⟩ | ⟨h13_, h_⟩
                          · rcases bI h_ with ⟨h14_, h_⟩ | ⟨h14_, h_⟩
                            · have h14_s := h14_; try simp at h14_s
                              obtain ⟨r42, h16_, h_⟩ := bS_some h_
                              have h16_f := Fs_l13Exprs_ok Rs_l13Ok hRs_l13Ok a0_36 a0_37 a0_38 a0_39 2 _ h16_
                              try simp [Fs_l13Exprs_ans] at h16_f
                              cases h_
                              simp (maxSteps := 2000000) (decide := true) [-getElem?_pos, ir47, h1_, h2_, h3_, h4_, h5_, h6_, h7_, h8_, h9_, h10_, h11_, h12_, eq_true h13_, eq_true h14_, eq_true h14_s, h16_f, Fs_l13Kids_ans]
                            · have h14_s := h14_; try simp at h14_s
                              cases h_
                              simp (maxSteps := 2000000) (decide := true) [-getElem?_pos, ir47, h1_, h2_, h3_, h4_, h5_, h6_, h7_, h8_, h9_, h10_, h11_, h12_, eq_true h13_, h14_, h14_s, Fs_l13Kids_ans]
                          · rcases bI h_ with ⟨h14_, h_⟩ | ⟨h14_, h_⟩
                            · rcases bI h_ with ⟨h15_, h_⟩ | ⟨h15_, h_⟩
                              · have h15_s := h15_; try simp at h15_s
                                obtain ⟨r43, h17_, h_⟩ := bS_some h_
                                have h17_f := Fs_l13Exprs_ok Rs_l13Ok hRs_l13Ok a0_36 a0_37 a0_38 a0_39 2 _ h17_
                                try simp [Fs_l13Exprs_ans] at h17_f
                                cases h_
                                simp (maxSteps := 2000000) (decide := true) [-getElem?_pos, ir47, h1_, h2_, h3_, h4_, h5_, h6_, h7_, h8_, h9_, h10_, h11_, h12_, h13_, eq_true h14_, eq_true h15_, eq_true h15_s, h17_f, Fs_l13Kids_ans]
                              · have h15_s := h15_; try simp at h15_s
                                cases h_
                                simp (maxSteps := 2000000) (decide := true) [-getElem?_pos, ir47, h1_, h2_, h3_, h4_, h5_, h6_, h7_, h8_, h9_, h10_, h11_, h12_, h13_, eq_true h14_, h15_, h15_s, Fs_l13Kids_ans]
                            · rcases bI h_ with ⟨h15_, h_⟩ | ⟨h15_, h_⟩
                              · rcases bI h_ with ⟨h16_, h_⟩ | ⟨h16_, h_⟩
                                · have h16_s := h16_; try simp at h16_s
                                  obtain ⟨r44, h18_, h_⟩ := bS_some h_
                                  have h18_f := Fs_l13Exprs_ok Rs_l13Ok hRs_l13Ok a0_36 a0_37 a0_38 a0_39 2 _ h18_
                                  try simp [Fs_l13Exprs_ans] at h18_f
                                  cases h_
                                  simp (maxSteps := 2000000) (decide := true) [-getElem?_pos, ir47, h1_, h2_, h3_, h4_, h5_, h6_, h7_, h8_, h9_, h10_, h11_, h12_, h13_, h14_, eq_true h15_, eq_true h16_, eq_true h16_s, h18_f, Fs_l13Kids_ans]
                                · have h16_s := h16_; try simp at h16_s
                                  cases h_
                                  simp (maxSteps := 2000000) (decide := true) [-getElem?_pos, ir47, h1_, h2_, h3_, h4_, h5_, h6_, h7_, h8_, h9_, h10_, h11_, h12_, h13_, h14_, eq_true h15_, h16_, h16_s, Fs_l13Kids_ans]
                              · rcases bI h_ with ⟨h16_, h_⟩ | ⟨h16_, h_⟩
                                · obtain ⟨r45, h17_, h_⟩ := bS_some h_
                                  have h17_f := Fs_l1In_ok (a0_39.length : Int) 2 3 _ h17_
                                  try simp [Fs_l1In_ans] at h17_f
                                  rcases bI h_ with ⟨h18_, h_⟩ | ⟨h18_, h_⟩
                                  · obtain ⟨r46, h19_, h_⟩ := bS_some h_
                                    have h19_f := Fs_l13Exprs_ok Rs_l13Ok hRs_l13Ok a0_36 a0_37 a0_38 a0_39 1 _ h19_
                                    try simp [Fs_l13Exprs_ans] at h19_f
                                    rcases bI h_ with ⟨h20_, h_⟩ | ⟨h20_, h_⟩
                                    · obtain ⟨r49, h21_, h_⟩ := bS_some h_
                                      have h21_f := Fs_l13Blocks_ok Rs_l13Ok hRs_l13Ok a0_36 a0_37 a0_38 a0_39 1 _ h21_
                                      try simp [Fs_l13Blocks_ans] at h21_f
                                      cases h_
                                      simp (maxSteps := 2000000) (decide := true) [-getElem?_pos, ir47, h1_, h2_, h3_, h4_, h5_, h6_, h7_, h8_, h9_, h10_, h11_, h12_, h13_, h14_, h15_, eq_true h16_, h17_f, h18_, h19_f, h20_, h21_f, Fs_l13Kids_ans]
                                    · cases h_
                                      simp (maxSteps := 2000000) (decide := true) [-getElem?_pos, ir47, h1_, h2_, h3_, h4_, h5_, h6_, h7_, h8_, h9_, h10_, h11_, h12_, h13_, h14_, h15_, eq_true h16_, h17_f, h18_, h19_f, h20_, Fs_l13Kids_ans]
                                  · cases h_
                                    simp (maxSteps := 2000000) (decide := true) [-getElem?_pos, ir47, h1_, h2_, h3_, h4_, h5_, h6_, h7_, h8_, h9_, h10_, h11_, h12_, h13_, h14_, h15_, eq_true h16_, h17_f, h18_, Fs_l13Kids_ans]
                                · rcases bI h_ with ⟨h17_, h_⟩ | ⟨h17_, h_⟩
                                  · rcases bI h_ with ⟨h18_, h_⟩ | ⟨h18_, h_⟩
                                    · have h18_s := h18_; try simp at h18_s
                                      obtain ⟨r50, h20_, h_⟩ := bS_some h_
                                      have h20_f := Fs_l13Exprs_ok Rs_l13Ok hRs_l13Ok a0_36 a0_37 a0_38 a0_39 1 _ h20_
                                      try simp [Fs_l13Exprs_ans] at h20_f
                                      rcases bI h_ with ⟨h21_, h_⟩ | ⟨h21_, h_⟩
                                      · obtain ⟨r51, h22_, h_⟩ := bS_some h_
                                        have h22_f := Fs_l13Blocks_ok Rs_l13Ok hRs_l13Ok a0_36 a0_37 a0_38 a0_39 1 _ h22_
                                        try simp [Fs_l13Blocks_ans] at h22_f
                                        cases h_
                                        simp (maxSteps := 2000000) (decide := true) [-getElem?_pos, ir47, h1_, h2_, h3_, h4_, h5_, h6_, h7_, h8_, h9_, h10_, h11_, h12_, h13_, h14_, h15_, h16_, eq_true h17_, eq_true h18_, eq_true h18_s, h20_f, h21_, h22_f, Fs_l13Kids_ans]
                                      · cases h_
                                        simp (maxSteps := 2000000) (decide := true) [-getElem?_pos, ir47, h1_, h2_, h3_, h4_, h5_, h6_, h7_, h8_, h9_, h10_, h11_, h12_, h13_, h14_, h15_, h16_, eq_true h17_, eq_true h18_, eq_true h18_s, h20_f, h21_, Fs_l13Kids_ans]
                                    · have h18_s := h18_; try simp at h18_s
                                      cases h_
                                      simp (maxSteps := 2000000) (decide := true) [-getElem?_pos, ir47, h1_, h2_, h3_, h4_, h5_, h6_, h7_, h8_, h9_, h10_, h11_, h12_, h13_, h14_, h15_, h16_, eq_true h17_, h18_, h18_s, Fs_l13Kids_ans]
                                  · rcases bI h_ with ⟨h18_, h_⟩ | ⟨h18_, h_⟩
                                    · rcases bI h_ with ⟨h19_, h_⟩ | ⟨h19_, h_⟩
                                      · have h19_s := h19_; try simp at h19_s
                                        obtain ⟨r52, h21_, h_⟩ := bS_some h_
                                        have h21_f := Fs_l13Exprs_ok Rs_l13Ok hRs_l13Ok a0_36 a0_37 a0_38 a0_39 (a0_39.length : Int) _ h21_
                                        try simp [Fs_l13Exprs_ans] at h21_f
                                        cases h_
                                        simp (maxSteps := 2000000) (decide := true) [-getElem?_pos, ir47, h1_, h2_, h3_, h4_, h5_, h6_, h7_, h8_, h9_, h10_, h11_, h12_, h13_, h14_, h15_, h16_, h17_, eq_true h18_, h19_, h19_s, h21_f, Fs_l13Kids_ans]
                                      · have h19_s := h19_; try simp at h19_s
                                        cases h_
                                        simp (maxSteps := 2000000) (decide := true) [-getElem?_pos, ir47, h1_, h2_, h3_, h4_, h5_, h6_, h7_, h8_, h9_, h10_, h11_, h12_, h13_, h14_, h15_, h16_, h17_, eq_true h18_, h19_, h19_s, Fs_l13Kids_ans]
                                    · rcases bI h_ with ⟨h19_, h_⟩ | ⟨h19_, h_⟩
                                      · obtain ⟨r_19, h20_, h_⟩ := bS_some h_
                                        have h20_f := Ls_l13Kids_0_ok Rs_l13Ok hRs_l13Ok FU (a0_39.length : Int) 0 a0_36 a0_37 a0_38 a0_39 _ h20_
                                        rcases r_19 with r54 | _
                                        · try dsimp only at h_
                                          try simp [Ls_l13Kids_0_ans] at h20_f
                                          cases h_
                                          simp (maxSteps := 2000000) (decide := true) [-getElem?_pos, ir47, h1_, h2_, h3_, h4_, h5_, h6_, h7_, h8_, h9_, h10_, h11_, h12_, h13_, h14_, h15_, h16_, h17_, h18_, eq_true h19_, h20_f, Fs_l13Kids_ans]
                                        · try dsimp only at h_
                                          try simp [Ls_l13Kids_0_ans] at h20_f
                                          cases h_
                                          simp (maxSteps := 2000000) (decide := true) [-getElem?_pos, ir47, h1_, h2_, h3_, h4_, h5_, h6_, h7_, h8_, h9_, h10_, h11_, h12_, h13_, h14_, h15_, h16_, h17_, h18_, eq_true h19_, h20_f, Fs_l13Kids_ans]
                                      · rcases bI h_ with ⟨h20_, h_⟩ | ⟨h20_, h_⟩
                                        · rcases bI h_ with ⟨h21_, h_⟩ | ⟨h21_, h_⟩
                                          · have h21_s := h21_; try simp at h21_s
                                            obtain ⟨r55, h23_, h_⟩ := bS_some h_
                                            have h23_f := Fs_l13Blocks_ok Rs_l13Ok hRs_l13Ok a0_36 a0_37 a0_38 a0_39 0 _ h23_
                                            try simp [Fs_l13Blocks_ans] at h23_f
                                            cases h_
                                            simp (maxSteps := 2000000) (decide := true) [-getElem?_pos, ir47, h1_, h2_, h3_, h4_, h5_, h6_, h7_, h8_, h9_, h10_, h11_, h12_, h13_, h14_, h15_, h16_, h17_, h18_, h19_, eq_true h20_, eq_true h21_, eq_true h21_s, h23_f, Fs_l13Kids_ans]
                                          · have h21_s := h21_; try simp at h21_s
                                            cases h_
                                            simp (maxSteps := 2000000) (decide := true) [-getElem?_pos, ir47, h1_, h2_, h3_, h4_, h5_, h6_, h7_, h8_, h9_, h10_, h11_, h12_, h13_, h14_, h15_, h16_, h17_, h18_, h19_, eq_true h20_, h21_, h21_s, Fs_l13Kids_ans]
                                        · cases h_
                                          simp (maxSteps := 2000000) (decide := true) [-getElem?_pos, ir47, h1_, h2_, h3_, h4_, h5_, h6_, h7_, h8_, h9_, h10_, h11_, h12_, h13_, h14_, h15_, h16_, h17_, h18_, h19_, h20_, Fs_l13Kids_ans]
structure T_Token where
  kind_ : Int
  text_ : ByteArray
  n_ : Int
  at_ : Int
def e_Token (x : T_Token) : List V := [.sc (.int .i64 x.kind_), .sc (.string x.text_), .sc (.int .i64 x.n_), .sc (.int .i64 x.at_)]
def r_Token (xs : List T_Token) : List (List V) := xs.map (e_Token)
@[simp] theorem r_Token_nil : r_Token [] = [] := nr rfl
@[simp] theorem r_Token_len (xs : List T_Token) : (r_Token xs).length = xs.length := by simp [r_Token]
@[simp] theorem r_Token_all (xs : List T_Token) : allLen 4 (r_Token xs) = true := by simp [r_Token, allLen, e_Token]
@[simp] theorem r_Token_emp (xs : List T_Token) : (r_Token xs).isEmpty = xs.isEmpty := by cases xs <;> rfl
@[simp] theorem r_Token_app (xs ys : List T_Token) : r_Token xs ++ r_Token ys = r_Token (xs ++ ys) := by simp [r_Token]
@[simp] theorem r_Token_app1 (xs : List T_Token) (c0 : Int) (c1 : ByteArray) (c2 : Int) (c3 : Int) : r_Token xs ++ [[V.sc (.int .i64 c0), V.sc (.string c1), V.sc (.int .i64 c2), V.sc (.int .i64 c3)]] = r_Token (xs ++ [⟨c0, c1, c2, c3⟩]) := by simp [r_Token, e_Token]
@[simp] theorem r_Token_one (c0 : Int) (c1 : ByteArray) (c2 : Int) (c3 : Int) : [[V.sc (.int .i64 c0), V.sc (.string c1), V.sc (.int .i64 c2), V.sc (.int .i64 c3)]] = r_Token [⟨c0, c1, c2, c3⟩] := by simp [r_Token, e_Token]
@[simp] theorem r_Token_cons (c0 : Int) (c1 : ByteArray) (c2 : Int) (c3 : Int) (l : List T_Token) : [V.sc (.int .i64 c0), V.sc (.string c1), V.sc (.int .i64 c2), V.sc (.int .i64 c3)] :: r_Token l = r_Token (⟨c0, c1, c2, c3⟩ :: l) := by simp [r_Token, e_Token]
@[simp] theorem r_Token_set (xs : List T_Token) (i : Nat) (c0 : Int) (c1 : ByteArray) (c2 : Int) (c3 : Int) : (r_Token xs).set i [V.sc (.int .i64 c0), V.sc (.string c1), V.sc (.int .i64 c2), V.sc (.int .i64 c3)] = r_Token (xs.set i ⟨c0, c1, c2, c3⟩) := by simp [r_Token, e_Token, List.map_set]
@[simp] theorem r_Token_sub (xs : List T_Token) (a n : Nat) : sub (r_Token xs) a n = r_Token ((xs.drop a).take n) := by simp [sub, r_Token, List.map_drop, List.map_take]
@[simp] theorem r_Token_rep (n : Nat) : List.replicate n [V.sc (.int .i64 0), V.sc (.string ⟨#[]⟩), V.sc (.int .i64 0), V.sc (.int .i64 0)] = r_Token (List.replicate n ⟨0, ⟨#[]⟩, 0, 0⟩) := by simp [r_Token, e_Token]
@[simp] theorem r_Token_frz (xs : List T_Token) : frzR (r_Token xs) = r_Token xs := by
  induction xs with
  | nil => rfl
  | cons x xs ih => simp [r_Token, e_Token, frzR, frzL, frz] at ih ⊢; exact ih
@[simp] theorem r_Token_hasFz (xs : List T_Token) : hasFzR (r_Token xs) = false := by
  induction xs with
  | nil => rfl
  | cons x xs ih => simp [r_Token, e_Token, hasFzR, hasFzL, hasFz] at ih ⊢; exact ih
@[simp] theorem r_Token_noH (xs : List T_Token) : noH (r_Token xs) = true := by simp [noH, r_Token, e_Token, isRf]
@[simp] theorem r_Token_sameL (xs ys : List T_Token) : sameL (r_Token xs) (r_Token ys) = true := sameL_len (r_Token_all xs) (r_Token_all ys)
@[simp] theorem r_Token_flat (xs : List T_Token) : flatR (r_Token xs) = true := by simp [flatR, flat1, r_Token, e_Token]
theorem r_Token_getI {xs : List T_Token} {i : Int} {x : T_Token} (h : getI xs i = some x) : 0 ≤ i ∧ i < xs.length ∧ i.toNat < xs.length ∧ (r_Token xs)[i.toNat]? = some [.sc (.int .i64 x.kind_), .sc (.string x.text_), .sc (.int .i64 x.n_), .sc (.int .i64 x.at_)] := by
  obtain ⟨h1, h2, h3⟩ := getI_some h
  exact ⟨h1, h2, by omega, by simp [r_Token, h3, e_Token]⟩
theorem r_Token_getN {xs : List T_Token} {i : Nat} {x : T_Token} (h : xs[i]? = some x) : (r_Token xs)[i]? = some [.sc (.int .i64 x.kind_), .sc (.string x.text_), .sc (.int .i64 x.n_), .sc (.int .i64 x.at_)] := by simp [r_Token, h, e_Token]
/-- spec.l11Letter -/
def Fs_l11Letter (a0_52 : Int) : Option Bool :=
  if 97 ≤ a0_52 then
    if a0_52 ≤ 122 then
      some true
    else
    if 65 ≤ a0_52 then
      some (decide (a0_52 ≤ 90))
    else
      some false
  else
  if 65 ≤ a0_52 then
    some (decide (a0_52 ≤ 90))
  else
    some false
def Fs_l11Letter_ans (a0_52 : Int) : Bool → Ans
  | q16 => .val (.sc (.bool q16)) []
theorem Fs_l11Letter_ok (a0_52 : Int) (r_ : Bool) (h_ : Fs_l11Letter a0_52 = some r_) : ev EE (.call 85 [.sc (.int .u8 a0_52)] []) = some (Fs_l11Letter_ans a0_52 r_) := by
  rw [ev_eq]
  simp only [Fs_l11Letter] at h_
  rcases bI h_ with ⟨h1_, h_⟩ | ⟨h1_, h_⟩
  · rcases bI h_ with ⟨h2_, h_⟩ | ⟨h2_, h_⟩
    · cases h_
      simp (maxSteps := 2000000) (decide := true) [-getElem?_pos, ir85, h1_, h2_, Fs_l11Letter_ans]
    · rcases bI h_ with ⟨h3_, h_⟩ | ⟨h3_, h_⟩
      · cases h_
        simp (maxSteps := 2000000) (decide := true) [-getElem?_pos, ir85, h1_, h2_, h3_, Fs_l11Letter_ans]
      · cases h_
        simp (maxSteps := 2000000) (decide := true) [-getElem?_pos, ir85, h1_, h2_, h3_, Fs_l11Letter_ans]
  · rcases bI h_ with ⟨h2_, h_⟩ | ⟨h2_, h_⟩
    · cases h_
      simp (maxSteps := 2000000) (decide := true) [-getElem?_pos, ir85, h1_, h2_, Fs_l11Letter_ans]
    · cases h_
      simp (maxSteps := 2000000) (decide := true) [-getElem?_pos, ir85, h1_, h2_, Fs_l11Letter_ans]
/-- spec.l11Digit -/
def Fs_l11Digit (a0_54 : Int) : Option Bool :=
  if 48 ≤ a0_54 then
    some (decide (a0_54 ≤ 57))
  else
    some false
def Fs_l11Digit_ans (a0_54 : Int) : Bool → Ans
  | q17 => .val (.sc (.bool q17)) []
theorem Fs_l11Digit_ok (a0_54 : Int) (r_ : Bool) (h_ : Fs_l11Digit a0_54 = some r_) : ev EE (.call 87 [.sc (.int .u8 a0_54)] []) = some (Fs_l11Digit_ans a0_54 r_) := by
  rw [ev_eq]
  simp only [Fs_l11Digit] at h_
  rcases bI h_ with ⟨h1_, h_⟩ | ⟨h1_, h_⟩
  · cases h_
    simp (maxSteps := 2000000) (decide := true) [-getElem?_pos, ir87, h1_, Fs_l11Digit_ans]
  · cases h_
    simp (maxSteps := 2000000) (decide := true) [-getElem?_pos, ir87, h1_, Fs_l11Digit_ans]
def Ls_l11Name_0 : Nat → ByteArray → Int → Int → Int → ByteArray → Int → Int → Option Int
  | 0, _, _, _, _, _, _, _ => none
  | n_ + 1, t0_4, t1_5, t7_1, x0_25, x0_26, x0_27, x0_28 =>
  if t7_1 < (t0_4.size : Int) then
    bS (getB t0_4 t7_1) fun b3 =>
    bS (Fs_l11Letter (b3.toNat : Int)) fun r58 =>
    if r58 = true then
      Ls_l11Name_0 n_ t0_4 t1_5 (IntKind.i64.wrap (t7_1 + 1)) x0_25 x0_26 x0_27 x0_28
    else
    bS (Fs_l11Digit (b3.toNat : Int)) fun r59 =>
    if r59 = true then
      Ls_l11Name_0 n_ t0_4 t1_5 (IntKind.i64.wrap (t7_1 + 1)) x0_25 x0_26 x0_27 x0_28
    else
      some t7_1
  else
    some t7_1
def Ls_l11Name_0_ans (t0_4 : ByteArray) (t1_5 : Int) (t7_1 : Int) (x0_25 : Int) (x0_26 : ByteArray) (x0_27 : Int) (x0_28 : Int) : Int → Ans
  | t7_2 => .out (.exit 0) { np := 0, tm := [(0, .sc (.string t0_4)), (1, .sc (.int .i64 t1_5)), (4, .bx 0 0), (7, .sc (.int .i64 t7_2))], ar := [], bx := [(0, .b [.sc (.int .i64 x0_25), .sc (.string x0_26), .sc (.int .i64 x0_27), .sc (.int .i64 x0_28)])] }
theorem Ls_l11Name_0_ok : ∀ (n_ : Nat) (t0_4 : ByteArray) (t1_5 : Int) (t7_1 : Int) (x0_25 : Int) (x0_26 : ByteArray) (x0_27 : Int) (x0_28 : Int) (r_ : Int), Ls_l11Name_0 n_ t0_4 t1_5 t7_1 x0_25 x0_26 x0_27 x0_28 = some r_ → ev EE (.loop lp86_0 [0, 1, 4, 7] [0, 1, 4, 5, 6, 7] { np := 0, tm := [(0, .sc (.string t0_4)), (1, .sc (.int .i64 t1_5)), (4, .bx 0 0), (7, .sc (.int .i64 t7_1))], ar := [], bx := [(0, .b [.sc (.int .i64 x0_25), .sc (.string x0_26), .sc (.int .i64 x0_27), .sc (.int .i64 x0_28)])] }) = some (Ls_l11Name_0_ans t0_4 t1_5 t7_1 x0_25 x0_26 x0_27 x0_28 r_) := by
  intro n_
  induction n_ with
  | zero => intro t0_4 t1_5 t7_1 x0_25 x0_26 x0_27 x0_28 r_ h_; simp only [Ls_l11Name_0] at h_; cases h_
  | succ n_ ih_ =>
    intro t0_4 t1_5 t7_1 x0_25 x0_26 x0_27 x0_28 r_ h_
    rw [ev_loop EE lp86_0.eq_1]
    simp only [Ls_l11Name_0] at h_
    rcases bI h_ with ⟨h1_, h_⟩ | ⟨h1_, h_⟩
    · have h1_s := h1_; try simp at h1_s
      obtain ⟨b3, h3_, h_⟩ := bS_some h_
      obtain ⟨h3_a, h3_b, h3_c, h3_d⟩ := getB_some h3_
      try simp [-getElem?_pos] at h3_d
      obtain ⟨r58, h7_, h_⟩ := bS_some h_
      have h7_f := Fs_l11Letter_ok (b3.toNat : Int) _ h7_
      try simp [Fs_l11Letter_ans] at h7_f
      rcases bI h_ with ⟨h8_, h_⟩ | ⟨h8_, h_⟩
      · have q_ := ih_ t0_4 t1_5 (IntKind.i64.wrap (t7_1 + 1)) x0_25 x0_26 x0_27 x0_28 _ h_
        rcases r_ with t7_2
        all_goals (try simp [Ls_l11Name_0_ans] at q_)
        all_goals simp (maxSteps := 2000000) (decide := true) [-getElem?_pos, h1_, h1_s, h3_a, h3_b, h3_c, h3_d, h7_f, h8_, q_, Ls_l11Name_0_ans]
      · obtain ⟨r59, h9_, h_⟩ := bS_some h_
        have h9_f := Fs_l11Digit_ok (b3.toNat : Int) _ h9_
        try simp [Fs_l11Digit_ans] at h9_f
        rcases bI h_ with ⟨h10_, h_⟩ | ⟨h10_, h_⟩
        · have q_ := ih_ t0_4 t1_5 (IntKind.i64.wrap (t7_1 + 1)) x0_25 x0_26 x0_27 x0_28 _ h_
          rcases r_ with t7_2
          all_goals (try simp [Ls_l11Name_0_ans] at q_)
          all_goals simp (maxSteps := 2000000) (decide := true) [-getElem?_pos, h1_, h1_s, h3_a, h3_b, h3_c, h3_d, h7_f, h8_, h9_f, h10_, q_, Ls_l11Name_0_ans]
        · cases h_
          simp (maxSteps := 2000000) (decide := true) [-getElem?_pos, h1_, h1_s, h3_a, h3_b, h3_c, h3_d, h7_f, h8_, h9_f, h10_, Ls_l11Name_0_ans]
    · have h1_s := h1_; try simp at h1_s
      cases h_
      simp (maxSteps := 2000000) (decide := true) [-getElem?_pos, h1_, h1_s, Ls_l11Name_0_ans]
end Go.Pv
