/- Proof: the functions as Lean functions, and that these are what they evaluate to, first part. No condition. -/
import Derived.Test.YthddchcckpmgoaaDoorIm
set_option autoImplicit true
set_option relaxedAutoImplicit true
set_option linter.unusedSimpArgs false
set_option linter.unusedVariables false
namespace Go.Pv
set_option maxRecDepth 100000
set_option maxHeartbeats 40000000
set_option linter.unusedSimpArgs false
set_option linter.unusedVariables false
structure T_Node where
  op_ : Int
  s_ : ByteArray
  n_ : Int
  kids_ : List T_Node
mutual
def e_Node (o : Bool) : T_Node → List V
  | ⟨c0, c1, c2, c3⟩ => [.sc (.int .i64 c0), .sc (.string c1), .sc (.int .i64 c2), .ls o (r_Node o c3)]
def r_Node (o : Bool) : List T_Node → List (List V)
  | [] => []
  | x :: l => e_Node o x :: r_Node o l
end
theorem r_Node_map {o : Bool} (xs : List T_Node) : r_Node o xs = xs.map (e_Node o) := by
  induction xs with
  | nil => rfl
  | cons x l ih => simp [r_Node, ih]
theorem e_Node_eq {o : Bool} (x : T_Node) : e_Node o x = [.sc (.int .i64 x.op_), .sc (.string x.s_), .sc (.int .i64 x.n_), .ls o (r_Node o x.kids_)] := by cases x; simp [e_Node]
@[simp] theorem r_Node_nil {o : Bool} : r_Node o [] = [] := nr rfl
@[simp] theorem r_Node_len {o : Bool} (xs : List T_Node) : (r_Node o xs).length = xs.length := by simp [r_Node_map]
@[simp] theorem r_Node_all {o : Bool} (xs : List T_Node) : allLen 4 (r_Node o xs) = true := by simp [r_Node_map, allLen, e_Node_eq]
@[simp] theorem r_Node_emp {o : Bool} (xs : List T_Node) : (r_Node o xs).isEmpty = xs.isEmpty := by cases xs <;> rfl
@[simp] theorem r_Node_app {o : Bool} (xs ys : List T_Node) : r_Node o xs ++ r_Node o ys = r_Node o (xs ++ ys) := by simp [r_Node_map]
@[simp] theorem r_Node_app1 {o : Bool} (xs : List T_Node) (c0 : Int) (c1 : ByteArray) (c2 : Int) (c3 : List T_Node) : r_Node o xs ++ [[V.sc (.int .i64 c0), V.sc (.string c1), V.sc (.int .i64 c2), V.ls o (r_Node o c3)]] = r_Node o (xs ++ [⟨c0, c1, c2, c3⟩]) := by simp [r_Node_map, e_Node_eq]
@[simp] theorem r_Node_one {o : Bool} (c0 : Int) (c1 : ByteArray) (c2 : Int) (c3 : List T_Node) : [[V.sc (.int .i64 c0), V.sc (.string c1), V.sc (.int .i64 c2), V.ls o (r_Node o c3)]] = r_Node o [⟨c0, c1, c2, c3⟩] := by simp [r_Node_map, e_Node_eq]
@[simp] theorem r_Node_set {o : Bool} (xs : List T_Node) (i : Nat) (c0 : Int) (c1 : ByteArray) (c2 : Int) (c3 : List T_Node) : (r_Node o xs).set i [V.sc (.int .i64 c0), V.sc (.string c1), V.sc (.int .i64 c2), V.ls o (r_Node o c3)] = r_Node o (xs.set i ⟨c0, c1, c2, c3⟩) := by simp [r_Node_map, e_Node_eq, List.map_set]
@[simp] theorem r_Node_sub {o : Bool} (xs : List T_Node) (a n : Nat) : sub (r_Node o xs) a n = r_Node o ((xs.drop a).take n) := by simp [sub, r_Node_map, List.map_drop, List.map_take]
@[simp] theorem r_Node_rep (n : Nat) : List.replicate n [V.sc (.int .i64 0), V.sc (.string ⟨#[]⟩), V.sc (.int .i64 0), V.ls true []] = r_Node true (List.replicate n ⟨0, ⟨#[]⟩, 0, []⟩) := by simp [r_Node_map, e_Node_eq]
mutual
theorem e_Node_frz (o : Bool) : ∀ x : T_Node, frzL (e_Node o x) = e_Node false x
  | ⟨c0, c1, c2, c3⟩ => by simp [e_Node, frzL, frz, r_Node_frz]
@[simp] theorem r_Node_frz {o : Bool} : ∀ xs : List T_Node, frzR (r_Node o xs) = r_Node false xs
  | [] => by simp [r_Node, frzR]
  | x :: l => by simp [r_Node, frzR, e_Node_frz o x, r_Node_frz l]
end
mutual
theorem e_Node_hasFz : ∀ x : T_Node, hasFzL (e_Node true x) = false
  | ⟨c0, c1, c2, c3⟩ => by simp [e_Node, hasFzL, hasFz, r_Node_hasFz]
@[simp] theorem r_Node_hasFz : ∀ xs : List T_Node, hasFzR (r_Node true xs) = false
  | [] => by simp [r_Node, hasFzR]
  | x :: l => by simp [r_Node, hasFzR, e_Node_hasFz x, r_Node_hasFz l]
end
@[simp] theorem r_Node_noH {o : Bool} (xs : List T_Node) : noH (r_Node o xs) = true := by simp [noH, r_Node_map, e_Node_eq, isRf]
@[simp] theorem r_Node_sameL {o o2 : Bool} (xs ys : List T_Node) : sameL (r_Node o xs) (r_Node o2 ys) = true := sameL_len (r_Node_all xs) (r_Node_all ys)
theorem r_Node_getI {o : Bool} {xs : List T_Node} {i : Int} {x : T_Node} (h : getI xs i = some x) : 0 ≤ i ∧ i < xs.length ∧ i.toNat < xs.length ∧ (r_Node o xs)[i.toNat]? = some [.sc (.int .i64 x.op_), .sc (.string x.s_), .sc (.int .i64 x.n_), .ls o (r_Node o x.kids_)] := by
  obtain ⟨h1, h2, h3⟩ := getI_some h
  exact ⟨h1, h2, by omega, by simp [r_Node_map, h3, e_Node_eq]⟩
theorem r_Node_getN {o : Bool} {xs : List T_Node} {i : Nat} {x : T_Node} (h : xs[i]? = some x) : (r_Node o xs)[i]? = some [.sc (.int .i64 x.op_), .sc (.string x.s_), .sc (.int .i64 x.n_), .ls o (r_Node o x.kids_)] := by simp [r_Node_map, h, e_Node_eq]
def F6_ans (a0_5 : Int) (a0_6 : ByteArray) (a0_7 : Int) (a0_8 : List T_Node) (a1_1 : Int) : Int → Ans
  | q1 => .val (.sc (.int .i64 q1)) []
def L22_0 (R6 : Int → ByteArray → Int → (List T_Node) → Int → Option Int) : Nat → (List T_Node) → Int → Int → Option ((Int × Int) ⊕ Int)
  | 0, _, _, _ => none
  | n_ + 1, t0_1, t1_1, t5_1 =>
  if t5_1 < (t0_1.length : Int) then
    bS (getI t0_1 t5_1) fun e1 =>
    bS (R6 e1.op_ e1.s_ e1.n_ e1.kids_ t1_1) fun r1 =>
    if r1 < 0 then
      some (.inl (r1, (-1)))
    else
      L22_0 R6 n_ t0_1 r1 (IntKind.i64.wrap (t5_1 + 1))
  else
    some (.inr t1_1)
def L22_0_ans (t0_1 : List T_Node) (t1_1 : Int) (t5_1 : Int) : (Int × Int) ⊕ Int → Ans
  | .inl (t1_2, t4_1) => .out .ret { np := 0, tm := [(1, .sc (.int .i64 t1_2)), (4, .sc (.int .i64 t4_1))], ar := [], bx := [] }
  | .inr t1_3 => .out (.exit 0) { np := 0, tm := [(1, .sc (.int .i64 t1_3))], ar := [], bx := [] }
theorem L22_0_ok (R6 : Int → ByteArray → Int → (List T_Node) → Int → Option Int) (hR6 : ∀ (a0_5 : Int) (a0_6 : ByteArray) (a0_7 : Int) (a0_8 : List T_Node) (a1_1 : Int) (r_ : Int), R6 a0_5 a0_6 a0_7 a0_8 a1_1 = some r_ → ev EE (.call 6 [.ag [.sc (.int .i64 a0_5), .sc (.string a0_6), .sc (.int .i64 a0_7), .ls false (r_Node false a0_8)], .sc (.int .i64 a1_1)] []) = some (F6_ans a0_5 a0_6 a0_7 a0_8 a1_1 r_)) : ∀ (n_ : Nat) (t0_1 : List T_Node) (t1_1 : Int) (t5_1 : Int) (r_ : (Int × Int) ⊕ Int), L22_0 R6 n_ t0_1 t1_1 t5_1 = some r_ → ev EE (.loop lp22_0 [0, 1, 5] [1, 4] { np := 0, tm := [(0, .ls false (r_Node false t0_1)), (1, .sc (.int .i64 t1_1)), (5, .sc (.int .i64 t5_1))], ar := [], bx := [] }) = some (L22_0_ans t0_1 t1_1 t5_1 r_) := by
  intro n_
  induction n_ with
  | zero => intro t0_1 t1_1 t5_1 r_ h_; simp only [L22_0] at h_; cases h_
  | succ n_ ih_ =>
    intro t0_1 t1_1 t5_1 r_ h_
    rw [ev_loop EE lp22_0.eq_1]
    simp only [L22_0] at h_
    by_cases h1_ : t5_1 < (t0_1.length : Int)
    · rw [if_pos h1_] at h_
      have h1_s := h1_
      try simp at h1_s
      obtain ⟨e1, h3_, h_⟩ := bS_some h_
      obtain ⟨h3_a, h3_b, h3_c, h3_d⟩ := r_Node_getI (o := false)  h3_
      try simp [-getElem?_pos] at h3_d
      obtain ⟨r1, h7_, h_⟩ := bS_some h_
      have h7_f := hR6 e1.op_ e1.s_ e1.n_ e1.kids_ t1_1 _ h7_
      try simp [F6_ans] at h7_f
      by_cases h8_ : r1 < 0
      · rw [if_pos h8_] at h_
        cases h_
        simp (maxSteps := 2000000) (decide := true) [-getElem?_pos, h1_, h1_s, h3_a, h3_b, h3_c, h3_d, h7_f, h8_, L22_0_ans]
      · rw [if_neg h8_] at h_
        have q_ := ih_ t0_1 r1 (IntKind.i64.wrap (t5_1 + 1)) _ h_
        rcases r_ with ⟨t1_2, t4_1⟩ | t1_3
        all_goals (try simp [L22_0_ans] at q_)
        all_goals simp (maxSteps := 2000000) (decide := true) [-getElem?_pos, h1_, h1_s, h3_a, h3_b, h3_c, h3_d, h7_f, h8_, q_, L22_0_ans]
    · rw [if_neg h1_] at h_
      have h1_s := h1_
      try simp at h1_s
      cases h_
      simp (maxSteps := 2000000) (decide := true) [-getElem?_pos, h1_, h1_s, L22_0_ans]
/-- laws.szNodeS -/
def F22 (R6 : Int → ByteArray → Int → (List T_Node) → Int → Option Int) (a0_9 : List T_Node) (a1_2 : Int) : Option Int :=
  if IntKind.i64.wrap (a1_2 - (a0_9.length : Int)) < 0 then
    some (-1)
  else
  bS (L22_0 R6 FU a0_9 (IntKind.i64.wrap (a1_2 - (a0_9.length : Int))) 0) fun r_ => match r_ with
  | .inl (r2, r3) =>
    some r3
  | .inr r4 =>
    some r4
def F22_ans (a0_9 : List T_Node) (a1_2 : Int) : Int → Ans
  | q2 => .val (.sc (.int .i64 q2)) []
theorem F22_ok (R6 : Int → ByteArray → Int → (List T_Node) → Int → Option Int) (hR6 : ∀ (a0_5 : Int) (a0_6 : ByteArray) (a0_7 : Int) (a0_8 : List T_Node) (a1_1 : Int) (r_ : Int), R6 a0_5 a0_6 a0_7 a0_8 a1_1 = some r_ → ev EE (.call 6 [.ag [.sc (.int .i64 a0_5), .sc (.string a0_6), .sc (.int .i64 a0_7), .ls false (r_Node false a0_8)], .sc (.int .i64 a1_1)] []) = some (F6_ans a0_5 a0_6 a0_7 a0_8 a1_1 r_)) (a0_9 : List T_Node) (a1_2 : Int) (r_ : Int) (h_ : F22 R6 a0_9 a1_2 = some r_) : ev EE (.call 22 [.ls false (r_Node false a0_9), .sc (.int .i64 a1_2)] []) = some (F22_ans a0_9 a1_2 r_) := by
  rw [ev_eq]
  simp only [F22] at h_
  by_cases h1_ : IntKind.i64.wrap (a1_2 - (a0_9.length : Int)) < 0
  · rw [if_pos h1_] at h_
    have h1_s := h1_
    try simp at h1_s
    cases h_
    simp (maxSteps := 2000000) (decide := true) [-getElem?_pos, ir22, h1_, h1_s, F22_ans]
  · rw [if_neg h1_] at h_
    have h1_s := h1_
    try simp at h1_s
    obtain ⟨r_2, h3_, h_⟩ := bS_some h_
    have h3_f := L22_0_ok R6 hR6 FU a0_9 (IntKind.i64.wrap (a1_2 - (a0_9.length : Int))) 0 _ h3_
    rcases r_2 with ⟨r2, r3⟩ | r4
    · try dsimp only at h_
      try simp [L22_0_ans] at h3_f
      cases h_
      simp (maxSteps := 2000000) (decide := true) [-getElem?_pos, ir22, h1_, h1_s, h3_f, F22_ans]
    · try dsimp only at h_
      try simp [L22_0_ans] at h3_f
      cases h_
      simp (maxSteps := 2000000) (decide := true) [-getElem?_pos, ir22, h1_, h1_s, h3_f, F22_ans]
/-- laws.szNode -/
def S6 (R6 : Int → ByteArray → Int → (List T_Node) → Int → Option Int) (a0_5 : Int) (a0_6 : ByteArray) (a0_7 : Int) (a0_8 : List T_Node) (a1_1 : Int) : Option Int :=
  if IntKind.i64.wrap (a1_1 - (a0_6.size : Int)) < 0 then
    some (-1)
  else
  bS (F22 R6 a0_8 (IntKind.i64.wrap (a1_1 - (a0_6.size : Int)))) fun r5 =>
  if r5 < 0 then
    some (-1)
  else
    some r5
theorem S6_ok (R6 : Int → ByteArray → Int → (List T_Node) → Int → Option Int) (hR6 : ∀ (a0_5 : Int) (a0_6 : ByteArray) (a0_7 : Int) (a0_8 : List T_Node) (a1_1 : Int) (r_ : Int), R6 a0_5 a0_6 a0_7 a0_8 a1_1 = some r_ → ev EE (.call 6 [.ag [.sc (.int .i64 a0_5), .sc (.string a0_6), .sc (.int .i64 a0_7), .ls false (r_Node false a0_8)], .sc (.int .i64 a1_1)] []) = some (F6_ans a0_5 a0_6 a0_7 a0_8 a1_1 r_)) (a0_5 : Int) (a0_6 : ByteArray) (a0_7 : Int) (a0_8 : List T_Node) (a1_1 : Int) (r_ : Int) (h_ : S6 R6 a0_5 a0_6 a0_7 a0_8 a1_1 = some r_) : ev EE (.call 6 [.ag [.sc (.int .i64 a0_5), .sc (.string a0_6), .sc (.int .i64 a0_7), .ls false (r_Node false a0_8)], .sc (.int .i64 a1_1)] []) = some (F6_ans a0_5 a0_6 a0_7 a0_8 a1_1 r_) := by
  rw [ev_eq]
  simp only [S6] at h_
  by_cases h1_ : IntKind.i64.wrap (a1_1 - (a0_6.size : Int)) < 0
  · rw [if_pos h1_] at h_
    have h1_s := h1_
    try simp at h1_s
    cases h_
    simp (maxSteps := 2000000) (decide := true) [-getElem?_pos, ir6, h1_, h1_s, F6_ans]
  · rw [if_neg h1_] at h_
    have h1_s := h1_
    try simp at h1_s
    obtain ⟨r5, h3_, h_⟩ := bS_some h_
    have h3_f := F22_ok R6 hR6 a0_8 (IntKind.i64.wrap (a1_1 - (a0_6.size : Int))) _ h3_
    try simp [F22_ans] at h3_f
    by_cases h4_ : r5 < 0
    · rw [if_pos h4_] at h_
      cases h_
      simp (maxSteps := 2000000) (decide := true) [-getElem?_pos, ir6, h1_, h1_s, h3_f, h4_, F6_ans]
    · rw [if_neg h4_] at h_
      cases h_
      simp (maxSteps := 2000000) (decide := true) [-getElem?_pos, ir6, h1_, h1_s, h3_f, h4_, F6_ans]
def F6n : Nat → Int → ByteArray → Int → (List T_Node) → Int → Option Int
  | 0 => fun _ _ _ _ _ => none
  | n_ + 1 => S6 (F6n n_)
def F6 (a0_5 : Int) (a0_6 : ByteArray) (a0_7 : Int) (a0_8 : List T_Node) (a1_1 : Int) : Option Int := F6n FU a0_5 a0_6 a0_7 a0_8 a1_1
theorem F6n_ok : ∀ (n_ : Nat) (a0_5 : Int) (a0_6 : ByteArray) (a0_7 : Int) (a0_8 : List T_Node) (a1_1 : Int) (r_ : Int), F6n n_ a0_5 a0_6 a0_7 a0_8 a1_1 = some r_ → ev EE (.call 6 [.ag [.sc (.int .i64 a0_5), .sc (.string a0_6), .sc (.int .i64 a0_7), .ls false (r_Node false a0_8)], .sc (.int .i64 a1_1)] []) = some (F6_ans a0_5 a0_6 a0_7 a0_8 a1_1 r_) := by
  intro n_
  induction n_ with
  | zero => intro a0_5 a0_6 a0_7 a0_8 a1_1 r_ h_; cases h_
  | succ n_ ih_ => intro a0_5 a0_6 a0_7 a0_8 a1_1 r_ h_; exact S6_ok (F6n n_) ih_ a0_5 a0_6 a0_7 a0_8 a1_1 r_ h_
theorem F6_ok (a0_5 : Int) (a0_6 : ByteArray) (a0_7 : Int) (a0_8 : List T_Node) (a1_1 : Int) (r_ : Int) (h_ : F6 a0_5 a0_6 a0_7 a0_8 a1_1 = some r_) : ev EE (.call 6 [.ag [.sc (.int .i64 a0_5), .sc (.string a0_6), .sc (.int .i64 a0_7), .ls false (r_Node false a0_8)], .sc (.int .i64 a1_1)] []) = some (F6_ans a0_5 a0_6 a0_7 a0_8 a1_1 r_) := F6n_ok FU a0_5 a0_6 a0_7 a0_8 a1_1 r_ h_
def F8_ans (a0_10 : Int) (a0_11 : ByteArray) (a0_12 : Int) (a0_13 : List T_Node) : (Int × ByteArray × Int × (List T_Node)) → Ans
  | (q3, q4, q5, q6) => .val (.ag [.sc (.int .i64 q3), .sc (.string q4), .sc (.int .i64 q5), .ls true (r_Node true q6)]) []
def L25_0 (R8 : Int → ByteArray → Int → (List T_Node) → Option (Int × ByteArray × Int × (List T_Node))) : Nat → (List T_Node) → (List T_Node) → Int → Option (List T_Node)
  | 0, _, _, _ => none
  | n_ + 1, t0_2, t3_1, t4_2 =>
  if t4_2 < (t0_2.length : Int) then
    bS (getI t0_2 t4_2) fun e2 =>
    bS (R8 e2.op_ e2.s_ e2.n_ e2.kids_) fun (r7, r8, r9, r10) =>
    bS (getI t3_1 t4_2) fun e3 =>
    L25_0 R8 n_ t0_2 (List.set t3_1 t4_2.toNat (⟨r7, r8, r9, r10⟩ : T_Node)) (IntKind.i64.wrap (t4_2 + 1))
  else
    some t3_1
def L25_0_ans (t0_2 : List T_Node) (t3_1 : List T_Node) (t4_2 : Int) : (List T_Node) → Ans
  | t3_2 => .out (.exit 0) { np := 0, tm := [(3, .rf 0 0 t3_2.length)], ar := [(0, .a false (r_Node true t3_2))], bx := [] }
theorem L25_0_ok (R8 : Int → ByteArray → Int → (List T_Node) → Option (Int × ByteArray × Int × (List T_Node))) (hR8 : ∀ (a0_10 : Int) (a0_11 : ByteArray) (a0_12 : Int) (a0_13 : List T_Node) (r_ : (Int × ByteArray × Int × (List T_Node))), R8 a0_10 a0_11 a0_12 a0_13 = some r_ → ev EE (.call 8 [.ag [.sc (.int .i64 a0_10), .sc (.string a0_11), .sc (.int .i64 a0_12), .ls false (r_Node false a0_13)]] []) = some (F8_ans a0_10 a0_11 a0_12 a0_13 r_)) : ∀ (n_ : Nat) (t0_2 : List T_Node) (t3_1 : List T_Node) (t4_2 : Int) (r_ : (List T_Node)), L25_0 R8 n_ t0_2 t3_1 t4_2 = some r_ → ev EE (.loop lp25_0 [0, 3, 4] [2, 3] { np := 0, tm := [(0, .ls false (r_Node false t0_2)), (3, .rf 0 0 t3_1.length), (4, .sc (.int .i64 t4_2))], ar := [(0, .a false (r_Node true t3_1))], bx := [] }) = some (L25_0_ans t0_2 t3_1 t4_2 r_) := by
  intro n_
  induction n_ with
  | zero => intro t0_2 t3_1 t4_2 r_ h_; simp only [L25_0] at h_; cases h_
  | succ n_ ih_ =>
    intro t0_2 t3_1 t4_2 r_ h_
    rw [ev_loop EE lp25_0.eq_1]
    simp only [L25_0] at h_
    by_cases h1_ : t4_2 < (t0_2.length : Int)
    · rw [if_pos h1_] at h_
      have h1_s := h1_
      try simp at h1_s
      obtain ⟨e2, h3_, h_⟩ := bS_some h_
      obtain ⟨h3_a, h3_b, h3_c, h3_d⟩ := r_Node_getI (o := false)  h3_
      try simp [-getElem?_pos] at h3_d
      obtain ⟨⟨r7, r8, r9, r10⟩, h7_, h_⟩ := bS_some h_
      try dsimp only at h_
      have h7_f := hR8 e2.op_ e2.s_ e2.n_ e2.kids_ _ h7_
      try simp [F8_ans] at h7_f
      obtain ⟨e3, h8_, h_⟩ := bS_some h_
      obtain ⟨h8_a, h8_b, h8_c, h8_d⟩ := r_Node_getI (o := true)  h8_
      try simp [-getElem?_pos] at h8_d
      have q_ := ih_ t0_2 (List.set t3_1 t4_2.toNat (⟨r7, r8, r9, r10⟩ : T_Node)) (IntKind.i64.wrap (t4_2 + 1)) _ h_
      rcases r_ with t3_2
      all_goals (try simp [L25_0_ans] at q_)
      all_goals simp (maxSteps := 2000000) (decide := true) [-getElem?_pos, h1_, h1_s, h3_a, h3_b, h3_c, h3_d, h7_f, h8_a, h8_b, h8_c, h8_d, q_, L25_0_ans]
    · rw [if_neg h1_] at h_
      have h1_s := h1_
      try simp at h1_s
      cases h_
      simp (maxSteps := 2000000) (decide := true) [-getElem?_pos, h1_, h1_s, L25_0_ans]
/-- laws.toNodeS -/
def F25 (R8 : Int → ByteArray → Int → (List T_Node) → Option (Int × ByteArray × Int × (List T_Node))) (a0_14 : List T_Node) : Option (List T_Node) :=
  if lim a0_14.length 56 = true then
  bS (L25_0 R8 FU a0_14 (List.replicate a0_14.length (⟨0, (⟨#[]⟩ : ByteArray), 0, []⟩ : T_Node)) 0) fun r11 =>
  some r11
  else none
def F25_ans (a0_14 : List T_Node) : (List T_Node) → Ans
  | q7 => .val (.ls true (r_Node true q7)) []
theorem F25_ok (R8 : Int → ByteArray → Int → (List T_Node) → Option (Int × ByteArray × Int × (List T_Node))) (hR8 : ∀ (a0_10 : Int) (a0_11 : ByteArray) (a0_12 : Int) (a0_13 : List T_Node) (r_ : (Int × ByteArray × Int × (List T_Node))), R8 a0_10 a0_11 a0_12 a0_13 = some r_ → ev EE (.call 8 [.ag [.sc (.int .i64 a0_10), .sc (.string a0_11), .sc (.int .i64 a0_12), .ls false (r_Node false a0_13)]] []) = some (F8_ans a0_10 a0_11 a0_12 a0_13 r_)) (a0_14 : List T_Node) (r_ : (List T_Node)) (h_ : F25 R8 a0_14 = some r_) : ev EE (.call 25 [.ls false (r_Node false a0_14)] []) = some (F25_ans a0_14 r_) := by
  rw [ev_eq]
  simp only [F25] at h_
  by_cases h1_ : lim a0_14.length 56 = true
  · rw [if_pos h1_] at h_
    obtain ⟨r11, h2_, h_⟩ := bS_some h_
    have h2_f := L25_0_ok R8 hR8 FU a0_14 (List.replicate a0_14.length (⟨0, (⟨#[]⟩ : ByteArray), 0, []⟩ : T_Node)) 0 _ h2_
    try simp [L25_0_ans] at h2_f
    cases h_
    simp (maxSteps := 2000000) (decide := true) [-getElem?_pos, ir25, h1_, h2_f, F25_ans]
  · rw [if_neg h1_] at h_
    cases h_
/-- laws.toNode -/
def S8 (R8 : Int → ByteArray → Int → (List T_Node) → Option (Int × ByteArray × Int × (List T_Node))) (a0_10 : Int) (a0_11 : ByteArray) (a0_12 : Int) (a0_13 : List T_Node) : Option (Int × ByteArray × Int × (List T_Node)) :=
  bS (F25 R8 a0_13) fun r12 =>
  some (a0_10, a0_11, a0_12, r12)
theorem S8_ok (R8 : Int → ByteArray → Int → (List T_Node) → Option (Int × ByteArray × Int × (List T_Node))) (hR8 : ∀ (a0_10 : Int) (a0_11 : ByteArray) (a0_12 : Int) (a0_13 : List T_Node) (r_ : (Int × ByteArray × Int × (List T_Node))), R8 a0_10 a0_11 a0_12 a0_13 = some r_ → ev EE (.call 8 [.ag [.sc (.int .i64 a0_10), .sc (.string a0_11), .sc (.int .i64 a0_12), .ls false (r_Node false a0_13)]] []) = some (F8_ans a0_10 a0_11 a0_12 a0_13 r_)) (a0_10 : Int) (a0_11 : ByteArray) (a0_12 : Int) (a0_13 : List T_Node) (r_ : (Int × ByteArray × Int × (List T_Node))) (h_ : S8 R8 a0_10 a0_11 a0_12 a0_13 = some r_) : ev EE (.call 8 [.ag [.sc (.int .i64 a0_10), .sc (.string a0_11), .sc (.int .i64 a0_12), .ls false (r_Node false a0_13)]] []) = some (F8_ans a0_10 a0_11 a0_12 a0_13 r_) := by
  rw [ev_eq]
  simp only [S8] at h_
  obtain ⟨r12, h1_, h_⟩ := bS_some h_
  have h1_f := F25_ok R8 hR8 a0_13 _ h1_
  try simp [F25_ans] at h1_f
  cases h_
  simp (maxSteps := 2000000) (decide := true) [-getElem?_pos, ir8, h1_f, F8_ans]
def F8n : Nat → Int → ByteArray → Int → (List T_Node) → Option (Int × ByteArray × Int × (List T_Node))
  | 0 => fun _ _ _ _ => none
  | n_ + 1 => S8 (F8n n_)
def F8 (a0_10 : Int) (a0_11 : ByteArray) (a0_12 : Int) (a0_13 : List T_Node) : Option (Int × ByteArray × Int × (List T_Node)) := F8n FU a0_10 a0_11 a0_12 a0_13
theorem F8n_ok : ∀ (n_ : Nat) (a0_10 : Int) (a0_11 : ByteArray) (a0_12 : Int) (a0_13 : List T_Node) (r_ : (Int × ByteArray × Int × (List T_Node))), F8n n_ a0_10 a0_11 a0_12 a0_13 = some r_ → ev EE (.call 8 [.ag [.sc (.int .i64 a0_10), .sc (.string a0_11), .sc (.int .i64 a0_12), .ls false (r_Node false a0_13)]] []) = some (F8_ans a0_10 a0_11 a0_12 a0_13 r_) := by
  intro n_
  induction n_ with
  | zero => intro a0_10 a0_11 a0_12 a0_13 r_ h_; cases h_
  | succ n_ ih_ => intro a0_10 a0_11 a0_12 a0_13 r_ h_; exact S8_ok (F8n n_) ih_ a0_10 a0_11 a0_12 a0_13 r_ h_
theorem F8_ok (a0_10 : Int) (a0_11 : ByteArray) (a0_12 : Int) (a0_13 : List T_Node) (r_ : (Int × ByteArray × Int × (List T_Node))) (h_ : F8 a0_10 a0_11 a0_12 a0_13 = some r_) : ev EE (.call 8 [.ag [.sc (.int .i64 a0_10), .sc (.string a0_11), .sc (.int .i64 a0_12), .ls false (r_Node false a0_13)]] []) = some (F8_ans a0_10 a0_11 a0_12 a0_13 r_) := F8n_ok FU a0_10 a0_11 a0_12 a0_13 r_ h_
def L42_0 : Nat → ByteArray → (List ByteArray) → Int → Int → Option (List ByteArray)
  | 0, _, _, _, _ => none
  | n_ + 1, t0_3, t3_3, t4_3, t5_2 =>
  if t5_2 ≤ (t0_3.size : Int) then
    if t0_3 = (⟨#[]⟩ : ByteArray) then
      some t3_3
    else
    if t5_2 = (t0_3.size : Int) then
      if 0 ≤ t4_3 then
      if 0 ≤ t5_2 then
      if t4_3.toNat ≤ t5_2.toNat ∧ t5_2.toNat ≤ t0_3.size then
      if lim (t3_3.length + 1) 16 = true then
      L42_0 n_ t0_3 (t3_3 ++ [ByteArray.extract t0_3 t4_3.toNat t5_2.toNat]) (IntKind.i64.wrap (t5_2 + 1)) (IntKind.i64.wrap (t5_2 + 1))
      else none
      else none
      else none
      else none
    else
    bS (getB t0_3 t5_2) fun b1 =>
    if (b1.toNat : Int) = 32 then
      if 0 ≤ t4_3 then
      if 0 ≤ t5_2 then
      if t4_3.toNat ≤ t5_2.toNat ∧ t5_2.toNat ≤ t0_3.size then
      if lim (t3_3.length + 1) 16 = true then
      L42_0 n_ t0_3 (t3_3 ++ [ByteArray.extract t0_3 t4_3.toNat t5_2.toNat]) (IntKind.i64.wrap (t5_2 + 1)) (IntKind.i64.wrap (t5_2 + 1))
      else none
      else none
      else none
      else none
    else
      L42_0 n_ t0_3 t3_3 t4_3 (IntKind.i64.wrap (t5_2 + 1))
  else
    some t3_3
def L42_0_ans (t0_3 : ByteArray) (t3_3 : List ByteArray) (t4_3 : Int) (t5_2 : Int) : (List ByteArray) → Ans
  | t3_4 => .out (.exit 0) { np := 0, tm := [(3, .rf 0 0 t3_4.length)], ar := [(0, .a false (strs t3_4))], bx := [] }
theorem L42_0_ok : ∀ (n_ : Nat) (t0_3 : ByteArray) (t3_3 : List ByteArray) (t4_3 : Int) (t5_2 : Int) (r_ : (List ByteArray)), L42_0 n_ t0_3 t3_3 t4_3 t5_2 = some r_ → ev EE (.loop lp42_0 [0, 3, 4, 5] [2, 3] { np := 0, tm := [(0, .sc (.string t0_3)), (3, .rf 0 0 t3_3.length), (4, .sc (.int .i64 t4_3)), (5, .sc (.int .i64 t5_2))], ar := [(0, .a false (strs t3_3))], bx := [] }) = some (L42_0_ans t0_3 t3_3 t4_3 t5_2 r_) := by
  intro n_
  induction n_ with
  | zero => intro t0_3 t3_3 t4_3 t5_2 r_ h_; simp only [L42_0] at h_; cases h_
  | succ n_ ih_ =>
    intro t0_3 t3_3 t4_3 t5_2 r_ h_
    rw [ev_loop EE lp42_0.eq_1]
    simp only [L42_0] at h_
    by_cases h1_ : t5_2 ≤ (t0_3.size : Int)
    · rw [if_pos h1_] at h_
      have h1_s := h1_
      try simp at h1_s
      by_cases h3_ : t0_3 = (⟨#[]⟩ : ByteArray)
      · rw [if_pos h3_] at h_
        cases h_
        simp (maxSteps := 2000000) (decide := true) [-getElem?_pos, h1_, h1_s, eq_true h3_, L42_0_ans]
      · rw [if_neg h3_] at h_
        by_cases h4_ : t5_2 = (t0_3.size : Int)
        · rw [if_pos h4_] at h_
          have h4_s := h4_
          try simp at h4_s
          by_cases h6_ : 0 ≤ t4_3
          · rw [if_pos h6_] at h_
            by_cases h7_ : 0 ≤ t5_2
            · rw [if_pos h7_] at h_
              by_cases h8_ : t4_3.toNat ≤ t5_2.toNat ∧ t5_2.toNat ≤ t0_3.size
              · rw [if_pos h8_] at h_
                by_cases h9_ : lim (t3_3.length + 1) 16 = true
                · rw [if_pos h9_] at h_
                  have q_ := ih_ t0_3 (t3_3 ++ [ByteArray.extract t0_3 t4_3.toNat t5_2.toNat]) (IntKind.i64.wrap (t5_2 + 1)) (IntKind.i64.wrap (t5_2 + 1)) _ h_
                  rcases r_ with t3_4
                  all_goals (try simp [L42_0_ans] at q_)
                  all_goals simp (maxSteps := 2000000) (decide := true) [-getElem?_pos, h1_, h1_s, h3_, eq_true h4_, eq_true h4_s, h6_, h7_, h8_, h9_, q_, L42_0_ans]
                · rw [if_neg h9_] at h_
                  cases h_
              · rw [if_neg h8_] at h_
                cases h_
            · rw [if_neg h7_] at h_
              cases h_
          · rw [if_neg h6_] at h_
            cases h_
        · rw [if_neg h4_] at h_
          have h4_s := h4_
          try simp at h4_s
          obtain ⟨b1, h6_, h_⟩ := bS_some h_
          obtain ⟨h6_a, h6_b, h6_c, h6_d⟩ := getB_some h6_
          try simp [-getElem?_pos] at h6_d
          by_cases h10_ : (b1.toNat : Int) = 32
          · rw [if_pos h10_] at h_
            have h10_s := h10_
            try simp at h10_s
            by_cases h12_ : 0 ≤ t4_3
            · rw [if_pos h12_] at h_
              by_cases h13_ : 0 ≤ t5_2
              · rw [if_pos h13_] at h_
                by_cases h14_ : t4_3.toNat ≤ t5_2.toNat ∧ t5_2.toNat ≤ t0_3.size
                · rw [if_pos h14_] at h_
                  by_cases h15_ : lim (t3_3.length + 1) 16 = true
                  · rw [if_pos h15_] at h_
                    have q_ := ih_ t0_3 (t3_3 ++ [ByteArray.extract t0_3 t4_3.toNat t5_2.toNat]) (IntKind.i64.wrap (t5_2 + 1)) (IntKind.i64.wrap (t5_2 + 1)) _ h_
                    rcases r_ with t3_4
                    all_goals (try simp [L42_0_ans] at q_)
                    all_goals simp (maxSteps := 2000000) (decide := true) [-getElem?_pos, h1_, h1_s, h3_, h4_, h4_s, h6_a, h6_b, h6_c, h6_d, eq_true h10_, eq_true h10_s, h12_, h13_, h14_, h15_, q_, L42_0_ans]
                  · rw [if_neg h15_] at h_
                    cases h_
                · rw [if_neg h14_] at h_
                  cases h_
              · rw [if_neg h13_] at h_
                cases h_
            · rw [if_neg h12_] at h_
              cases h_
          · rw [if_neg h10_] at h_
            have h10_s := h10_
            try simp at h10_s
            have q_ := ih_ t0_3 t3_3 t4_3 (IntKind.i64.wrap (t5_2 + 1)) _ h_
            rcases r_ with t3_4
            all_goals (try simp [L42_0_ans] at q_)
            all_goals simp (maxSteps := 2000000) (decide := true) [-getElem?_pos, h1_, h1_s, h3_, h4_, h4_s, h6_a, h6_b, h6_c, h6_d, h10_, h10_s, q_, L42_0_ans]
    · rw [if_neg h1_] at h_
      have h1_s := h1_
      try simp at h1_s
      cases h_
      simp (maxSteps := 2000000) (decide := true) [-getElem?_pos, h1_, h1_s, L42_0_ans]
end Go.Pv

namespace Go.Pv
set_option maxRecDepth 100000
set_option maxHeartbeats 40000000
set_option linter.unusedSimpArgs false
set_option linter.unusedVariables false
/-- spec.l14Words -/
def F42 (a0_23 : ByteArray) : Option (List ByteArray) :=
  bS (L42_0 FU a0_23 [] 0 0) fun r17 =>
  some r17
def F42_ans (a0_23 : ByteArray) : (List ByteArray) → Ans
  | q8 => .val (.ls true (strs q8)) []
theorem F42_ok (a0_23 : ByteArray) (r_ : (List ByteArray)) (h_ : F42 a0_23 = some r_) : ev EE (.call 42 [.sc (.string a0_23)] []) = some (F42_ans a0_23 r_) := by
  rw [ev_eq]
  simp only [F42] at h_
  obtain ⟨r17, h1_, h_⟩ := bS_some h_
  have h1_f := L42_0_ok FU a0_23 [] 0 0 _ h1_
  try simp [L42_0_ans] at h1_f
  cases h_
  simp (maxSteps := 2000000) (decide := true) [-getElem?_pos, ir42, h1_f, F42_ans]
def F43_ans (a0_24 : Int) (a0_25 : ByteArray) (a0_26 : Int) (a0_27 : List T_Node) : (List ByteArray) → Ans
  | q9 => .val (.ls true (strs q9)) []
def L43_0 (R43 : Int → ByteArray → Int → (List T_Node) → Option (List ByteArray)) : Nat → (List ByteArray) → Int → Int → ByteArray → Int → (List T_Node) → Option (List ByteArray)
  | 0, _, _, _, _, _, _ => none
  | n_ + 1, t3_5, t4_4, x0_1, x0_2, x0_3, x0_4 =>
  if t4_4 < (x0_4.length : Int) then
    bS (getI x0_4 t4_4) fun e4 =>
    if e4.op_ = 27 then
      L43_0 R43 n_ t3_5 (IntKind.i64.wrap (t4_4 + 1)) x0_1 x0_2 x0_3 x0_4
    else
    bS (R43 e4.op_ e4.s_ e4.n_ e4.kids_) fun r19 =>
    if lim (t3_5.length + r19.length) 16 = true then
    L43_0 R43 n_ (t3_5 ++ r19) (IntKind.i64.wrap (t4_4 + 1)) x0_1 x0_2 x0_3 x0_4
    else none
  else
    some t3_5
def L43_0_ans (t3_5 : List ByteArray) (t4_4 : Int) (x0_1 : Int) (x0_2 : ByteArray) (x0_3 : Int) (x0_4 : List T_Node) : (List ByteArray) → Ans
  | t3_6 => .out (.exit 0) { np := 0, tm := [(3, .rf 0 0 t3_6.length)], ar := [(0, .a false (strs t3_6))], bx := [] }
theorem L43_0_ok (R43 : Int → ByteArray → Int → (List T_Node) → Option (List ByteArray)) (hR43 : ∀ (a0_24 : Int) (a0_25 : ByteArray) (a0_26 : Int) (a0_27 : List T_Node) (r_ : (List ByteArray)), R43 a0_24 a0_25 a0_26 a0_27 = some r_ → ev EE (.call 43 [.ag [.sc (.int .i64 a0_24), .sc (.string a0_25), .sc (.int .i64 a0_26), .ls false (r_Node false a0_27)]] []) = some (F43_ans a0_24 a0_25 a0_26 a0_27 r_)) : ∀ (n_ : Nat) (t3_5 : List ByteArray) (t4_4 : Int) (x0_1 : Int) (x0_2 : ByteArray) (x0_3 : Int) (x0_4 : List T_Node) (r_ : (List ByteArray)), L43_0 R43 n_ t3_5 t4_4 x0_1 x0_2 x0_3 x0_4 = some r_ → ev EE (.loop lp43_0 [1, 3, 4] [2, 3] { np := 0, tm := [(1, .bx 0 0), (3, .rf 0 0 t3_5.length), (4, .sc (.int .i64 t4_4))], ar := [(0, .a false (strs t3_5))], bx := [(0, .b [.sc (.int .i64 x0_1), .sc (.string x0_2), .sc (.int .i64 x0_3), .ls false (r_Node false x0_4)])] }) = some (L43_0_ans t3_5 t4_4 x0_1 x0_2 x0_3 x0_4 r_) := by
  intro n_
  induction n_ with
  | zero => intro t3_5 t4_4 x0_1 x0_2 x0_3 x0_4 r_ h_; simp only [L43_0] at h_; cases h_
  | succ n_ ih_ =>
    intro t3_5 t4_4 x0_1 x0_2 x0_3 x0_4 r_ h_
    rw [ev_loop EE lp43_0.eq_1]
    simp only [L43_0] at h_
    by_cases h1_ : t4_4 < (x0_4.length : Int)
    · rw [if_pos h1_] at h_
      have h1_s := h1_
      try simp at h1_s
      obtain ⟨e4, h3_, h_⟩ := bS_some h_
      obtain ⟨h3_a, h3_b, h3_c, h3_d⟩ := r_Node_getI (o := false)  h3_
      try simp [-getElem?_pos] at h3_d
      by_cases h7_ : e4.op_ = 27
      · rw [if_pos h7_] at h_
        have q_ := ih_ t3_5 (IntKind.i64.wrap (t4_4 + 1)) x0_1 x0_2 x0_3 x0_4 _ h_
        rcases r_ with t3_6
        all_goals (try simp [L43_0_ans] at q_)
        all_goals simp (maxSteps := 2000000) (decide := true) [-getElem?_pos, h1_, h1_s, h3_a, h3_b, h3_c, h3_d, eq_true h7_, q_, L43_0_ans]
      · rw [if_neg h7_] at h_
        obtain ⟨r19, h8_, h_⟩ := bS_some h_
        have h8_f := hR43 e4.op_ e4.s_ e4.n_ e4.kids_ _ h8_
        try simp [F43_ans] at h8_f
        by_cases h9_ : lim (t3_5.length + r19.length) 16 = true
        · rw [if_pos h9_] at h_
          have q_ := ih_ (t3_5 ++ r19) (IntKind.i64.wrap (t4_4 + 1)) x0_1 x0_2 x0_3 x0_4 _ h_
          rcases r_ with t3_6
          all_goals (try simp [L43_0_ans] at q_)
          all_goals simp (maxSteps := 2000000) (decide := true) [-getElem?_pos, h1_, h1_s, h3_a, h3_b, h3_c, h3_d, h7_, h8_f, h9_, q_, L43_0_ans]
        · rw [if_neg h9_] at h_
          cases h_
    · rw [if_neg h1_] at h_
      have h1_s := h1_
      try simp at h1_s
      cases h_
      simp (maxSteps := 2000000) (decide := true) [-getElem?_pos, h1_, h1_s, L43_0_ans]
/-- spec.l14Lets -/
def S43 (R43 : Int → ByteArray → Int → (List T_Node) → Option (List ByteArray)) (a0_24 : Int) (a0_25 : ByteArray) (a0_26 : Int) (a0_27 : List T_Node) : Option (List ByteArray) :=
  if a0_24 = 2 then
    bS (L43_0 R43 FU [a0_25] 0 a0_24 a0_25 a0_26 a0_27) fun r20 =>
    some r20
  else
  bS (L43_0 R43 FU [] 0 a0_24 a0_25 a0_26 a0_27) fun r21 =>
  some r21
theorem S43_ok (R43 : Int → ByteArray → Int → (List T_Node) → Option (List ByteArray)) (hR43 : ∀ (a0_24 : Int) (a0_25 : ByteArray) (a0_26 : Int) (a0_27 : List T_Node) (r_ : (List ByteArray)), R43 a0_24 a0_25 a0_26 a0_27 = some r_ → ev EE (.call 43 [.ag [.sc (.int .i64 a0_24), .sc (.string a0_25), .sc (.int .i64 a0_26), .ls false (r_Node false a0_27)]] []) = some (F43_ans a0_24 a0_25 a0_26 a0_27 r_)) (a0_24 : Int) (a0_25 : ByteArray) (a0_26 : Int) (a0_27 : List T_Node) (r_ : (List ByteArray)) (h_ : S43 R43 a0_24 a0_25 a0_26 a0_27 = some r_) : ev EE (.call 43 [.ag [.sc (.int .i64 a0_24), .sc (.string a0_25), .sc (.int .i64 a0_26), .ls false (r_Node false a0_27)]] []) = some (F43_ans a0_24 a0_25 a0_26 a0_27 r_) := by
  rw [ev_eq]
  simp only [S43] at h_
  by_cases h1_ : a0_24 = 2
  · rw [if_pos h1_] at h_
    obtain ⟨r20, h2_, h_⟩ := bS_some h_
    have h2_f := L43_0_ok R43 hR43 FU [a0_25] 0 a0_24 a0_25 a0_26 a0_27 _ h2_
    try simp [L43_0_ans] at h2_f
    cases h_
    simp (maxSteps := 2000000) (decide := true) [-getElem?_pos, ir43, eq_true h1_, h2_f, F43_ans]
  · rw [if_neg h1_] at h_
    obtain ⟨r21, h2_, h_⟩ := bS_some h_
    have h2_f := L43_0_ok R43 hR43 FU [] 0 a0_24 a0_25 a0_26 a0_27 _ h2_
    try simp [L43_0_ans] at h2_f
    cases h_
    simp (maxSteps := 2000000) (decide := true) [-getElem?_pos, ir43, h1_, h2_f, F43_ans]
def F43n : Nat → Int → ByteArray → Int → (List T_Node) → Option (List ByteArray)
  | 0 => fun _ _ _ _ => none
  | n_ + 1 => S43 (F43n n_)
def F43 (a0_24 : Int) (a0_25 : ByteArray) (a0_26 : Int) (a0_27 : List T_Node) : Option (List ByteArray) := F43n FU a0_24 a0_25 a0_26 a0_27
theorem F43n_ok : ∀ (n_ : Nat) (a0_24 : Int) (a0_25 : ByteArray) (a0_26 : Int) (a0_27 : List T_Node) (r_ : (List ByteArray)), F43n n_ a0_24 a0_25 a0_26 a0_27 = some r_ → ev EE (.call 43 [.ag [.sc (.int .i64 a0_24), .sc (.string a0_25), .sc (.int .i64 a0_26), .ls false (r_Node false a0_27)]] []) = some (F43_ans a0_24 a0_25 a0_26 a0_27 r_) := by
  intro n_
  induction n_ with
  | zero => intro a0_24 a0_25 a0_26 a0_27 r_ h_; cases h_
  | succ n_ ih_ => intro a0_24 a0_25 a0_26 a0_27 r_ h_; exact S43_ok (F43n n_) ih_ a0_24 a0_25 a0_26 a0_27 r_ h_
theorem F43_ok (a0_24 : Int) (a0_25 : ByteArray) (a0_26 : Int) (a0_27 : List T_Node) (r_ : (List ByteArray)) (h_ : F43 a0_24 a0_25 a0_26 a0_27 = some r_) : ev EE (.call 43 [.ag [.sc (.int .i64 a0_24), .sc (.string a0_25), .sc (.int .i64 a0_26), .ls false (r_Node false a0_27)]] []) = some (F43_ans a0_24 a0_25 a0_26 a0_27 r_) := F43n_ok FU a0_24 a0_25 a0_26 a0_27 r_ h_
/-- spec.l14All -/
def F23 (a0_19 : Int) (a0_20 : ByteArray) (a0_21 : Int) (a0_22 : List T_Node) : Option (List ByteArray) :=
  if a0_19 = 27 then
    bS (F42 a0_20) fun r18 =>
    bS (F43 a0_19 a0_20 a0_21 a0_22) fun r22 =>
    if lim (r18.length + r22.length) 16 = true then
    some (r18 ++ r22)
    else none
  else
  bS (F43 a0_19 a0_20 a0_21 a0_22) fun r23 =>
  if lim (r23.length) 16 = true then
  some r23
  else none
def F23_ans (a0_19 : Int) (a0_20 : ByteArray) (a0_21 : Int) (a0_22 : List T_Node) : (List ByteArray) → Ans
  | q10 => .val (.ls true (strs q10)) []
theorem F23_ok (a0_19 : Int) (a0_20 : ByteArray) (a0_21 : Int) (a0_22 : List T_Node) (r_ : (List ByteArray)) (h_ : F23 a0_19 a0_20 a0_21 a0_22 = some r_) : ev EE (.call 23 [.ag [.sc (.int .i64 a0_19), .sc (.string a0_20), .sc (.int .i64 a0_21), .ls false (r_Node false a0_22)]] []) = some (F23_ans a0_19 a0_20 a0_21 a0_22 r_) := by
  rw [ev_eq]
  simp only [F23] at h_
  by_cases h1_ : a0_19 = 27
  · rw [if_pos h1_] at h_
    obtain ⟨r18, h2_, h_⟩ := bS_some h_
    have h2_f := F42_ok a0_20 _ h2_
    try simp [F42_ans] at h2_f
    obtain ⟨r22, h3_, h_⟩ := bS_some h_
    have h3_f := F43_ok a0_19 a0_20 a0_21 a0_22 _ h3_
    try simp [F43_ans] at h3_f
    by_cases h4_ : lim (r18.length + r22.length) 16 = true
    · rw [if_pos h4_] at h_
      cases h_
      simp (maxSteps := 2000000) (decide := true) [-getElem?_pos, ir23, eq_true h1_, h2_f, h3_f, h4_, F23_ans]
    · rw [if_neg h4_] at h_
      cases h_
  · rw [if_neg h1_] at h_
    obtain ⟨r23, h2_, h_⟩ := bS_some h_
    have h2_f := F43_ok a0_19 a0_20 a0_21 a0_22 _ h2_
    try simp [F43_ans] at h2_f
    by_cases h3_ : lim (r23.length) 16 = true
    · rw [if_pos h3_] at h_
      cases h_
      simp (maxSteps := 2000000) (decide := true) [-getElem?_pos, ir23, h1_, h2_f, h3_, F23_ans]
    · rw [if_neg h3_] at h_
      cases h_
def L24_0 : Nat → (List ByteArray) → ByteArray → Int → Option (Bool ⊕ Unit)
  | 0, _, _, _ => none
  | n_ + 1, t0_4, t1_4, t5_4 =>
  if t5_4 < (t0_4.length : Int) then
    bS (getI t0_4 t5_4) fun e6 =>
    if e6 = t1_4 then
      some (.inl true)
    else
      L24_0 n_ t0_4 t1_4 (IntKind.i64.wrap (t5_4 + 1))
  else
    some (.inr ())
def L24_0_ans (t0_4 : List ByteArray) (t1_4 : ByteArray) (t5_4 : Int) : Bool ⊕ Unit → Ans
  | .inl t4_6 => .out .ret { np := 0, tm := [(4, .sc (.bool t4_6))], ar := [], bx := [] }
  | .inr _ => .out (.exit 0) { np := 0, tm := [], ar := [], bx := [] }
theorem L24_0_ok : ∀ (n_ : Nat) (t0_4 : List ByteArray) (t1_4 : ByteArray) (t5_4 : Int) (r_ : Bool ⊕ Unit), L24_0 n_ t0_4 t1_4 t5_4 = some r_ → ev EE (.loop lp24_0 [0, 1, 5] [4] { np := 0, tm := [(0, .ls false (strs t0_4)), (1, .sc (.string t1_4)), (5, .sc (.int .i64 t5_4))], ar := [], bx := [] }) = some (L24_0_ans t0_4 t1_4 t5_4 r_) := by
  intro n_
  induction n_ with
  | zero => intro t0_4 t1_4 t5_4 r_ h_; simp only [L24_0] at h_; cases h_
  | succ n_ ih_ =>
    intro t0_4 t1_4 t5_4 r_ h_
    rw [ev_loop EE lp24_0.eq_1]
    simp only [L24_0] at h_
    by_cases h1_ : t5_4 < (t0_4.length : Int)
    · rw [if_pos h1_] at h_
      have h1_s := h1_
      try simp at h1_s
      obtain ⟨e6, h3_, h_⟩ := bS_some h_
      obtain ⟨h3_a, h3_b, h3_c, h3_d⟩ := strs_getI  h3_
      try simp [-getElem?_pos] at h3_d
      by_cases h7_ : e6 = t1_4
      · rw [if_pos h7_] at h_
        cases h_
        simp (maxSteps := 2000000) (decide := true) [-getElem?_pos, h1_, h1_s, h3_a, h3_b, h3_c, h3_d, eq_true h7_, L24_0_ans]
      · rw [if_neg h7_] at h_
        have q_ := ih_ t0_4 t1_4 (IntKind.i64.wrap (t5_4 + 1)) _ h_
        rcases r_ with t4_6 | _
        all_goals (try simp [L24_0_ans] at q_)
        all_goals simp (maxSteps := 2000000) (decide := true) [-getElem?_pos, h1_, h1_s, h3_a, h3_b, h3_c, h3_d, h7_, q_, L24_0_ans]
    · rw [if_neg h1_] at h_
      have h1_s := h1_
      try simp at h1_s
      cases h_
      simp (maxSteps := 2000000) (decide := true) [-getElem?_pos, h1_, h1_s, L24_0_ans]
/-- spec.l14In -/
def F24 (a0_28 : List ByteArray) (a1_3 : ByteArray) : Option Bool :=
  bS (L24_0 FU a0_28 a1_3 0) fun r_ => match r_ with
  | .inl r25 =>
    some r25
  | .inr () =>
    some false
def F24_ans (a0_28 : List ByteArray) (a1_3 : ByteArray) : Bool → Ans
  | q11 => .val (.sc (.bool q11)) []
theorem F24_ok (a0_28 : List ByteArray) (a1_3 : ByteArray) (r_ : Bool) (h_ : F24 a0_28 a1_3 = some r_) : ev EE (.call 24 [.ls false (strs a0_28), .sc (.string a1_3)] []) = some (F24_ans a0_28 a1_3 r_) := by
  rw [ev_eq]
  simp only [F24] at h_
  obtain ⟨r_0, h1_, h_⟩ := bS_some h_
  have h1_f := L24_0_ok FU a0_28 a1_3 0 _ h1_
  rcases r_0 with r25 | _
  · try dsimp only at h_
    try simp [L24_0_ans] at h1_f
    cases h_
    simp (maxSteps := 2000000) (decide := true) [-getElem?_pos, ir24, h1_f, F24_ans]
  · try dsimp only at h_
    try simp [L24_0_ans] at h1_f
    cases h_
    simp (maxSteps := 2000000) (decide := true) [-getElem?_pos, ir24, h1_f, F24_ans]
def L7_0 : Nat → (List ByteArray) → (List ByteArray) → Int → Option (List ByteArray)
  | 0, _, _, _ => none
  | n_ + 1, t3_7, t4_5, t5_3 =>
  if t5_3 < (t4_5.length : Int) then
    bS (getI t4_5 t5_3) fun e5 =>
    bS (F24 t3_7 e5) fun r26 =>
    if r26 = true then
      L7_0 n_ t3_7 t4_5 (IntKind.i64.wrap (t5_3 + 1))
    else
    if lim (t3_7.length + 1) 16 = true then
    L7_0 n_ (t3_7 ++ [e5]) t4_5 (IntKind.i64.wrap (t5_3 + 1))
    else none
  else
    some t3_7
def L7_0_ans (t3_7 : List ByteArray) (t4_5 : List ByteArray) (t5_3 : Int) : (List ByteArray) → Ans
  | t3_8 => .out (.exit 0) { np := 0, tm := [(3, .rf 0 0 t3_8.length)], ar := [(0, .a false (strs t3_8))], bx := [] }
theorem L7_0_ok : ∀ (n_ : Nat) (t3_7 : List ByteArray) (t4_5 : List ByteArray) (t5_3 : Int) (r_ : (List ByteArray)), L7_0 n_ t3_7 t4_5 t5_3 = some r_ → ev EE (.loop lp7_0 [3, 4, 5] [2, 3] { np := 0, tm := [(3, .rf 0 0 t3_7.length), (4, .rf 1 0 t4_5.length), (5, .sc (.int .i64 t5_3))], ar := [(0, .a false (strs t3_7)), (1, .a false (strs t4_5))], bx := [] }) = some (L7_0_ans t3_7 t4_5 t5_3 r_) := by
  intro n_
  induction n_ with
  | zero => intro t3_7 t4_5 t5_3 r_ h_; simp only [L7_0] at h_; cases h_
  | succ n_ ih_ =>
    intro t3_7 t4_5 t5_3 r_ h_
    rw [ev_loop EE lp7_0.eq_1]
    simp only [L7_0] at h_
    by_cases h1_ : t5_3 < (t4_5.length : Int)
    · rw [if_pos h1_] at h_
      have h1_s := h1_
      try simp at h1_s
      obtain ⟨e5, h3_, h_⟩ := bS_some h_
      obtain ⟨h3_a, h3_b, h3_c, h3_d⟩ := strs_getI  h3_
      try simp [-getElem?_pos] at h3_d
      obtain ⟨r26, h7_, h_⟩ := bS_some h_
      have h7_f := F24_ok t3_7 e5 _ h7_
      try simp [F24_ans] at h7_f
      by_cases h8_ : r26 = true
      · rw [if_pos h8_] at h_
        have q_ := ih_ t3_7 t4_5 (IntKind.i64.wrap (t5_3 + 1)) _ h_
        rcases r_ with t3_8
        all_goals (try simp [L7_0_ans] at q_)
        all_goals simp (maxSteps := 2000000) (decide := true) [-getElem?_pos, h1_, h1_s, h3_a, h3_b, h3_c, h3_d, h7_f, h8_, q_, L7_0_ans]
      · rw [if_neg h8_] at h_
        by_cases h9_ : lim (t3_7.length + 1) 16 = true
        · rw [if_pos h9_] at h_
          have q_ := ih_ (t3_7 ++ [e5]) t4_5 (IntKind.i64.wrap (t5_3 + 1)) _ h_
          rcases r_ with t3_8
          all_goals (try simp [L7_0_ans] at q_)
          all_goals simp (maxSteps := 2000000) (decide := true) [-getElem?_pos, h1_, h1_s, h3_a, h3_b, h3_c, h3_d, h7_f, h8_, h9_, q_, L7_0_ans]
        · rw [if_neg h9_] at h_
          cases h_
    · rw [if_neg h1_] at h_
      have h1_s := h1_
      try simp at h1_s
      cases h_
      simp (maxSteps := 2000000) (decide := true) [-getElem?_pos, h1_, h1_s, L7_0_ans]
/-- spec.Vars -/
def F7 (a0_15 : Int) (a0_16 : ByteArray) (a0_17 : Int) (a0_18 : List T_Node) : Option (List ByteArray) :=
  bS (F23 a0_15 a0_16 a0_17 a0_18) fun r24 =>
  bS (L7_0 FU [] r24 0) fun r27 =>
  some r27
def F7_ans (a0_15 : Int) (a0_16 : ByteArray) (a0_17 : Int) (a0_18 : List T_Node) : (List ByteArray) → Ans
  | q12 => .val (.ls true (strs q12)) []
theorem F7_ok (a0_15 : Int) (a0_16 : ByteArray) (a0_17 : Int) (a0_18 : List T_Node) (r_ : (List ByteArray)) (h_ : F7 a0_15 a0_16 a0_17 a0_18 = some r_) : ev EE (.call 7 [.ag [.sc (.int .i64 a0_15), .sc (.string a0_16), .sc (.int .i64 a0_17), .ls false (r_Node false a0_18)]] []) = some (F7_ans a0_15 a0_16 a0_17 a0_18 r_) := by
  rw [ev_eq]
  simp only [F7] at h_
  obtain ⟨r24, h1_, h_⟩ := bS_some h_
  have h1_f := F23_ok a0_15 a0_16 a0_17 a0_18 _ h1_
  try simp [F23_ans] at h1_f
  obtain ⟨r27, h2_, h_⟩ := bS_some h_
  have h2_f := L7_0_ok FU [] r24 0 _ h2_
  try simp [L7_0_ans] at h2_f
  cases h_
  simp (maxSteps := 2000000) (decide := true) [-getElem?_pos, ir7, h1_f, h2_f, F7_ans]
/-- impl.namesOf -/
def F28 (a0_33 : Int) (a0_34 : ByteArray) (a0_35 : Int) (a0_36 : List T_Node) : Option (List ByteArray) :=
  if a0_34 = (⟨#[]⟩ : ByteArray) then
    some []
  else
  bS (F45 a0_34 (⟨#[32]⟩ : ByteArray)) fun r29 =>
  some r29
def F28_ans (a0_33 : Int) (a0_34 : ByteArray) (a0_35 : Int) (a0_36 : List T_Node) : (List ByteArray) → Ans
  | q14 => .val (.ls true (strs q14)) []
theorem F28_ok (a0_33 : Int) (a0_34 : ByteArray) (a0_35 : Int) (a0_36 : List T_Node) (r_ : (List ByteArray)) (h_ : F28 a0_33 a0_34 a0_35 a0_36 = some r_) : ev EE (.call 28 [.ag [.sc (.int .i64 a0_33), .sc (.string a0_34), .sc (.int .i64 a0_35), .ls false (r_Node false a0_36)]] []) = some (F28_ans a0_33 a0_34 a0_35 a0_36 r_) := by
  rw [ev_eq]
  simp only [F28] at h_
  by_cases h1_ : a0_34 = (⟨#[]⟩ : ByteArray)
  · rw [if_pos h1_] at h_
    cases h_
    simp (maxSteps := 2000000) (decide := true) [-getElem?_pos, ir28, eq_true h1_, F28_ans]
  · rw [if_neg h1_] at h_
    obtain ⟨r29, h2_, h_⟩ := bS_some h_
    have h2_f := F45_ok a0_34 (⟨#[32]⟩ : ByteArray) _ h2_
    try simp [F45_ans] at h2_f
    cases h_
    simp (maxSteps := 2000000) (decide := true) [-getElem?_pos, ir28, h1_, h2_f, F28_ans]
def L44_0 : Nat → (List ByteArray) → ByteArray → Int → Int → Option (Int ⊕ Unit)
  | 0, _, _, _, _ => none
  | n_ + 1, t0_5, t1_5, t7_1, t8_1 =>
  if t8_1 < t7_1 then
    bS (getI t0_5 t8_1) fun e8 =>
    if t1_5 = e8 then
      some (.inl t8_1)
    else
      L44_0 n_ t0_5 t1_5 t7_1 (IntKind.i64.wrap (t8_1 + 1))
  else
    some (.inr ())
def L44_0_ans (t0_5 : List ByteArray) (t1_5 : ByteArray) (t7_1 : Int) (t8_1 : Int) : Int ⊕ Unit → Ans
  | .inl t4_7 => .out .ret { np := 0, tm := [(4, .sc (.int .i64 t4_7))], ar := [], bx := [] }
  | .inr _ => .out (.exit 0) { np := 0, tm := [], ar := [], bx := [] }
theorem L44_0_ok : ∀ (n_ : Nat) (t0_5 : List ByteArray) (t1_5 : ByteArray) (t7_1 : Int) (t8_1 : Int) (r_ : Int ⊕ Unit), L44_0 n_ t0_5 t1_5 t7_1 t8_1 = some r_ → ev EE (.loop lp44_0 [0, 1, 7, 8] [4] { np := 0, tm := [(0, .ls false (strs t0_5)), (1, .sc (.string t1_5)), (7, .sc (.int .i64 t7_1)), (8, .sc (.int .i64 t8_1))], ar := [], bx := [] }) = some (L44_0_ans t0_5 t1_5 t7_1 t8_1 r_) := by
  intro n_
  induction n_ with
  | zero => intro t0_5 t1_5 t7_1 t8_1 r_ h_; simp only [L44_0] at h_; cases h_
  | succ n_ ih_ =>
    intro t0_5 t1_5 t7_1 t8_1 r_ h_
    rw [ev_loop EE lp44_0.eq_1]
    simp only [L44_0] at h_
    by_cases h1_ : t8_1 < t7_1
    · rw [if_pos h1_] at h_
      obtain ⟨e8, h2_, h_⟩ := bS_some h_
      obtain ⟨h2_a, h2_b, h2_c, h2_d⟩ := strs_getI  h2_
      try simp [-getElem?_pos] at h2_d
      by_cases h6_ : t1_5 = e8
      · rw [if_pos h6_] at h_
        cases h_
        simp (maxSteps := 2000000) (decide := true) [-getElem?_pos, h1_, h2_a, h2_b, h2_c, h2_d, eq_true h6_, L44_0_ans]
      · rw [if_neg h6_] at h_
        have q_ := ih_ t0_5 t1_5 t7_1 (IntKind.i64.wrap (t8_1 + 1)) _ h_
        rcases r_ with t4_7 | _
        all_goals (try simp [L44_0_ans] at q_)
        all_goals simp (maxSteps := 2000000) (decide := true) [-getElem?_pos, h1_, h2_a, h2_b, h2_c, h2_d, h6_, q_, L44_0_ans]
    · rw [if_neg h1_] at h_
      cases h_
      simp (maxSteps := 2000000) (decide := true) [-getElem?_pos, h1_, L44_0_ans]
/-- slices.Index[[]string,string] -/
def F44 (a0_39 : List ByteArray) (a1_5 : ByteArray) : Option Int :=
  bS (L44_0 FU a0_39 a1_5 (a0_39.length : Int) 0) fun r_ => match r_ with
  | .inl r31 =>
    some r31
  | .inr () =>
    some (-1)
def F44_ans (a0_39 : List ByteArray) (a1_5 : ByteArray) : Int → Ans
  | q15 => .val (.sc (.int .i64 q15)) []
theorem F44_ok (a0_39 : List ByteArray) (a1_5 : ByteArray) (r_ : Int) (h_ : F44 a0_39 a1_5 = some r_) : ev EE (.call 44 [.ls false (strs a0_39), .sc (.string a1_5)] []) = some (F44_ans a0_39 a1_5 r_) := by
  rw [ev_eq]
  simp only [F44] at h_
  obtain ⟨r_0, h1_, h_⟩ := bS_some h_
  have h1_f := L44_0_ok FU a0_39 a1_5 (a0_39.length : Int) 0 _ h1_
  rcases r_0 with r31 | _
  · try dsimp only at h_
    try simp [L44_0_ans] at h1_f
    cases h_
    simp (maxSteps := 2000000) (decide := true) [-getElem?_pos, ir44, h1_f, F44_ans]
  · try dsimp only at h_
    try simp [L44_0_ans] at h1_f
    cases h_
    simp (maxSteps := 2000000) (decide := true) [-getElem?_pos, ir44, h1_f, F44_ans]
/-- slices.Contains[[]string,string] -/
def F27 (a0_38 : List ByteArray) (a1_4 : ByteArray) : Option Bool :=
  bS (F44 a0_38 a1_4) fun r32 =>
  some (decide (0 ≤ r32))
def F27_ans (a0_38 : List ByteArray) (a1_4 : ByteArray) : Bool → Ans
  | q16 => .val (.sc (.bool q16)) []
theorem F27_ok (a0_38 : List ByteArray) (a1_4 : ByteArray) (r_ : Bool) (h_ : F27 a0_38 a1_4 = some r_) : ev EE (.call 27 [.ls false (strs a0_38), .sc (.string a1_4)] []) = some (F27_ans a0_38 a1_4 r_) := by
  rw [ev_eq]
  simp only [F27] at h_
  obtain ⟨r32, h1_, h_⟩ := bS_some h_
  have h1_f := F44_ok a0_38 a1_4 _ h1_
  try simp [F44_ans] at h1_f
  cases h_
  simp (maxSteps := 2000000) (decide := true) [-getElem?_pos, ir27, h1_f, F27_ans]
/-- impl.Vars$1 -/
def F26 (a0_37 : ByteArray) (x0_9 : List ByteArray) : Option (List ByteArray) :=
  bS (F27 x0_9 a0_37) fun r33 =>
  if r33 = true then
    some x0_9
  else
  if lim (x0_9.length + 1) 16 = true then
  some (x0_9 ++ [a0_37])
  else none
def F26_ans (a0_37 : ByteArray) (x0_9 : List ByteArray) : (List ByteArray) → Ans
  | q17 => .val (.tu []) [.b [.ls true (strs q17)]]
theorem F26_ok (a0_37 : ByteArray) (x0_9 : List ByteArray) (r_ : (List ByteArray)) (h_ : F26 a0_37 x0_9 = some r_) : ev EE (.call 26 [.sc (.string a0_37), .bx 0 0] [.b [.ls true (strs x0_9)]]) = some (F26_ans a0_37 x0_9 r_) := by
  rw [ev_eq]
  simp only [F26] at h_
  obtain ⟨r33, h1_, h_⟩ := bS_some h_
  have h1_f := F27_ok x0_9 a0_37 _ h1_
  try simp [F27_ans] at h1_f
  by_cases h2_ : r33 = true
  · rw [if_pos h2_] at h_
    cases h_
    simp (maxSteps := 2000000) (decide := true) [-getElem?_pos, ir26, h1_f, h2_, F26_ans]
  · rw [if_neg h2_] at h_
    by_cases h3_ : lim (x0_9.length + 1) 16 = true
    · rw [if_pos h3_] at h_
      cases h_
      simp (maxSteps := 2000000) (decide := true) [-getElem?_pos, ir26, h1_f, h2_, h3_, F26_ans]
    · rw [if_neg h3_] at h_
      cases h_
end Go.Pv
