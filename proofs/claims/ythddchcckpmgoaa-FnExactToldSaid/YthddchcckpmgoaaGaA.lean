/- Proof: the functions as Lean functions, and that these are what they evaluate to, first part. No condition. -/
import Derived.Test.YthddchcckpmgoaaIm
set_option autoImplicit true
set_option relaxedAutoImplicit true
set_option linter.unusedSimpArgs false
set_option linter.unusedVariables false
namespace Go.Pv
set_option maxRecDepth 100000
set_option maxHeartbeats 40000000
set_option linter.unusedSimpArgs false
set_option linter.unusedVariables false
structure T_Step where
  op_ : Int
  a_ : Int
  b_ : Int
def e_Step (x : T_Step) : List V := [.sc (.int .i64 x.op_), .sc (.int .i64 x.a_), .sc (.int .i64 x.b_)]
def r_Step (xs : List T_Step) : List (List V) := xs.map (e_Step)
@[simp] theorem r_Step_nil : r_Step [] = [] := nr rfl
@[simp] theorem r_Step_len (xs : List T_Step) : (r_Step xs).length = xs.length := by simp [r_Step]
@[simp] theorem r_Step_all (xs : List T_Step) : allLen 3 (r_Step xs) = true := by simp [r_Step, allLen, e_Step]
@[simp] theorem r_Step_emp (xs : List T_Step) : (r_Step xs).isEmpty = xs.isEmpty := by cases xs <;> rfl
@[simp] theorem r_Step_app (xs ys : List T_Step) : r_Step xs ++ r_Step ys = r_Step (xs ++ ys) := by simp [r_Step]
@[simp] theorem r_Step_app1 (xs : List T_Step) (c0 : Int) (c1 : Int) (c2 : Int) : r_Step xs ++ [[V.sc (.int .i64 c0), V.sc (.int .i64 c1), V.sc (.int .i64 c2)]] = r_Step (xs ++ [⟨c0, c1, c2⟩]) := by simp [r_Step, e_Step]
@[simp] theorem r_Step_one (c0 : Int) (c1 : Int) (c2 : Int) : [[V.sc (.int .i64 c0), V.sc (.int .i64 c1), V.sc (.int .i64 c2)]] = r_Step [⟨c0, c1, c2⟩] := by simp [r_Step, e_Step]
@[simp] theorem r_Step_set (xs : List T_Step) (i : Nat) (c0 : Int) (c1 : Int) (c2 : Int) : (r_Step xs).set i [V.sc (.int .i64 c0), V.sc (.int .i64 c1), V.sc (.int .i64 c2)] = r_Step (xs.set i ⟨c0, c1, c2⟩) := by simp [r_Step, e_Step, List.map_set]
@[simp] theorem r_Step_sub (xs : List T_Step) (a n : Nat) : sub (r_Step xs) a n = r_Step ((xs.drop a).take n) := by simp [sub, r_Step, List.map_drop, List.map_take]
@[simp] theorem r_Step_rep (n : Nat) : List.replicate n [V.sc (.int .i64 0), V.sc (.int .i64 0), V.sc (.int .i64 0)] = r_Step (List.replicate n ⟨0, 0, 0⟩) := by simp [r_Step, e_Step]
@[simp] theorem r_Step_frz (xs : List T_Step) : frzR (r_Step xs) = r_Step xs := by
  induction xs with
  | nil => rfl
  | cons x xs ih => simp [r_Step, e_Step, frzR, frzL, frz] at ih ⊢; exact ih
@[simp] theorem r_Step_hasFz (xs : List T_Step) : hasFzR (r_Step xs) = false := by
  induction xs with
  | nil => rfl
  | cons x xs ih => simp [r_Step, e_Step, hasFzR, hasFzL, hasFz] at ih ⊢; exact ih
@[simp] theorem r_Step_noH (xs : List T_Step) : noH (r_Step xs) = true := by simp [noH, r_Step, e_Step, isRf]
@[simp] theorem r_Step_sameL (xs ys : List T_Step) : sameL (r_Step xs) (r_Step ys) = true := sameL_len (r_Step_all xs) (r_Step_all ys)
@[simp] theorem r_Step_flat (xs : List T_Step) : flatR (r_Step xs) = true := by simp [flatR, flat1, r_Step, e_Step]
theorem r_Step_getI {xs : List T_Step} {i : Int} {x : T_Step} (h : getI xs i = some x) : 0 ≤ i ∧ i < xs.length ∧ i.toNat < xs.length ∧ (r_Step xs)[i.toNat]? = some [.sc (.int .i64 x.op_), .sc (.int .i64 x.a_), .sc (.int .i64 x.b_)] := by
  obtain ⟨h1, h2, h3⟩ := getI_some h
  exact ⟨h1, h2, by omega, by simp [r_Step, h3, e_Step]⟩
theorem r_Step_getN {xs : List T_Step} {i : Nat} {x : T_Step} (h : xs[i]? = some x) : (r_Step xs)[i]? = some [.sc (.int .i64 x.op_), .sc (.int .i64 x.a_), .sc (.int .i64 x.b_)] := by simp [r_Step, h, e_Step]
structure T_Code where
  names_ : Int
  vars_ : Int
  steps_ : List T_Step
def e_Code (o : Bool) (x : T_Code) : List V := [.sc (.int .i64 x.names_), .sc (.int .i64 x.vars_), .ls o (r_Step x.steps_)]
def r_Code (o : Bool) (xs : List T_Code) : List (List V) := xs.map (e_Code o)
@[simp] theorem r_Code_nil {o : Bool} : r_Code o [] = [] := nr rfl
@[simp] theorem r_Code_len {o : Bool} (xs : List T_Code) : (r_Code o xs).length = xs.length := by simp [r_Code]
@[simp] theorem r_Code_all {o : Bool} (xs : List T_Code) : allLen 3 (r_Code o xs) = true := by simp [r_Code, allLen, e_Code]
@[simp] theorem r_Code_emp {o : Bool} (xs : List T_Code) : (r_Code o xs).isEmpty = xs.isEmpty := by cases xs <;> rfl
@[simp] theorem r_Code_app {o : Bool} (xs ys : List T_Code) : r_Code o xs ++ r_Code o ys = r_Code o (xs ++ ys) := by simp [r_Code]
@[simp] theorem r_Code_app1 {o : Bool} (xs : List T_Code) (c0 : Int) (c1 : Int) (c2 : List T_Step) : r_Code o xs ++ [[V.sc (.int .i64 c0), V.sc (.int .i64 c1), V.ls o (r_Step c2)]] = r_Code o (xs ++ [⟨c0, c1, c2⟩]) := by simp [r_Code, e_Code]
@[simp] theorem r_Code_one {o : Bool} (c0 : Int) (c1 : Int) (c2 : List T_Step) : [[V.sc (.int .i64 c0), V.sc (.int .i64 c1), V.ls o (r_Step c2)]] = r_Code o [⟨c0, c1, c2⟩] := by simp [r_Code, e_Code]
@[simp] theorem r_Code_set {o : Bool} (xs : List T_Code) (i : Nat) (c0 : Int) (c1 : Int) (c2 : List T_Step) : (r_Code o xs).set i [V.sc (.int .i64 c0), V.sc (.int .i64 c1), V.ls o (r_Step c2)] = r_Code o (xs.set i ⟨c0, c1, c2⟩) := by simp [r_Code, e_Code, List.map_set]
@[simp] theorem r_Code_sub {o : Bool} (xs : List T_Code) (a n : Nat) : sub (r_Code o xs) a n = r_Code o ((xs.drop a).take n) := by simp [sub, r_Code, List.map_drop, List.map_take]
@[simp] theorem r_Code_rep (n : Nat) : List.replicate n [V.sc (.int .i64 0), V.sc (.int .i64 0), V.ls true []] = r_Code true (List.replicate n ⟨0, 0, []⟩) := by simp [r_Code, e_Code, r_Step]
@[simp] theorem r_Code_frz {o : Bool} (xs : List T_Code) : frzR (r_Code o xs) = r_Code false xs := by
  induction xs with
  | nil => rfl
  | cons x xs ih => simp [r_Code, e_Code, frzR, frzL, frz, r_Step_frz] at ih ⊢; exact ih
@[simp] theorem r_Code_hasFz (xs : List T_Code) : hasFzR (r_Code true xs) = false := by
  induction xs with
  | nil => rfl
  | cons x xs ih => simp [r_Code, e_Code, hasFzR, hasFzL, hasFz, r_Step_hasFz] at ih ⊢; exact ih
@[simp] theorem r_Code_noH {o : Bool} (xs : List T_Code) : noH (r_Code o xs) = true := by simp [noH, r_Code, e_Code, isRf]
@[simp] theorem r_Code_sameL {o o2 : Bool} (xs ys : List T_Code) : sameL (r_Code o xs) (r_Code o2 ys) = true := sameL_len (r_Code_all xs) (r_Code_all ys)
theorem r_Code_getI {o : Bool} {xs : List T_Code} {i : Int} {x : T_Code} (h : getI xs i = some x) : 0 ≤ i ∧ i < xs.length ∧ i.toNat < xs.length ∧ (r_Code o xs)[i.toNat]? = some [.sc (.int .i64 x.names_), .sc (.int .i64 x.vars_), .ls o (r_Step x.steps_)] := by
  obtain ⟨h1, h2, h3⟩ := getI_some h
  exact ⟨h1, h2, by omega, by simp [r_Code, h3, e_Code]⟩
theorem r_Code_getN {o : Bool} {xs : List T_Code} {i : Nat} {x : T_Code} (h : xs[i]? = some x) : (r_Code o xs)[i]? = some [.sc (.int .i64 x.names_), .sc (.int .i64 x.vars_), .ls o (r_Step x.steps_)] := by simp [r_Code, h, e_Code]
/-- laws.szStepS -/
def F114 (a0_31 : List T_Step) (a1_5 : Int) : Option Int :=
  if IntKind.i64.wrap (a1_5 - (a0_31.length : Int)) < 0 then
    some (-1)
  else
    some (IntKind.i64.wrap (a1_5 - (a0_31.length : Int)))
def F114_ans (a0_31 : List T_Step) (a1_5 : Int) : Int → Ans
  | q1 => .val (.sc (.int .i64 q1)) []
theorem F114_ok (a0_31 : List T_Step) (a1_5 : Int) (r_ : Int) (h_ : F114 a0_31 a1_5 = some r_) : ev EE (.call 114 [.ls false (r_Step a0_31), .sc (.int .i64 a1_5)] []) = some (F114_ans a0_31 a1_5 r_) := by
  rw [ev_eq]
  simp only [F114] at h_
  by_cases h1_ : IntKind.i64.wrap (a1_5 - (a0_31.length : Int)) < 0
  · rw [if_pos h1_] at h_
    have h1_s := h1_
    try simp at h1_s
    cases h_
    simp (maxSteps := 2000000) (decide := true) [-getElem?_pos, ir114, h1_, h1_s, F114_ans]
  · rw [if_neg h1_] at h_
    have h1_s := h1_
    try simp at h1_s
    cases h_
    simp (maxSteps := 2000000) (decide := true) [-getElem?_pos, ir114, h1_, h1_s, F114_ans]
/-- laws.szCode -/
def F109 (a0_28 : Int) (a0_29 : Int) (a0_30 : List T_Step) (a1_4 : Int) : Option Int :=
  bS (F114 a0_30 a1_4) fun r1 =>
  if r1 < 0 then
    some (-1)
  else
    some r1
def F109_ans (a0_28 : Int) (a0_29 : Int) (a0_30 : List T_Step) (a1_4 : Int) : Int → Ans
  | q2 => .val (.sc (.int .i64 q2)) []
theorem F109_ok (a0_28 : Int) (a0_29 : Int) (a0_30 : List T_Step) (a1_4 : Int) (r_ : Int) (h_ : F109 a0_28 a0_29 a0_30 a1_4 = some r_) : ev EE (.call 109 [.ag [.sc (.int .i64 a0_28), .sc (.int .i64 a0_29), .ls false (r_Step a0_30)], .sc (.int .i64 a1_4)] []) = some (F109_ans a0_28 a0_29 a0_30 a1_4 r_) := by
  rw [ev_eq]
  simp only [F109] at h_
  obtain ⟨r1, h1_, h_⟩ := bS_some h_
  have h1_f := F114_ok a0_30 a1_4 _ h1_
  try simp [F114_ans] at h1_f
  by_cases h2_ : r1 < 0
  · rw [if_pos h2_] at h_
    cases h_
    simp (maxSteps := 2000000) (decide := true) [-getElem?_pos, ir109, h1_f, h2_, F109_ans]
  · rw [if_neg h2_] at h_
    cases h_
    simp (maxSteps := 2000000) (decide := true) [-getElem?_pos, ir109, h1_f, h2_, F109_ans]
def L88_0 : Nat → (List T_Code) → Int → Int → Option ((Int × Int) ⊕ Int)
  | 0, _, _, _ => none
  | n_ + 1, t0_1, t1_1, t5_1 =>
  if t5_1 < (t0_1.length : Int) then
    bS (getI t0_1 t5_1) fun e1 =>
    bS (F109 e1.names_ e1.vars_ e1.steps_ t1_1) fun r2 =>
    if r2 < 0 then
      some (.inl (r2, (-1)))
    else
      L88_0 n_ t0_1 r2 (IntKind.i64.wrap (t5_1 + 1))
  else
    some (.inr t1_1)
def L88_0_ans (t0_1 : List T_Code) (t1_1 : Int) (t5_1 : Int) : (Int × Int) ⊕ Int → Ans
  | .inl (t1_2, t4_1) => .out .ret { np := 0, tm := [(1, .sc (.int .i64 t1_2)), (4, .sc (.int .i64 t4_1))], ar := [], bx := [] }
  | .inr t1_3 => .out (.exit 0) { np := 0, tm := [(1, .sc (.int .i64 t1_3))], ar := [], bx := [] }
theorem L88_0_ok : ∀ (n_ : Nat) (t0_1 : List T_Code) (t1_1 : Int) (t5_1 : Int) (r_ : (Int × Int) ⊕ Int), L88_0 n_ t0_1 t1_1 t5_1 = some r_ → ev EE (.loop lp88_0 [0, 1, 5] [1, 4] { np := 0, tm := [(0, .ls false (r_Code false t0_1)), (1, .sc (.int .i64 t1_1)), (5, .sc (.int .i64 t5_1))], ar := [], bx := [] }) = some (L88_0_ans t0_1 t1_1 t5_1 r_) := by
  intro n_
  induction n_ with
  | zero => intro t0_1 t1_1 t5_1 r_ h_; simp only [L88_0] at h_; cases h_
  | succ n_ ih_ =>
    intro t0_1 t1_1 t5_1 r_ h_
    rw [ev_loop EE lp88_0.eq_1]
    simp only [L88_0] at h_
    by_cases h1_ : t5_1 < (t0_1.length : Int)
    · rw [if_pos h1_] at h_
      have h1_s := h1_
      try simp at h1_s
      obtain ⟨e1, h3_, h_⟩ := bS_some h_
      obtain ⟨h3_a, h3_b, h3_c, h3_d⟩ := r_Code_getI (o := false)  h3_
      try simp [-getElem?_pos] at h3_d
      obtain ⟨r2, h7_, h_⟩ := bS_some h_
      have h7_f := F109_ok e1.names_ e1.vars_ e1.steps_ t1_1 _ h7_
      try simp [F109_ans] at h7_f
      by_cases h8_ : r2 < 0
      · rw [if_pos h8_] at h_
        cases h_
        simp (maxSteps := 2000000) (decide := true) [-getElem?_pos, h1_, h1_s, h3_a, h3_b, h3_c, h3_d, h7_f, h8_, L88_0_ans]
      · rw [if_neg h8_] at h_
        have q_ := ih_ t0_1 r2 (IntKind.i64.wrap (t5_1 + 1)) _ h_
        rcases r_ with ⟨t1_2, t4_1⟩ | t1_3
        all_goals (try simp [L88_0_ans] at q_)
        all_goals simp (maxSteps := 2000000) (decide := true) [-getElem?_pos, h1_, h1_s, h3_a, h3_b, h3_c, h3_d, h7_f, h8_, q_, L88_0_ans]
    · rw [if_neg h1_] at h_
      have h1_s := h1_
      try simp at h1_s
      cases h_
      simp (maxSteps := 2000000) (decide := true) [-getElem?_pos, h1_, h1_s, L88_0_ans]
/-- laws.szCodeS -/
def F88 (a0_27 : List T_Code) (a1_3 : Int) : Option Int :=
  if IntKind.i64.wrap (a1_3 - (a0_27.length : Int)) < 0 then
    some (-1)
  else
  bS (L88_0 FU a0_27 (IntKind.i64.wrap (a1_3 - (a0_27.length : Int))) 0) fun r_ => match r_ with
  | .inl (r3, r4) =>
    some r4
  | .inr r5 =>
    some r5
def F88_ans (a0_27 : List T_Code) (a1_3 : Int) : Int → Ans
  | q3 => .val (.sc (.int .i64 q3)) []
theorem F88_ok (a0_27 : List T_Code) (a1_3 : Int) (r_ : Int) (h_ : F88 a0_27 a1_3 = some r_) : ev EE (.call 88 [.ls false (r_Code false a0_27), .sc (.int .i64 a1_3)] []) = some (F88_ans a0_27 a1_3 r_) := by
  rw [ev_eq]
  simp only [F88] at h_
  by_cases h1_ : IntKind.i64.wrap (a1_3 - (a0_27.length : Int)) < 0
  · rw [if_pos h1_] at h_
    have h1_s := h1_
    try simp at h1_s
    cases h_
    simp (maxSteps := 2000000) (decide := true) [-getElem?_pos, ir88, h1_, h1_s, F88_ans]
  · rw [if_neg h1_] at h_
    have h1_s := h1_
    try simp at h1_s
    obtain ⟨r_2, h3_, h_⟩ := bS_some h_
    have h3_f := L88_0_ok FU a0_27 (IntKind.i64.wrap (a1_3 - (a0_27.length : Int))) 0 _ h3_
    rcases r_2 with ⟨r3, r4⟩ | r5
    · try dsimp only at h_
      try simp [L88_0_ans] at h3_f
      cases h_
      simp (maxSteps := 2000000) (decide := true) [-getElem?_pos, ir88, h1_, h1_s, h3_f, F88_ans]
    · try dsimp only at h_
      try simp [L88_0_ans] at h3_f
      cases h_
      simp (maxSteps := 2000000) (decide := true) [-getElem?_pos, ir88, h1_, h1_s, h3_f, F88_ans]
def L55_0 : Nat → (List ByteArray) → Int → Int → Option ((Int × Int) ⊕ Int)
  | 0, _, _, _ => none
  | n_ + 1, t0_2, t1_4, t5_2 =>
  if t5_2 < (t0_2.length : Int) then
    bS (getI t0_2 t5_2) fun e2 =>
    if IntKind.i64.wrap (t1_4 - (e2.size : Int)) < 0 then
      some (.inl (IntKind.i64.wrap (t1_4 - (e2.size : Int)), (-1)))
    else
      L55_0 n_ t0_2 (IntKind.i64.wrap (t1_4 - (e2.size : Int))) (IntKind.i64.wrap (t5_2 + 1))
  else
    some (.inr t1_4)
def L55_0_ans (t0_2 : List ByteArray) (t1_4 : Int) (t5_2 : Int) : (Int × Int) ⊕ Int → Ans
  | .inl (t1_5, t4_2) => .out .ret { np := 0, tm := [(1, .sc (.int .i64 t1_5)), (4, .sc (.int .i64 t4_2))], ar := [], bx := [] }
  | .inr t1_6 => .out (.exit 0) { np := 0, tm := [(1, .sc (.int .i64 t1_6))], ar := [], bx := [] }
theorem L55_0_ok : ∀ (n_ : Nat) (t0_2 : List ByteArray) (t1_4 : Int) (t5_2 : Int) (r_ : (Int × Int) ⊕ Int), L55_0 n_ t0_2 t1_4 t5_2 = some r_ → ev EE (.loop lp55_0 [0, 1, 5] [1, 4] { np := 0, tm := [(0, .ls false (strs t0_2)), (1, .sc (.int .i64 t1_4)), (5, .sc (.int .i64 t5_2))], ar := [], bx := [] }) = some (L55_0_ans t0_2 t1_4 t5_2 r_) := by
  intro n_
  induction n_ with
  | zero => intro t0_2 t1_4 t5_2 r_ h_; simp only [L55_0] at h_; cases h_
  | succ n_ ih_ =>
    intro t0_2 t1_4 t5_2 r_ h_
    rw [ev_loop EE lp55_0.eq_1]
    simp only [L55_0] at h_
    by_cases h1_ : t5_2 < (t0_2.length : Int)
    · rw [if_pos h1_] at h_
      have h1_s := h1_
      try simp at h1_s
      obtain ⟨e2, h3_, h_⟩ := bS_some h_
      obtain ⟨h3_a, h3_b, h3_c, h3_d⟩ := strs_getI  h3_
      try simp [-getElem?_pos] at h3_d
      by_cases h7_ : IntKind.i64.wrap (t1_4 - (e2.size : Int)) < 0
      · rw [if_pos h7_] at h_
        have h7_s := h7_
        try simp at h7_s
        cases h_
        simp (maxSteps := 2000000) (decide := true) [-getElem?_pos, h1_, h1_s, h3_a, h3_b, h3_c, h3_d, h7_, h7_s, L55_0_ans]
      · rw [if_neg h7_] at h_
        have h7_s := h7_
        try simp at h7_s
        have q_ := ih_ t0_2 (IntKind.i64.wrap (t1_4 - (e2.size : Int))) (IntKind.i64.wrap (t5_2 + 1)) _ h_
        rcases r_ with ⟨t1_5, t4_2⟩ | t1_6
        all_goals (try simp [L55_0_ans] at q_)
        all_goals simp (maxSteps := 2000000) (decide := true) [-getElem?_pos, h1_, h1_s, h3_a, h3_b, h3_c, h3_d, h7_, h7_s, q_, L55_0_ans]
    · rw [if_neg h1_] at h_
      have h1_s := h1_
      try simp at h1_s
      cases h_
      simp (maxSteps := 2000000) (decide := true) [-getElem?_pos, h1_, h1_s, L55_0_ans]
/-- laws.szStringS -/
def F55 (a0_32 : List ByteArray) (a1_6 : Int) : Option Int :=
  if IntKind.i64.wrap (a1_6 - (a0_32.length : Int)) < 0 then
    some (-1)
  else
  bS (L55_0 FU a0_32 (IntKind.i64.wrap (a1_6 - (a0_32.length : Int))) 0) fun r_ => match r_ with
  | .inl (r7, r8) =>
    some r8
  | .inr r9 =>
    some r9
def F55_ans (a0_32 : List ByteArray) (a1_6 : Int) : Int → Ans
  | q4 => .val (.sc (.int .i64 q4)) []
theorem F55_ok (a0_32 : List ByteArray) (a1_6 : Int) (r_ : Int) (h_ : F55 a0_32 a1_6 = some r_) : ev EE (.call 55 [.ls false (strs a0_32), .sc (.int .i64 a1_6)] []) = some (F55_ans a0_32 a1_6 r_) := by
  rw [ev_eq]
  simp only [F55] at h_
  by_cases h1_ : IntKind.i64.wrap (a1_6 - (a0_32.length : Int)) < 0
  · rw [if_pos h1_] at h_
    have h1_s := h1_
    try simp at h1_s
    cases h_
    simp (maxSteps := 2000000) (decide := true) [-getElem?_pos, ir55, h1_, h1_s, F55_ans]
  · rw [if_neg h1_] at h_
    have h1_s := h1_
    try simp at h1_s
    obtain ⟨r_2, h3_, h_⟩ := bS_some h_
    have h3_f := L55_0_ok FU a0_32 (IntKind.i64.wrap (a1_6 - (a0_32.length : Int))) 0 _ h3_
    rcases r_2 with ⟨r7, r8⟩ | r9
    · try dsimp only at h_
      try simp [L55_0_ans] at h3_f
      cases h_
      simp (maxSteps := 2000000) (decide := true) [-getElem?_pos, ir55, h1_, h1_s, h3_f, F55_ans]
    · try dsimp only at h_
      try simp [L55_0_ans] at h3_f
      cases h_
      simp (maxSteps := 2000000) (decide := true) [-getElem?_pos, ir55, h1_, h1_s, h3_f, F55_ans]
/-- laws.szUnit -/
def F52 (a0_25 : List T_Code) (a0_26 : List ByteArray) (a1_2 : Int) : Option Int :=
  bS (F88 a0_25 a1_2) fun r6 =>
  if r6 < 0 then
    some (-1)
  else
  bS (F55 a0_26 r6) fun r10 =>
  if r10 < 0 then
    some (-1)
  else
    some r10
def F52_ans (a0_25 : List T_Code) (a0_26 : List ByteArray) (a1_2 : Int) : Int → Ans
  | q5 => .val (.sc (.int .i64 q5)) []
theorem F52_ok (a0_25 : List T_Code) (a0_26 : List ByteArray) (a1_2 : Int) (r_ : Int) (h_ : F52 a0_25 a0_26 a1_2 = some r_) : ev EE (.call 52 [.ag [.ls false (r_Code false a0_25), .ls false (strs a0_26)], .sc (.int .i64 a1_2)] []) = some (F52_ans a0_25 a0_26 a1_2 r_) := by
  rw [ev_eq]
  simp only [F52] at h_
  obtain ⟨r6, h1_, h_⟩ := bS_some h_
  have h1_f := F88_ok a0_25 a1_2 _ h1_
  try simp [F88_ans] at h1_f
  by_cases h2_ : r6 < 0
  · rw [if_pos h2_] at h_
    cases h_
    simp (maxSteps := 2000000) (decide := true) [-getElem?_pos, ir52, h1_f, h2_, F52_ans]
  · rw [if_neg h2_] at h_
    obtain ⟨r10, h3_, h_⟩ := bS_some h_
    have h3_f := F55_ok a0_26 r6 _ h3_
    try simp [F55_ans] at h3_f
    by_cases h4_ : r10 < 0
    · rw [if_pos h4_] at h_
      cases h_
      simp (maxSteps := 2000000) (decide := true) [-getElem?_pos, ir52, h1_f, h2_, h3_f, h4_, F52_ans]
    · rw [if_neg h4_] at h_
      cases h_
      simp (maxSteps := 2000000) (decide := true) [-getElem?_pos, ir52, h1_f, h2_, h3_f, h4_, F52_ans]
/-- laws.szIntS -/
def F34 (a0_34 : List Int) (a1_8 : Int) : Option Int :=
  if IntKind.i64.wrap (a1_8 - (a0_34.length : Int)) < 0 then
    some (-1)
  else
    some (IntKind.i64.wrap (a1_8 - (a0_34.length : Int)))
def F34_ans (a0_34 : List Int) (a1_8 : Int) : Int → Ans
  | q6 => .val (.sc (.int .i64 q6)) []
theorem F34_ok (a0_34 : List Int) (a1_8 : Int) (r_ : Int) (h_ : F34 a0_34 a1_8 = some r_) : ev EE (.call 34 [.ls false (ints a0_34), .sc (.int .i64 a1_8)] []) = some (F34_ans a0_34 a1_8 r_) := by
  rw [ev_eq]
  simp only [F34] at h_
  by_cases h1_ : IntKind.i64.wrap (a1_8 - (a0_34.length : Int)) < 0
  · rw [if_pos h1_] at h_
    have h1_s := h1_
    try simp at h1_s
    cases h_
    simp (maxSteps := 2000000) (decide := true) [-getElem?_pos, ir34, h1_, h1_s, F34_ans]
  · rw [if_neg h1_] at h_
    have h1_s := h1_
    try simp at h1_s
    cases h_
    simp (maxSteps := 2000000) (decide := true) [-getElem?_pos, ir34, h1_, h1_s, F34_ans]
/-- laws.szSlab -/
def F8 (a0_33 : List Int) (a1_7 : Int) : Option Int :=
  bS (F34 a0_33 a1_7) fun r12 =>
  if r12 < 0 then
    some (-1)
  else
    some r12
def F8_ans (a0_33 : List Int) (a1_7 : Int) : Int → Ans
  | q7 => .val (.sc (.int .i64 q7)) []
theorem F8_ok (a0_33 : List Int) (a1_7 : Int) (r_ : Int) (h_ : F8 a0_33 a1_7 = some r_) : ev EE (.call 8 [.ag [.ls false (ints a0_33)], .sc (.int .i64 a1_7)] []) = some (F8_ans a0_33 a1_7 r_) := by
  rw [ev_eq]
  simp only [F8] at h_
  obtain ⟨r12, h1_, h_⟩ := bS_some h_
  have h1_f := F34_ok a0_33 a1_7 _ h1_
  try simp [F34_ans] at h1_f
  by_cases h2_ : r12 < 0
  · rw [if_pos h2_] at h_
    cases h_
    simp (maxSteps := 2000000) (decide := true) [-getElem?_pos, ir8, h1_f, h2_, F8_ans]
  · rw [if_neg h2_] at h_
    cases h_
    simp (maxSteps := 2000000) (decide := true) [-getElem?_pos, ir8, h1_f, h2_, F8_ans]
/-- laws.szMarker -/
def F53 (a0_35 : Int) (a0_36 : List Int) (a0_37 : List Int) (a0_38 : Int) (a1_9 : Int) : Option Int :=
  bS (F34 a0_36 a1_9) fun r14 =>
  if r14 < 0 then
    some (-1)
  else
  bS (F34 a0_37 r14) fun r15 =>
  if r15 < 0 then
    some (-1)
  else
    some r15
def F53_ans (a0_35 : Int) (a0_36 : List Int) (a0_37 : List Int) (a0_38 : Int) (a1_9 : Int) : Int → Ans
  | q8 => .val (.sc (.int .i64 q8)) []
theorem F53_ok (a0_35 : Int) (a0_36 : List Int) (a0_37 : List Int) (a0_38 : Int) (a1_9 : Int) (r_ : Int) (h_ : F53 a0_35 a0_36 a0_37 a0_38 a1_9 = some r_) : ev EE (.call 53 [.ag [.sc (.int .i64 a0_35), .ls false (ints a0_36), .ls false (ints a0_37), .sc (.int .i64 a0_38)], .sc (.int .i64 a1_9)] []) = some (F53_ans a0_35 a0_36 a0_37 a0_38 a1_9 r_) := by
  rw [ev_eq]
  simp only [F53] at h_
  obtain ⟨r14, h1_, h_⟩ := bS_some h_
  have h1_f := F34_ok a0_36 a1_9 _ h1_
  try simp [F34_ans] at h1_f
  by_cases h2_ : r14 < 0
  · rw [if_pos h2_] at h_
    cases h_
    simp (maxSteps := 2000000) (decide := true) [-getElem?_pos, ir53, h1_f, h2_, F53_ans]
  · rw [if_neg h2_] at h_
    obtain ⟨r15, h3_, h_⟩ := bS_some h_
    have h3_f := F34_ok a0_37 r14 _ h3_
    try simp [F34_ans] at h3_f
    by_cases h4_ : r15 < 0
    · rw [if_pos h4_] at h_
      cases h_
      simp (maxSteps := 2000000) (decide := true) [-getElem?_pos, ir53, h1_f, h2_, h3_f, h4_, F53_ans]
    · rw [if_neg h4_] at h_
      cases h_
      simp (maxSteps := 2000000) (decide := true) [-getElem?_pos, ir53, h1_f, h2_, h3_f, h4_, F53_ans]
/-- laws.szFrameS -/
def F54 (a0_39 : List T_Step) (a1_10 : Int) : Option Int :=
  if IntKind.i64.wrap (a1_10 - (a0_39.length : Int)) < 0 then
    some (-1)
  else
    some (IntKind.i64.wrap (a1_10 - (a0_39.length : Int)))
def F54_ans (a0_39 : List T_Step) (a1_10 : Int) : Int → Ans
  | q9 => .val (.sc (.int .i64 q9)) []
theorem F54_ok (a0_39 : List T_Step) (a1_10 : Int) (r_ : Int) (h_ : F54 a0_39 a1_10 = some r_) : ev EE (.call 54 [.ls false (r_Step a0_39), .sc (.int .i64 a1_10)] []) = some (F54_ans a0_39 a1_10 r_) := by
  rw [ev_eq]
  simp only [F54] at h_
  by_cases h1_ : IntKind.i64.wrap (a1_10 - (a0_39.length : Int)) < 0
  · rw [if_pos h1_] at h_
    have h1_s := h1_
    try simp at h1_s
    cases h_
    simp (maxSteps := 2000000) (decide := true) [-getElem?_pos, ir54, h1_, h1_s, F54_ans]
  · rw [if_neg h1_] at h_
    have h1_s := h1_
    try simp at h1_s
    cases h_
    simp (maxSteps := 2000000) (decide := true) [-getElem?_pos, ir54, h1_, h1_s, F54_ans]
/-- laws.szMachine -/
def F23 (a0_13 : List T_Code) (a0_14 : List ByteArray) (a0_15 : List Int) (a0_16 : Int) (a0_17 : List Int) (a0_18 : List Int) (a0_19 : Int) (a0_20 : List T_Step) (a0_21 : List Int) (a0_22 : List ByteArray) (a0_23 : Bool) (a0_24 : Int) (a1_1 : Int) : Option Int :=
  bS (F52 a0_13 a0_14 a1_1) fun r11 =>
  if r11 < 0 then
    some (-1)
  else
  bS (F8 a0_15 r11) fun r13 =>
  if r13 < 0 then
    some (-1)
  else
  bS (F53 a0_16 a0_17 a0_18 a0_19 r13) fun r16 =>
  if r16 < 0 then
    some (-1)
  else
  bS (F54 a0_20 r16) fun r17 =>
  if r17 < 0 then
    some (-1)
  else
  bS (F34 a0_21 r17) fun r18 =>
  if r18 < 0 then
    some (-1)
  else
  bS (F55 a0_22 r18) fun r19 =>
  if r19 < 0 then
    some (-1)
  else
    some r19
def F23_ans (a0_13 : List T_Code) (a0_14 : List ByteArray) (a0_15 : List Int) (a0_16 : Int) (a0_17 : List Int) (a0_18 : List Int) (a0_19 : Int) (a0_20 : List T_Step) (a0_21 : List Int) (a0_22 : List ByteArray) (a0_23 : Bool) (a0_24 : Int) (a1_1 : Int) : Int → Ans
  | q10 => .val (.sc (.int .i64 q10)) []
theorem F23_ok (a0_13 : List T_Code) (a0_14 : List ByteArray) (a0_15 : List Int) (a0_16 : Int) (a0_17 : List Int) (a0_18 : List Int) (a0_19 : Int) (a0_20 : List T_Step) (a0_21 : List Int) (a0_22 : List ByteArray) (a0_23 : Bool) (a0_24 : Int) (a1_1 : Int) (r_ : Int) (h_ : F23 a0_13 a0_14 a0_15 a0_16 a0_17 a0_18 a0_19 a0_20 a0_21 a0_22 a0_23 a0_24 a1_1 = some r_) : ev EE (.call 23 [.ag [.ls false (r_Code false a0_13), .ls false (strs a0_14), .ls false (ints a0_15), .sc (.int .i64 a0_16), .ls false (ints a0_17), .ls false (ints a0_18), .sc (.int .i64 a0_19), .ls false (r_Step a0_20), .ls false (ints a0_21), .ls false (strs a0_22), .sc (.bool a0_23), .sc (.int .i64 a0_24)], .sc (.int .i64 a1_1)] []) = some (F23_ans a0_13 a0_14 a0_15 a0_16 a0_17 a0_18 a0_19 a0_20 a0_21 a0_22 a0_23 a0_24 a1_1 r_) := by
  rw [ev_eq]
  simp only [F23] at h_
  obtain ⟨r11, h1_, h_⟩ := bS_some h_
  have h1_f := F52_ok a0_13 a0_14 a1_1 _ h1_
  try simp [F52_ans] at h1_f
  by_cases h2_ : r11 < 0
  · rw [if_pos h2_] at h_
    cases h_
    simp (maxSteps := 2000000) (decide := true) [-getElem?_pos, ir23, h1_f, h2_, F23_ans]
  · rw [if_neg h2_] at h_
    obtain ⟨r13, h3_, h_⟩ := bS_some h_
    have h3_f := F8_ok a0_15 r11 _ h3_
    try simp [F8_ans] at h3_f
    by_cases h4_ : r13 < 0
    · rw [if_pos h4_] at h_
      cases h_
      simp (maxSteps := 2000000) (decide := true) [-getElem?_pos, ir23, h1_f, h2_, h3_f, h4_, F23_ans]
    · rw [if_neg h4_] at h_
      obtain ⟨r16, h5_, h_⟩ := bS_some h_
      have h5_f := F53_ok a0_16 a0_17 a0_18 a0_19 r13 _ h5_
      try simp [F53_ans] at h5_f
      by_cases h6_ : r16 < 0
      · rw [if_pos h6_] at h_
        cases h_
        simp (maxSteps := 2000000) (decide := true) [-getElem?_pos, ir23, h1_f, h2_, h3_f, h4_, h5_f, h6_, F23_ans]
      · rw [if_neg h6_] at h_
        obtain ⟨r17, h7_, h_⟩ := bS_some h_
        have h7_f := F54_ok a0_20 r16 _ h7_
        try simp [F54_ans] at h7_f
        by_cases h8_ : r17 < 0
        · rw [if_pos h8_] at h_
          cases h_
          simp (maxSteps := 2000000) (decide := true) [-getElem?_pos, ir23, h1_f, h2_, h3_f, h4_, h5_f, h6_, h7_f, h8_, F23_ans]
        · rw [if_neg h8_] at h_
          obtain ⟨r18, h9_, h_⟩ := bS_some h_
          have h9_f := F34_ok a0_21 r17 _ h9_
          try simp [F34_ans] at h9_f
          by_cases h10_ : r18 < 0
          · rw [if_pos h10_] at h_
            cases h_
            simp (maxSteps := 2000000) (decide := true) [-getElem?_pos, ir23, h1_f, h2_, h3_f, h4_, h5_f, h6_, h7_f, h8_, h9_f, h10_, F23_ans]
          · rw [if_neg h10_] at h_
            obtain ⟨r19, h11_, h_⟩ := bS_some h_
            have h11_f := F55_ok a0_22 r18 _ h11_
            try simp [F55_ans] at h11_f
            by_cases h12_ : r19 < 0
            · rw [if_pos h12_] at h_
              cases h_
              simp (maxSteps := 2000000) (decide := true) [-getElem?_pos, ir23, h1_f, h2_, h3_f, h4_, h5_f, h6_, h7_f, h8_, h9_f, h10_, h11_f, h12_, F23_ans]
            · rw [if_neg h12_] at h_
              cases h_
              simp (maxSteps := 2000000) (decide := true) [-getElem?_pos, ir23, h1_f, h2_, h3_f, h4_, h5_f, h6_, h7_f, h8_, h9_f, h10_, h11_f, h12_, F23_ans]
/-- laws.toStep -/
def F117 (a0_59 : Int) (a0_60 : Int) (a0_61 : Int) : Option (Int × Int × Int) :=
  some (a0_59, a0_60, a0_61)
def F117_ans (a0_59 : Int) (a0_60 : Int) (a0_61 : Int) : (Int × Int × Int) → Ans
  | (q11, q12, q13) => .val (.ag [.sc (.int .i64 q11), .sc (.int .i64 q12), .sc (.int .i64 q13)]) []
theorem F117_ok (a0_59 : Int) (a0_60 : Int) (a0_61 : Int) (r_ : (Int × Int × Int)) (h_ : F117 a0_59 a0_60 a0_61 = some r_) : ev EE (.call 117 [.ag [.sc (.int .i64 a0_59), .sc (.int .i64 a0_60), .sc (.int .i64 a0_61)]] []) = some (F117_ans a0_59 a0_60 a0_61 r_) := by
  rw [ev_eq]
  simp only [F117] at h_
  cases h_
  simp (maxSteps := 2000000) (decide := true) [-getElem?_pos, ir117, F117_ans]
def L115_0 : Nat → (List T_Step) → (List T_Step) → Int → Option (List T_Step)
  | 0, _, _, _ => none
  | n_ + 1, t0_4, t3_2, t4_4 =>
  if t4_4 < (t0_4.length : Int) then
    bS (getI t0_4 t4_4) fun e4 =>
    bS (F117 e4.op_ e4.a_ e4.b_) fun (r21, r22, r23) =>
    bS (getI t3_2 t4_4) fun e5 =>
    L115_0 n_ t0_4 (List.set t3_2 t4_4.toNat (⟨r21, r22, r23⟩ : T_Step)) (IntKind.i64.wrap (t4_4 + 1))
  else
    some t3_2
def L115_0_ans (t0_4 : List T_Step) (t3_2 : List T_Step) (t4_4 : Int) : (List T_Step) → Ans
  | t3_3 => .out (.exit 0) { np := 0, tm := [(3, .rf 0 0 t3_3.length)], ar := [(0, .a false (r_Step t3_3))], bx := [] }
theorem L115_0_ok : ∀ (n_ : Nat) (t0_4 : List T_Step) (t3_2 : List T_Step) (t4_4 : Int) (r_ : (List T_Step)), L115_0 n_ t0_4 t3_2 t4_4 = some r_ → ev EE (.loop lp115_0 [0, 3, 4] [2, 3] { np := 0, tm := [(0, .ls false (r_Step t0_4)), (3, .rf 0 0 t3_2.length), (4, .sc (.int .i64 t4_4))], ar := [(0, .a false (r_Step t3_2))], bx := [] }) = some (L115_0_ans t0_4 t3_2 t4_4 r_) := by
  intro n_
  induction n_ with
  | zero => intro t0_4 t3_2 t4_4 r_ h_; simp only [L115_0] at h_; cases h_
  | succ n_ ih_ =>
    intro t0_4 t3_2 t4_4 r_ h_
    rw [ev_loop EE lp115_0.eq_1]
    simp only [L115_0] at h_
    by_cases h1_ : t4_4 < (t0_4.length : Int)
    · rw [if_pos h1_] at h_
      have h1_s := h1_
      try simp at h1_s
      obtain ⟨e4, h3_, h_⟩ := bS_some h_
      obtain ⟨h3_a, h3_b, h3_c, h3_d⟩ := r_Step_getI  h3_
      try simp [-getElem?_pos] at h3_d
      obtain ⟨⟨r21, r22, r23⟩, h7_, h_⟩ := bS_some h_
      try dsimp only at h_
      have h7_f := F117_ok e4.op_ e4.a_ e4.b_ _ h7_
      try simp [F117_ans] at h7_f
      obtain ⟨e5, h8_, h_⟩ := bS_some h_
      obtain ⟨h8_a, h8_b, h8_c, h8_d⟩ := r_Step_getI  h8_
      try simp [-getElem?_pos] at h8_d
      have q_ := ih_ t0_4 (List.set t3_2 t4_4.toNat (⟨r21, r22, r23⟩ : T_Step)) (IntKind.i64.wrap (t4_4 + 1)) _ h_
      rcases r_ with t3_3
      all_goals (try simp [L115_0_ans] at q_)
      all_goals simp (maxSteps := 2000000) (decide := true) [-getElem?_pos, h1_, h1_s, h3_a, h3_b, h3_c, h3_d, h7_f, h8_a, h8_b, h8_c, h8_d, q_, L115_0_ans]
    · rw [if_neg h1_] at h_
      have h1_s := h1_
      try simp at h1_s
      cases h_
      simp (maxSteps := 2000000) (decide := true) [-getElem?_pos, h1_, h1_s, L115_0_ans]
/-- laws.toStepS -/
def F115 (a0_58 : List T_Step) : Option (List T_Step) :=
  if lim a0_58.length 24 = true then
  bS (L115_0 FU a0_58 (List.replicate a0_58.length (⟨0, 0, 0⟩ : T_Step)) 0) fun r24 =>
  some r24
  else none
def F115_ans (a0_58 : List T_Step) : (List T_Step) → Ans
  | q14 => .val (.ls true (r_Step q14)) []
theorem F115_ok (a0_58 : List T_Step) (r_ : (List T_Step)) (h_ : F115 a0_58 = some r_) : ev EE (.call 115 [.ls false (r_Step a0_58)] []) = some (F115_ans a0_58 r_) := by
  rw [ev_eq]
  simp only [F115] at h_
  by_cases h1_ : lim a0_58.length 24 = true
  · rw [if_pos h1_] at h_
    obtain ⟨r24, h2_, h_⟩ := bS_some h_
    have h2_f := L115_0_ok FU a0_58 (List.replicate a0_58.length (⟨0, 0, 0⟩ : T_Step)) 0 _ h2_
    try simp [L115_0_ans] at h2_f
    cases h_
    simp (maxSteps := 2000000) (decide := true) [-getElem?_pos, ir115, h1_, h2_f, F115_ans]
  · rw [if_neg h1_] at h_
    cases h_
/-- laws.toCode -/
def F110 (a0_55 : Int) (a0_56 : Int) (a0_57 : List T_Step) : Option (Int × Int × (List T_Step)) :=
  bS (F115 a0_57) fun r25 =>
  some (a0_55, a0_56, r25)
def F110_ans (a0_55 : Int) (a0_56 : Int) (a0_57 : List T_Step) : (Int × Int × (List T_Step)) → Ans
  | (q15, q16, q17) => .val (.ag [.sc (.int .i64 q15), .sc (.int .i64 q16), .ls true (r_Step q17)]) []
theorem F110_ok (a0_55 : Int) (a0_56 : Int) (a0_57 : List T_Step) (r_ : (Int × Int × (List T_Step))) (h_ : F110 a0_55 a0_56 a0_57 = some r_) : ev EE (.call 110 [.ag [.sc (.int .i64 a0_55), .sc (.int .i64 a0_56), .ls false (r_Step a0_57)]] []) = some (F110_ans a0_55 a0_56 a0_57 r_) := by
  rw [ev_eq]
  simp only [F110] at h_
  obtain ⟨r25, h1_, h_⟩ := bS_some h_
  have h1_f := F115_ok a0_57 _ h1_
  try simp [F115_ans] at h1_f
  cases h_
  simp (maxSteps := 2000000) (decide := true) [-getElem?_pos, ir110, h1_f, F110_ans]
def L89_0 : Nat → (List T_Code) → (List T_Code) → Int → Option (List T_Code)
  | 0, _, _, _ => none
  | n_ + 1, t0_3, t3_1, t4_3 =>
  if t4_3 < (t0_3.length : Int) then
    bS (getI t0_3 t4_3) fun e3 =>
    bS (F110 e3.names_ e3.vars_ e3.steps_) fun (r26, r27, r28) =>
    bS (getI t3_1 t4_3) fun e6 =>
    L89_0 n_ t0_3 (List.set t3_1 t4_3.toNat (⟨r26, r27, r28⟩ : T_Code)) (IntKind.i64.wrap (t4_3 + 1))
  else
    some t3_1
def L89_0_ans (t0_3 : List T_Code) (t3_1 : List T_Code) (t4_3 : Int) : (List T_Code) → Ans
  | t3_4 => .out (.exit 0) { np := 0, tm := [(3, .rf 0 0 t3_4.length)], ar := [(0, .a false (r_Code true t3_4))], bx := [] }
theorem L89_0_ok : ∀ (n_ : Nat) (t0_3 : List T_Code) (t3_1 : List T_Code) (t4_3 : Int) (r_ : (List T_Code)), L89_0 n_ t0_3 t3_1 t4_3 = some r_ → ev EE (.loop lp89_0 [0, 3, 4] [2, 3] { np := 0, tm := [(0, .ls false (r_Code false t0_3)), (3, .rf 0 0 t3_1.length), (4, .sc (.int .i64 t4_3))], ar := [(0, .a false (r_Code true t3_1))], bx := [] }) = some (L89_0_ans t0_3 t3_1 t4_3 r_) := by
  intro n_
  induction n_ with
  | zero => intro t0_3 t3_1 t4_3 r_ h_; simp only [L89_0] at h_; cases h_
  | succ n_ ih_ =>
    intro t0_3 t3_1 t4_3 r_ h_
    rw [ev_loop EE lp89_0.eq_1]
    simp only [L89_0] at h_
    by_cases h1_ : t4_3 < (t0_3.length : Int)
    · rw [if_pos h1_] at h_
      have h1_s := h1_
      try simp at h1_s
      obtain ⟨e3, h3_, h_⟩ := bS_some h_
      obtain ⟨h3_a, h3_b, h3_c, h3_d⟩ := r_Code_getI (o := false)  h3_
      try simp [-getElem?_pos] at h3_d
      obtain ⟨⟨r26, r27, r28⟩, h7_, h_⟩ := bS_some h_
      try dsimp only at h_
      have h7_f := F110_ok e3.names_ e3.vars_ e3.steps_ _ h7_
      try simp [F110_ans] at h7_f
      obtain ⟨e6, h8_, h_⟩ := bS_some h_
      obtain ⟨h8_a, h8_b, h8_c, h8_d⟩ := r_Code_getI (o := true)  h8_
      try simp [-getElem?_pos] at h8_d
      have q_ := ih_ t0_3 (List.set t3_1 t4_3.toNat (⟨r26, r27, r28⟩ : T_Code)) (IntKind.i64.wrap (t4_3 + 1)) _ h_
      rcases r_ with t3_4
      all_goals (try simp [L89_0_ans] at q_)
      all_goals simp (maxSteps := 2000000) (decide := true) [-getElem?_pos, h1_, h1_s, h3_a, h3_b, h3_c, h3_d, h7_f, h8_a, h8_b, h8_c, h8_d, q_, L89_0_ans]
    · rw [if_neg h1_] at h_
      have h1_s := h1_
      try simp at h1_s
      cases h_
      simp (maxSteps := 2000000) (decide := true) [-getElem?_pos, h1_, h1_s, L89_0_ans]
/-- laws.toCodeS -/
def F89 (a0_54 : List T_Code) : Option (List T_Code) :=
  if lim a0_54.length 40 = true then
  bS (L89_0 FU a0_54 (List.replicate a0_54.length (⟨0, 0, []⟩ : T_Code)) 0) fun r29 =>
  some r29
  else none
def F89_ans (a0_54 : List T_Code) : (List T_Code) → Ans
  | q18 => .val (.ls true (r_Code true q18)) []
theorem F89_ok (a0_54 : List T_Code) (r_ : (List T_Code)) (h_ : F89 a0_54 = some r_) : ev EE (.call 89 [.ls false (r_Code false a0_54)] []) = some (F89_ans a0_54 r_) := by
  rw [ev_eq]
  simp only [F89] at h_
  by_cases h1_ : lim a0_54.length 40 = true
  · rw [if_pos h1_] at h_
    obtain ⟨r29, h2_, h_⟩ := bS_some h_
    have h2_f := L89_0_ok FU a0_54 (List.replicate a0_54.length (⟨0, 0, []⟩ : T_Code)) 0 _ h2_
    try simp [L89_0_ans] at h2_f
    cases h_
    simp (maxSteps := 2000000) (decide := true) [-getElem?_pos, ir89, h1_, h2_f, F89_ans]
  · rw [if_neg h1_] at h_
    cases h_
def L59_0 : Nat → (List ByteArray) → (List ByteArray) → Int → Option (List ByteArray)
  | 0, _, _, _ => none
  | n_ + 1, t0_5, t3_5, t4_5 =>
  if t4_5 < (t0_5.length : Int) then
    bS (getI t0_5 t4_5) fun e7 =>
    bS (getI t3_5 t4_5) fun e8 =>
    L59_0 n_ t0_5 (List.set t3_5 t4_5.toNat e7) (IntKind.i64.wrap (t4_5 + 1))
  else
    some t3_5
def L59_0_ans (t0_5 : List ByteArray) (t3_5 : List ByteArray) (t4_5 : Int) : (List ByteArray) → Ans
  | t3_6 => .out (.exit 0) { np := 0, tm := [(3, .rf 0 0 t3_6.length)], ar := [(0, .a false (strs t3_6))], bx := [] }
theorem L59_0_ok : ∀ (n_ : Nat) (t0_5 : List ByteArray) (t3_5 : List ByteArray) (t4_5 : Int) (r_ : (List ByteArray)), L59_0 n_ t0_5 t3_5 t4_5 = some r_ → ev EE (.loop lp59_0 [0, 3, 4] [2, 3] { np := 0, tm := [(0, .ls false (strs t0_5)), (3, .rf 0 0 t3_5.length), (4, .sc (.int .i64 t4_5))], ar := [(0, .a false (strs t3_5))], bx := [] }) = some (L59_0_ans t0_5 t3_5 t4_5 r_) := by
  intro n_
  induction n_ with
  | zero => intro t0_5 t3_5 t4_5 r_ h_; simp only [L59_0] at h_; cases h_
  | succ n_ ih_ =>
    intro t0_5 t3_5 t4_5 r_ h_
    rw [ev_loop EE lp59_0.eq_1]
    simp only [L59_0] at h_
    by_cases h1_ : t4_5 < (t0_5.length : Int)
    · rw [if_pos h1_] at h_
      have h1_s := h1_
      try simp at h1_s
      obtain ⟨e7, h3_, h_⟩ := bS_some h_
      obtain ⟨h3_a, h3_b, h3_c, h3_d⟩ := strs_getI  h3_
      try simp [-getElem?_pos] at h3_d
      obtain ⟨e8, h7_, h_⟩ := bS_some h_
      obtain ⟨h7_a, h7_b, h7_c, h7_d⟩ := strs_getI  h7_
      try simp [-getElem?_pos] at h7_d
      have q_ := ih_ t0_5 (List.set t3_5 t4_5.toNat e7) (IntKind.i64.wrap (t4_5 + 1)) _ h_
      rcases r_ with t3_6
      all_goals (try simp [L59_0_ans] at q_)
      all_goals simp (maxSteps := 2000000) (decide := true) [-getElem?_pos, h1_, h1_s, h3_a, h3_b, h3_c, h3_d, h7_a, h7_b, h7_c, h7_d, q_, L59_0_ans]
    · rw [if_neg h1_] at h_
      have h1_s := h1_
      try simp at h1_s
      cases h_
      simp (maxSteps := 2000000) (decide := true) [-getElem?_pos, h1_, h1_s, L59_0_ans]
end Go.Pv

namespace Go.Pv
set_option maxRecDepth 100000
set_option maxHeartbeats 40000000
set_option linter.unusedSimpArgs false
set_option linter.unusedVariables false
/-- laws.toStringS -/
def F59 (a0_62 : List ByteArray) : Option (List ByteArray) :=
  if lim a0_62.length 16 = true then
  bS (L59_0 FU a0_62 (List.replicate a0_62.length (⟨#[]⟩ : ByteArray)) 0) fun r31 =>
  some r31
  else none
def F59_ans (a0_62 : List ByteArray) : (List ByteArray) → Ans
  | q19 => .val (.ls true (strs q19)) []
theorem F59_ok (a0_62 : List ByteArray) (r_ : (List ByteArray)) (h_ : F59 a0_62 = some r_) : ev EE (.call 59 [.ls false (strs a0_62)] []) = some (F59_ans a0_62 r_) := by
  rw [ev_eq]
  simp only [F59] at h_
  by_cases h1_ : lim a0_62.length 16 = true
  · rw [if_pos h1_] at h_
    obtain ⟨r31, h2_, h_⟩ := bS_some h_
    have h2_f := L59_0_ok FU a0_62 (List.replicate a0_62.length (⟨#[]⟩ : ByteArray)) 0 _ h2_
    try simp [L59_0_ans] at h2_f
    cases h_
    simp (maxSteps := 2000000) (decide := true) [-getElem?_pos, ir59, h1_, h2_f, F59_ans]
  · rw [if_neg h1_] at h_
    cases h_
/-- laws.toUnit -/
def F56 (a0_52 : List T_Code) (a0_53 : List ByteArray) : Option ((List T_Code) × (List ByteArray)) :=
  bS (F89 a0_52) fun r30 =>
  bS (F59 a0_53) fun r32 =>
  some (r30, r32)
def F56_ans (a0_52 : List T_Code) (a0_53 : List ByteArray) : ((List T_Code) × (List ByteArray)) → Ans
  | (q20, q21) => .val (.ag [.ls true (r_Code true q20), .ls true (strs q21)]) []
theorem F56_ok (a0_52 : List T_Code) (a0_53 : List ByteArray) (r_ : ((List T_Code) × (List ByteArray))) (h_ : F56 a0_52 a0_53 = some r_) : ev EE (.call 56 [.ag [.ls false (r_Code false a0_52), .ls false (strs a0_53)]] []) = some (F56_ans a0_52 a0_53 r_) := by
  rw [ev_eq]
  simp only [F56] at h_
  obtain ⟨r30, h1_, h_⟩ := bS_some h_
  have h1_f := F89_ok a0_52 _ h1_
  try simp [F89_ans] at h1_f
  obtain ⟨r32, h2_, h_⟩ := bS_some h_
  have h2_f := F59_ok a0_53 _ h2_
  try simp [F59_ans] at h2_f
  cases h_
  simp (maxSteps := 2000000) (decide := true) [-getElem?_pos, ir56, h1_f, h2_f, F56_ans]
def L20_0 : Nat → (List Int) → (List Int) → Int → Option (List Int)
  | 0, _, _, _ => none
  | n_ + 1, t0_6, t3_7, t4_6 =>
  if t4_6 < (t0_6.length : Int) then
    bS (getI t0_6 t4_6) fun e9 =>
    bS (getI t3_7 t4_6) fun e10 =>
    L20_0 n_ t0_6 (List.set t3_7 t4_6.toNat e9) (IntKind.i64.wrap (t4_6 + 1))
  else
    some t3_7
def L20_0_ans (t0_6 : List Int) (t3_7 : List Int) (t4_6 : Int) : (List Int) → Ans
  | t3_8 => .out (.exit 0) { np := 0, tm := [(3, .rf 0 0 t3_8.length)], ar := [(0, .a false (ints t3_8))], bx := [] }
theorem L20_0_ok : ∀ (n_ : Nat) (t0_6 : List Int) (t3_7 : List Int) (t4_6 : Int) (r_ : (List Int)), L20_0 n_ t0_6 t3_7 t4_6 = some r_ → ev EE (.loop lp20_0 [0, 3, 4] [2, 3] { np := 0, tm := [(0, .ls false (ints t0_6)), (3, .rf 0 0 t3_7.length), (4, .sc (.int .i64 t4_6))], ar := [(0, .a false (ints t3_7))], bx := [] }) = some (L20_0_ans t0_6 t3_7 t4_6 r_) := by
  intro n_
  induction n_ with
  | zero => intro t0_6 t3_7 t4_6 r_ h_; simp only [L20_0] at h_; cases h_
  | succ n_ ih_ =>
    intro t0_6 t3_7 t4_6 r_ h_
    rw [ev_loop EE lp20_0.eq_1]
    simp only [L20_0] at h_
    by_cases h1_ : t4_6 < (t0_6.length : Int)
    · rw [if_pos h1_] at h_
      have h1_s := h1_
      try simp at h1_s
      obtain ⟨e9, h3_, h_⟩ := bS_some h_
      obtain ⟨h3_a, h3_b, h3_c, h3_d⟩ := ints_getI'  h3_
      try simp [-getElem?_pos] at h3_d
      obtain ⟨e10, h7_, h_⟩ := bS_some h_
      obtain ⟨h7_a, h7_b, h7_c, h7_d⟩ := ints_getI'  h7_
      try simp [-getElem?_pos] at h7_d
      have q_ := ih_ t0_6 (List.set t3_7 t4_6.toNat e9) (IntKind.i64.wrap (t4_6 + 1)) _ h_
      rcases r_ with t3_8
      all_goals (try simp [L20_0_ans] at q_)
      all_goals simp (maxSteps := 2000000) (decide := true) [-getElem?_pos, h1_, h1_s, h3_a, h3_b, h3_c, h3_d, h7_a, h7_b, h7_c, h7_d, q_, L20_0_ans]
    · rw [if_neg h1_] at h_
      have h1_s := h1_
      try simp at h1_s
      cases h_
      simp (maxSteps := 2000000) (decide := true) [-getElem?_pos, h1_, h1_s, L20_0_ans]
/-- laws.toIntS -/
def F20 (a0_64 : List Int) : Option (List Int) :=
  if lim a0_64.length 8 = true then
  bS (L20_0 FU a0_64 (List.replicate a0_64.length 0) 0) fun r35 =>
  some r35
  else none
def F20_ans (a0_64 : List Int) : (List Int) → Ans
  | q22 => .val (.ls true (ints q22)) []
theorem F20_ok (a0_64 : List Int) (r_ : (List Int)) (h_ : F20 a0_64 = some r_) : ev EE (.call 20 [.ls false (ints a0_64)] []) = some (F20_ans a0_64 r_) := by
  rw [ev_eq]
  simp only [F20] at h_
  by_cases h1_ : lim a0_64.length 8 = true
  · rw [if_pos h1_] at h_
    obtain ⟨r35, h2_, h_⟩ := bS_some h_
    have h2_f := L20_0_ok FU a0_64 (List.replicate a0_64.length 0) 0 _ h2_
    try simp [L20_0_ans] at h2_f
    cases h_
    simp (maxSteps := 2000000) (decide := true) [-getElem?_pos, ir20, h1_, h2_f, F20_ans]
  · rw [if_neg h1_] at h_
    cases h_
/-- laws.toSlab -/
def F10 (a0_63 : List Int) : Option (List Int) :=
  bS (F20 a0_63) fun r36 =>
  some r36
def F10_ans (a0_63 : List Int) : (List Int) → Ans
  | q23 => .val (.ag [.ls true (ints q23)]) []
theorem F10_ok (a0_63 : List Int) (r_ : (List Int)) (h_ : F10 a0_63 = some r_) : ev EE (.call 10 [.ag [.ls false (ints a0_63)]] []) = some (F10_ans a0_63 r_) := by
  rw [ev_eq]
  simp only [F10] at h_
  obtain ⟨r36, h1_, h_⟩ := bS_some h_
  have h1_f := F20_ok a0_63 _ h1_
  try simp [F20_ans] at h1_f
  cases h_
  simp (maxSteps := 2000000) (decide := true) [-getElem?_pos, ir10, h1_f, F10_ans]
/-- laws.toMarker -/
def F57 (a0_65 : Int) (a0_66 : List Int) (a0_67 : List Int) (a0_68 : Int) : Option (Int × (List Int) × (List Int) × Int) :=
  bS (F20 a0_66) fun r38 =>
  bS (F20 a0_67) fun r39 =>
  some (a0_65, r38, r39, a0_68)
def F57_ans (a0_65 : Int) (a0_66 : List Int) (a0_67 : List Int) (a0_68 : Int) : (Int × (List Int) × (List Int) × Int) → Ans
  | (q24, q25, q26, q27) => .val (.ag [.sc (.int .i64 q24), .ls true (ints q25), .ls true (ints q26), .sc (.int .i64 q27)]) []
theorem F57_ok (a0_65 : Int) (a0_66 : List Int) (a0_67 : List Int) (a0_68 : Int) (r_ : (Int × (List Int) × (List Int) × Int)) (h_ : F57 a0_65 a0_66 a0_67 a0_68 = some r_) : ev EE (.call 57 [.ag [.sc (.int .i64 a0_65), .ls false (ints a0_66), .ls false (ints a0_67), .sc (.int .i64 a0_68)]] []) = some (F57_ans a0_65 a0_66 a0_67 a0_68 r_) := by
  rw [ev_eq]
  simp only [F57] at h_
  obtain ⟨r38, h1_, h_⟩ := bS_some h_
  have h1_f := F20_ok a0_66 _ h1_
  try simp [F20_ans] at h1_f
  obtain ⟨r39, h2_, h_⟩ := bS_some h_
  have h2_f := F20_ok a0_67 _ h2_
  try simp [F20_ans] at h2_f
  cases h_
  simp (maxSteps := 2000000) (decide := true) [-getElem?_pos, ir57, h1_f, h2_f, F57_ans]
/-- laws.toFrame -/
def F90 (a0_70 : Int) (a0_71 : Int) (a0_72 : Int) : Option (Int × Int × Int) :=
  some (a0_70, a0_71, a0_72)
def F90_ans (a0_70 : Int) (a0_71 : Int) (a0_72 : Int) : (Int × Int × Int) → Ans
  | (q28, q29, q30) => .val (.ag [.sc (.int .i64 q28), .sc (.int .i64 q29), .sc (.int .i64 q30)]) []
theorem F90_ok (a0_70 : Int) (a0_71 : Int) (a0_72 : Int) (r_ : (Int × Int × Int)) (h_ : F90 a0_70 a0_71 a0_72 = some r_) : ev EE (.call 90 [.ag [.sc (.int .i64 a0_70), .sc (.int .i64 a0_71), .sc (.int .i64 a0_72)]] []) = some (F90_ans a0_70 a0_71 a0_72 r_) := by
  rw [ev_eq]
  simp only [F90] at h_
  cases h_
  simp (maxSteps := 2000000) (decide := true) [-getElem?_pos, ir90, F90_ans]
def L58_0 : Nat → (List T_Step) → (List T_Step) → Int → Option (List T_Step)
  | 0, _, _, _ => none
  | n_ + 1, t0_7, t3_9, t4_7 =>
  if t4_7 < (t0_7.length : Int) then
    bS (getI t0_7 t4_7) fun e11 =>
    bS (F90 e11.op_ e11.a_ e11.b_) fun (r44, r45, r46) =>
    bS (getI t3_9 t4_7) fun e12 =>
    L58_0 n_ t0_7 (List.set t3_9 t4_7.toNat (⟨r44, r45, r46⟩ : T_Step)) (IntKind.i64.wrap (t4_7 + 1))
  else
    some t3_9
def L58_0_ans (t0_7 : List T_Step) (t3_9 : List T_Step) (t4_7 : Int) : (List T_Step) → Ans
  | t3_10 => .out (.exit 0) { np := 0, tm := [(3, .rf 0 0 t3_10.length)], ar := [(0, .a false (r_Step t3_10))], bx := [] }
theorem L58_0_ok : ∀ (n_ : Nat) (t0_7 : List T_Step) (t3_9 : List T_Step) (t4_7 : Int) (r_ : (List T_Step)), L58_0 n_ t0_7 t3_9 t4_7 = some r_ → ev EE (.loop lp58_0 [0, 3, 4] [2, 3] { np := 0, tm := [(0, .ls false (r_Step t0_7)), (3, .rf 0 0 t3_9.length), (4, .sc (.int .i64 t4_7))], ar := [(0, .a false (r_Step t3_9))], bx := [] }) = some (L58_0_ans t0_7 t3_9 t4_7 r_) := by
  intro n_
  induction n_ with
  | zero => intro t0_7 t3_9 t4_7 r_ h_; simp only [L58_0] at h_; cases h_
  | succ n_ ih_ =>
    intro t0_7 t3_9 t4_7 r_ h_
    rw [ev_loop EE lp58_0.eq_1]
    simp only [L58_0] at h_
    by_cases h1_ : t4_7 < (t0_7.length : Int)
    · rw [if_pos h1_] at h_
      have h1_s := h1_
      try simp at h1_s
      obtain ⟨e11, h3_, h_⟩ := bS_some h_
      obtain ⟨h3_a, h3_b, h3_c, h3_d⟩ := r_Step_getI  h3_
      try simp [-getElem?_pos] at h3_d
      obtain ⟨⟨r44, r45, r46⟩, h7_, h_⟩ := bS_some h_
      try dsimp only at h_
      have h7_f := F90_ok e11.op_ e11.a_ e11.b_ _ h7_
      try simp [F90_ans] at h7_f
      obtain ⟨e12, h8_, h_⟩ := bS_some h_
      obtain ⟨h8_a, h8_b, h8_c, h8_d⟩ := r_Step_getI  h8_
      try simp [-getElem?_pos] at h8_d
      have q_ := ih_ t0_7 (List.set t3_9 t4_7.toNat (⟨r44, r45, r46⟩ : T_Step)) (IntKind.i64.wrap (t4_7 + 1)) _ h_
      rcases r_ with t3_10
      all_goals (try simp [L58_0_ans] at q_)
      all_goals simp (maxSteps := 2000000) (decide := true) [-getElem?_pos, h1_, h1_s, h3_a, h3_b, h3_c, h3_d, h7_f, h8_a, h8_b, h8_c, h8_d, q_, L58_0_ans]
    · rw [if_neg h1_] at h_
      have h1_s := h1_
      try simp at h1_s
      cases h_
      simp (maxSteps := 2000000) (decide := true) [-getElem?_pos, h1_, h1_s, L58_0_ans]
/-- laws.toFrameS -/
def F58 (a0_69 : List T_Step) : Option (List T_Step) :=
  if lim a0_69.length 24 = true then
  bS (L58_0 FU a0_69 (List.replicate a0_69.length (⟨0, 0, 0⟩ : T_Step)) 0) fun r47 =>
  some r47
  else none
def F58_ans (a0_69 : List T_Step) : (List T_Step) → Ans
  | q31 => .val (.ls true (r_Step q31)) []
theorem F58_ok (a0_69 : List T_Step) (r_ : (List T_Step)) (h_ : F58 a0_69 = some r_) : ev EE (.call 58 [.ls false (r_Step a0_69)] []) = some (F58_ans a0_69 r_) := by
  rw [ev_eq]
  simp only [F58] at h_
  by_cases h1_ : lim a0_69.length 24 = true
  · rw [if_pos h1_] at h_
    obtain ⟨r47, h2_, h_⟩ := bS_some h_
    have h2_f := L58_0_ok FU a0_69 (List.replicate a0_69.length (⟨0, 0, 0⟩ : T_Step)) 0 _ h2_
    try simp [L58_0_ans] at h2_f
    cases h_
    simp (maxSteps := 2000000) (decide := true) [-getElem?_pos, ir58, h1_, h2_f, F58_ans]
  · rw [if_neg h1_] at h_
    cases h_
/-- laws.toMachine -/
def F25 (a0_40 : List T_Code) (a0_41 : List ByteArray) (a0_42 : List Int) (a0_43 : Int) (a0_44 : List Int) (a0_45 : List Int) (a0_46 : Int) (a0_47 : List T_Step) (a0_48 : List Int) (a0_49 : List ByteArray) (a0_50 : Bool) (a0_51 : Int) : Option ((List T_Code) × (List ByteArray) × (List Int) × Int × (List Int) × (List Int) × Int × (List T_Step) × (List Int) × (List ByteArray) × Bool × Int) :=
  bS (F56 a0_40 a0_41) fun (r33, r34) =>
  bS (F10 a0_42) fun r37 =>
  bS (F57 a0_43 a0_44 a0_45 a0_46) fun (r40, r41, r42, r43) =>
  bS (F58 a0_47) fun r48 =>
  bS (F20 a0_48) fun r49 =>
  bS (F59 a0_49) fun r50 =>
  some (r33, r34, r37, r40, r41, r42, r43, r48, r49, r50, a0_50, a0_51)
def F25_ans (a0_40 : List T_Code) (a0_41 : List ByteArray) (a0_42 : List Int) (a0_43 : Int) (a0_44 : List Int) (a0_45 : List Int) (a0_46 : Int) (a0_47 : List T_Step) (a0_48 : List Int) (a0_49 : List ByteArray) (a0_50 : Bool) (a0_51 : Int) : ((List T_Code) × (List ByteArray) × (List Int) × Int × (List Int) × (List Int) × Int × (List T_Step) × (List Int) × (List ByteArray) × Bool × Int) → Ans
  | (q32, q33, q34, q35, q36, q37, q38, q39, q40, q41, q42, q43) => .val (.ag [.ls true (r_Code true q32), .ls true (strs q33), .ls true (ints q34), .sc (.int .i64 q35), .ls true (ints q36), .ls true (ints q37), .sc (.int .i64 q38), .ls true (r_Step q39), .ls true (ints q40), .ls true (strs q41), .sc (.bool q42), .sc (.int .i64 q43)]) []
theorem F25_ok (a0_40 : List T_Code) (a0_41 : List ByteArray) (a0_42 : List Int) (a0_43 : Int) (a0_44 : List Int) (a0_45 : List Int) (a0_46 : Int) (a0_47 : List T_Step) (a0_48 : List Int) (a0_49 : List ByteArray) (a0_50 : Bool) (a0_51 : Int) (r_ : ((List T_Code) × (List ByteArray) × (List Int) × Int × (List Int) × (List Int) × Int × (List T_Step) × (List Int) × (List ByteArray) × Bool × Int)) (h_ : F25 a0_40 a0_41 a0_42 a0_43 a0_44 a0_45 a0_46 a0_47 a0_48 a0_49 a0_50 a0_51 = some r_) : ev EE (.call 25 [.ag [.ls false (r_Code false a0_40), .ls false (strs a0_41), .ls false (ints a0_42), .sc (.int .i64 a0_43), .ls false (ints a0_44), .ls false (ints a0_45), .sc (.int .i64 a0_46), .ls false (r_Step a0_47), .ls false (ints a0_48), .ls false (strs a0_49), .sc (.bool a0_50), .sc (.int .i64 a0_51)]] []) = some (F25_ans a0_40 a0_41 a0_42 a0_43 a0_44 a0_45 a0_46 a0_47 a0_48 a0_49 a0_50 a0_51 r_) := by
  rw [ev_eq]
  simp only [F25] at h_
  obtain ⟨⟨r33, r34⟩, h1_, h_⟩ := bS_some h_
  try dsimp only at h_
  have h1_f := F56_ok a0_40 a0_41 _ h1_
  try simp [F56_ans] at h1_f
  obtain ⟨r37, h2_, h_⟩ := bS_some h_
  have h2_f := F10_ok a0_42 _ h2_
  try simp [F10_ans] at h2_f
  obtain ⟨⟨r40, r41, r42, r43⟩, h3_, h_⟩ := bS_some h_
  try dsimp only at h_
  have h3_f := F57_ok a0_43 a0_44 a0_45 a0_46 _ h3_
  try simp [F57_ans] at h3_f
  obtain ⟨r48, h4_, h_⟩ := bS_some h_
  have h4_f := F58_ok a0_47 _ h4_
  try simp [F58_ans] at h4_f
  obtain ⟨r49, h5_, h_⟩ := bS_some h_
  have h5_f := F20_ok a0_48 _ h5_
  try simp [F20_ans] at h5_f
  obtain ⟨r50, h6_, h_⟩ := bS_some h_
  have h6_f := F59_ok a0_49 _ h6_
  try simp [F59_ans] at h6_f
  cases h_
  simp (maxSteps := 2000000) (decide := true) [-getElem?_pos, ir25, h1_f, h2_f, h3_f, h4_f, h5_f, h6_f, F25_ans]
def L24_0 : Nat → (List Int) → Int → (List T_Code) → (List ByteArray) → (List Int) → Int → (List Int) → (List Int) → Int → (List T_Step) → (List Int) → (List ByteArray) → Bool → Int → Option (List Int)
  | 0, _, _, _, _, _, _, _, _, _, _, _, _, _, _ => none
  | n_ + 1, t3_11, t4_8, x0_1, x0_2, x0_3, x0_4, x0_5, x0_6, x0_7, x0_8, x0_9, x0_10, x0_11, x0_12 =>
  if t4_8 < (x0_8.length : Int) then
    bS (getI x0_8 t4_8) fun e13 =>
    if lim (t3_11.length + 1) 8 = true then
    L24_0 n_ (t3_11 ++ [e13.b_]) (IntKind.i64.wrap (t4_8 + 1)) x0_1 x0_2 x0_3 x0_4 x0_5 x0_6 x0_7 x0_8 x0_9 x0_10 x0_11 x0_12
    else none
  else
    some t3_11
def L24_0_ans (t3_11 : List Int) (t4_8 : Int) (x0_1 : List T_Code) (x0_2 : List ByteArray) (x0_3 : List Int) (x0_4 : Int) (x0_5 : List Int) (x0_6 : List Int) (x0_7 : Int) (x0_8 : List T_Step) (x0_9 : List Int) (x0_10 : List ByteArray) (x0_11 : Bool) (x0_12 : Int) : (List Int) → Ans
  | t3_12 => .out (.exit 0) { np := 0, tm := [(3, .rf 0 0 t3_12.length)], ar := [(0, .a false (ints t3_12))], bx := [] }
theorem L24_0_ok : ∀ (n_ : Nat) (t3_11 : List Int) (t4_8 : Int) (x0_1 : List T_Code) (x0_2 : List ByteArray) (x0_3 : List Int) (x0_4 : Int) (x0_5 : List Int) (x0_6 : List Int) (x0_7 : Int) (x0_8 : List T_Step) (x0_9 : List Int) (x0_10 : List ByteArray) (x0_11 : Bool) (x0_12 : Int) (r_ : (List Int)), L24_0 n_ t3_11 t4_8 x0_1 x0_2 x0_3 x0_4 x0_5 x0_6 x0_7 x0_8 x0_9 x0_10 x0_11 x0_12 = some r_ → ev EE (.loop lp24_0 [1, 3, 4] [2, 3] { np := 0, tm := [(1, .bx 0 0), (3, .rf 0 0 t3_11.length), (4, .sc (.int .i64 t4_8))], ar := [(0, .a false (ints t3_11))], bx := [(0, .b [.ls false (r_Code false x0_1), .ls false (strs x0_2), .ls false (ints x0_3), .sc (.int .i64 x0_4), .ls false (ints x0_5), .ls false (ints x0_6), .sc (.int .i64 x0_7), .ls false (r_Step x0_8), .ls false (ints x0_9), .ls false (strs x0_10), .sc (.bool x0_11), .sc (.int .i64 x0_12)])] }) = some (L24_0_ans t3_11 t4_8 x0_1 x0_2 x0_3 x0_4 x0_5 x0_6 x0_7 x0_8 x0_9 x0_10 x0_11 x0_12 r_) := by
  intro n_
  induction n_ with
  | zero => intro t3_11 t4_8 x0_1 x0_2 x0_3 x0_4 x0_5 x0_6 x0_7 x0_8 x0_9 x0_10 x0_11 x0_12 r_ h_; simp only [L24_0] at h_; cases h_
  | succ n_ ih_ =>
    intro t3_11 t4_8 x0_1 x0_2 x0_3 x0_4 x0_5 x0_6 x0_7 x0_8 x0_9 x0_10 x0_11 x0_12 r_ h_
    rw [ev_loop EE lp24_0.eq_1]
    simp only [L24_0] at h_
    by_cases h1_ : t4_8 < (x0_8.length : Int)
    · rw [if_pos h1_] at h_
      have h1_s := h1_
      try simp at h1_s
      obtain ⟨e13, h3_, h_⟩ := bS_some h_
      obtain ⟨h3_a, h3_b, h3_c, h3_d⟩ := r_Step_getI  h3_
      try simp [-getElem?_pos] at h3_d
      by_cases h7_ : lim (t3_11.length + 1) 8 = true
      · rw [if_pos h7_] at h_
        have q_ := ih_ (t3_11 ++ [e13.b_]) (IntKind.i64.wrap (t4_8 + 1)) x0_1 x0_2 x0_3 x0_4 x0_5 x0_6 x0_7 x0_8 x0_9 x0_10 x0_11 x0_12 _ h_
        rcases r_ with t3_12
        all_goals (try simp [L24_0_ans] at q_)
        all_goals simp (maxSteps := 2000000) (decide := true) [-getElem?_pos, h1_, h1_s, h3_a, h3_b, h3_c, h3_d, h7_, q_, L24_0_ans]
      · rw [if_neg h7_] at h_
        cases h_
    · rw [if_neg h1_] at h_
      have h1_s := h1_
      try simp at h1_s
      cases h_
      simp (maxSteps := 2000000) (decide := true) [-getElem?_pos, h1_, h1_s, L24_0_ans]
/-- spec.Roots -/
def F24 (a0_73 : List T_Code) (a0_74 : List ByteArray) (a0_75 : List Int) (a0_76 : Int) (a0_77 : List Int) (a0_78 : List Int) (a0_79 : Int) (a0_80 : List T_Step) (a0_81 : List Int) (a0_82 : List ByteArray) (a0_83 : Bool) (a0_84 : Int) : Option (List Int) :=
  if lim (a0_81.length) 8 = true then
  bS (L24_0 FU a0_81 0 a0_73 a0_74 a0_75 a0_76 a0_77 a0_78 a0_79 a0_80 a0_81 a0_82 a0_83 a0_84) fun r63 =>
  some r63
  else none
def F24_ans (a0_73 : List T_Code) (a0_74 : List ByteArray) (a0_75 : List Int) (a0_76 : Int) (a0_77 : List Int) (a0_78 : List Int) (a0_79 : Int) (a0_80 : List T_Step) (a0_81 : List Int) (a0_82 : List ByteArray) (a0_83 : Bool) (a0_84 : Int) : (List Int) → Ans
  | q44 => .val (.ls true (ints q44)) []
theorem F24_ok (a0_73 : List T_Code) (a0_74 : List ByteArray) (a0_75 : List Int) (a0_76 : Int) (a0_77 : List Int) (a0_78 : List Int) (a0_79 : Int) (a0_80 : List T_Step) (a0_81 : List Int) (a0_82 : List ByteArray) (a0_83 : Bool) (a0_84 : Int) (r_ : (List Int)) (h_ : F24 a0_73 a0_74 a0_75 a0_76 a0_77 a0_78 a0_79 a0_80 a0_81 a0_82 a0_83 a0_84 = some r_) : ev EE (.call 24 [.ag [.ls false (r_Code false a0_73), .ls false (strs a0_74), .ls false (ints a0_75), .sc (.int .i64 a0_76), .ls false (ints a0_77), .ls false (ints a0_78), .sc (.int .i64 a0_79), .ls false (r_Step a0_80), .ls false (ints a0_81), .ls false (strs a0_82), .sc (.bool a0_83), .sc (.int .i64 a0_84)]] []) = some (F24_ans a0_73 a0_74 a0_75 a0_76 a0_77 a0_78 a0_79 a0_80 a0_81 a0_82 a0_83 a0_84 r_) := by
  rw [ev_eq]
  simp only [F24] at h_
  by_cases h1_ : lim (a0_81.length) 8 = true
  · rw [if_pos h1_] at h_
    obtain ⟨r63, h2_, h_⟩ := bS_some h_
    have h2_f := L24_0_ok FU a0_81 0 a0_73 a0_74 a0_75 a0_76 a0_77 a0_78 a0_79 a0_80 a0_81 a0_82 a0_83 a0_84 _ h2_
    try simp [L24_0_ans] at h2_f
    cases h_
    simp (maxSteps := 2000000) (decide := true) [-getElem?_pos, ir24, h1_, h2_f, F24_ans]
  · rw [if_neg h1_] at h_
    cases h_
/-- impl.copyInts -/
def F60 (a0_97 : List Int) : Option (List Int) :=
  if lim (a0_97.length) 8 = true then
  some a0_97
  else none
def F60_ans (a0_97 : List Int) : (List Int) → Ans
  | q45 => .val (.ls true (ints q45)) []
theorem F60_ok (a0_97 : List Int) (r_ : (List Int)) (h_ : F60 a0_97 = some r_) : ev EE (.call 60 [.ls false (ints a0_97)] []) = some (F60_ans a0_97 r_) := by
  rw [ev_eq]
  simp only [F60] at h_
  by_cases h1_ : lim (a0_97.length) 8 = true
  · rw [if_pos h1_] at h_
    cases h_
    simp (maxSteps := 2000000) (decide := true) [-getElem?_pos, ir60, h1_, F60_ans]
  · rw [if_neg h1_] at h_
    cases h_
def L26_0 : Nat → (List Int) → (List T_Step) → Int → Int → Option (List Int)
  | 0, _, _, _, _ => none
  | n_ + 1, t3_13, t10_1, t11_1, t12_1 =>
  if t12_1 < t11_1 then
    bS (getI t10_1 t12_1) fun e14 =>
    if lim (t3_13.length + 1) 8 = true then
    L26_0 n_ (t3_13 ++ [e14.b_]) t10_1 t11_1 (IntKind.i64.wrap (t12_1 + 1))
    else none
  else
    some t3_13
def L26_0_ans (t3_13 : List Int) (t10_1 : List T_Step) (t11_1 : Int) (t12_1 : Int) : (List Int) → Ans
  | t3_14 => .out (.exit 0) { np := 0, tm := [(3, .rf 0 0 t3_14.length)], ar := [(0, .a false (ints t3_14))], bx := [] }
theorem L26_0_ok : ∀ (n_ : Nat) (t3_13 : List Int) (t10_1 : List T_Step) (t11_1 : Int) (t12_1 : Int) (r_ : (List Int)), L26_0 n_ t3_13 t10_1 t11_1 t12_1 = some r_ → ev EE (.loop lp26_0 [3, 10, 11, 12] [2, 3] { np := 0, tm := [(3, .rf 0 0 t3_13.length), (10, .ls false (r_Step t10_1)), (11, .sc (.int .i64 t11_1)), (12, .sc (.int .i64 t12_1))], ar := [(0, .a false (ints t3_13))], bx := [] }) = some (L26_0_ans t3_13 t10_1 t11_1 t12_1 r_) := by
  intro n_
  induction n_ with
  | zero => intro t3_13 t10_1 t11_1 t12_1 r_ h_; simp only [L26_0] at h_; cases h_
  | succ n_ ih_ =>
    intro t3_13 t10_1 t11_1 t12_1 r_ h_
    rw [ev_loop EE lp26_0.eq_1]
    simp only [L26_0] at h_
    by_cases h1_ : t12_1 < t11_1
    · rw [if_pos h1_] at h_
      obtain ⟨e14, h2_, h_⟩ := bS_some h_
      obtain ⟨h2_a, h2_b, h2_c, h2_d⟩ := r_Step_getI  h2_
      try simp [-getElem?_pos] at h2_d
      by_cases h6_ : lim (t3_13.length + 1) 8 = true
      · rw [if_pos h6_] at h_
        have q_ := ih_ (t3_13 ++ [e14.b_]) t10_1 t11_1 (IntKind.i64.wrap (t12_1 + 1)) _ h_
        rcases r_ with t3_14
        all_goals (try simp [L26_0_ans] at q_)
        all_goals simp (maxSteps := 2000000) (decide := true) [-getElem?_pos, h1_, h2_a, h2_b, h2_c, h2_d, h6_, q_, L26_0_ans]
      · rw [if_neg h6_] at h_
        cases h_
    · rw [if_neg h1_] at h_
      cases h_
      simp (maxSteps := 2000000) (decide := true) [-getElem?_pos, h1_, L26_0_ans]
/-- impl.Roots -/
def F26 (a0_85 : List T_Code) (a0_86 : List ByteArray) (a0_87 : List Int) (a0_88 : Int) (a0_89 : List Int) (a0_90 : List Int) (a0_91 : Int) (a0_92 : List T_Step) (a0_93 : List Int) (a0_94 : List ByteArray) (a0_95 : Bool) (a0_96 : Int) : Option (List Int) :=
  bS (F60 a0_93) fun r65 =>
  bS (L26_0 FU r65 a0_92 (a0_92.length : Int) 0) fun r66 =>
  some r66
def F26_ans (a0_85 : List T_Code) (a0_86 : List ByteArray) (a0_87 : List Int) (a0_88 : Int) (a0_89 : List Int) (a0_90 : List Int) (a0_91 : Int) (a0_92 : List T_Step) (a0_93 : List Int) (a0_94 : List ByteArray) (a0_95 : Bool) (a0_96 : Int) : (List Int) → Ans
  | q46 => .val (.ls true (ints q46)) []
theorem F26_ok (a0_85 : List T_Code) (a0_86 : List ByteArray) (a0_87 : List Int) (a0_88 : Int) (a0_89 : List Int) (a0_90 : List Int) (a0_91 : Int) (a0_92 : List T_Step) (a0_93 : List Int) (a0_94 : List ByteArray) (a0_95 : Bool) (a0_96 : Int) (r_ : (List Int)) (h_ : F26 a0_85 a0_86 a0_87 a0_88 a0_89 a0_90 a0_91 a0_92 a0_93 a0_94 a0_95 a0_96 = some r_) : ev EE (.call 26 [.ag [.ls false (r_Code false a0_85), .ls false (strs a0_86), .ls false (ints a0_87), .sc (.int .i64 a0_88), .ls false (ints a0_89), .ls false (ints a0_90), .sc (.int .i64 a0_91), .ls false (r_Step a0_92), .ls false (ints a0_93), .ls false (strs a0_94), .sc (.bool a0_95), .sc (.int .i64 a0_96)]] []) = some (F26_ans a0_85 a0_86 a0_87 a0_88 a0_89 a0_90 a0_91 a0_92 a0_93 a0_94 a0_95 a0_96 r_) := by
  rw [ev_eq]
  simp only [F26] at h_
  obtain ⟨r65, h1_, h_⟩ := bS_some h_
  have h1_f := F60_ok a0_93 _ h1_
  try simp [F60_ans] at h1_f
  obtain ⟨r66, h2_, h_⟩ := bS_some h_
  have h2_f := L26_0_ok FU r65 a0_92 (a0_92.length : Int) 0 _ h2_
  try simp [L26_0_ans] at h2_f
  cases h_
  simp (maxSteps := 2000000) (decide := true) [-getElem?_pos, ir26, h1_f, h2_f, F26_ans]
def L12_0 : Nat → (List Int) → (List Int) → Int → Option (Bool ⊕ Unit)
  | 0, _, _, _ => none
  | n_ + 1, t0_8, t1_7, t5_3 =>
  if t5_3 < (t0_8.length : Int) then
    bS (getI t0_8 t5_3) fun e15 =>
    bS (getI t1_7 t5_3) fun e16 =>
    if e15 = e16 then
      L12_0 n_ t0_8 t1_7 (IntKind.i64.wrap (t5_3 + 1))
    else
      some (.inl false)
  else
    some (.inr ())
def L12_0_ans (t0_8 : List Int) (t1_7 : List Int) (t5_3 : Int) : Bool ⊕ Unit → Ans
  | .inl t4_9 => .out .ret { np := 0, tm := [(4, .sc (.bool t4_9))], ar := [], bx := [] }
  | .inr _ => .out (.exit 0) { np := 0, tm := [], ar := [], bx := [] }
theorem L12_0_ok : ∀ (n_ : Nat) (t0_8 : List Int) (t1_7 : List Int) (t5_3 : Int) (r_ : Bool ⊕ Unit), L12_0 n_ t0_8 t1_7 t5_3 = some r_ → ev EE (.loop lp12_0 [0, 1, 5] [4] { np := 0, tm := [(0, .ls false (ints t0_8)), (1, .ls false (ints t1_7)), (5, .sc (.int .i64 t5_3))], ar := [], bx := [] }) = some (L12_0_ans t0_8 t1_7 t5_3 r_) := by
  intro n_
  induction n_ with
  | zero => intro t0_8 t1_7 t5_3 r_ h_; simp only [L12_0] at h_; cases h_
  | succ n_ ih_ =>
    intro t0_8 t1_7 t5_3 r_ h_
    rw [ev_loop EE lp12_0.eq_1]
    simp only [L12_0] at h_
    by_cases h1_ : t5_3 < (t0_8.length : Int)
    · rw [if_pos h1_] at h_
      have h1_s := h1_
      try simp at h1_s
      obtain ⟨e15, h3_, h_⟩ := bS_some h_
      obtain ⟨h3_a, h3_b, h3_c, h3_d⟩ := ints_getI'  h3_
      try simp [-getElem?_pos] at h3_d
      obtain ⟨e16, h7_, h_⟩ := bS_some h_
      obtain ⟨h7_a, h7_b, h7_c, h7_d⟩ := ints_getI'  h7_
      try simp [-getElem?_pos] at h7_d
      by_cases h11_ : e15 = e16
      · rw [if_pos h11_] at h_
        have q_ := ih_ t0_8 t1_7 (IntKind.i64.wrap (t5_3 + 1)) _ h_
        rcases r_ with t4_9 | _
        all_goals (try simp [L12_0_ans] at q_)
        all_goals simp (maxSteps := 2000000) (decide := true) [-getElem?_pos, h1_, h1_s, h3_a, h3_b, h3_c, h3_d, h7_a, h7_b, h7_c, h7_d, h11_, q_, L12_0_ans]
      · rw [if_neg h11_] at h_
        cases h_
        simp (maxSteps := 2000000) (decide := true) [-getElem?_pos, h1_, h1_s, h3_a, h3_b, h3_c, h3_d, h7_a, h7_b, h7_c, h7_d, h11_, L12_0_ans]
    · rw [if_neg h1_] at h_
      have h1_s := h1_
      try simp at h1_s
      cases h_
      simp (maxSteps := 2000000) (decide := true) [-getElem?_pos, h1_, h1_s, L12_0_ans]
/-- laws.eqIntS -/
def F12 (a0_98 : List Int) (a1_11 : List Int) : Option Bool :=
  if (a0_98.length : Int) = (a1_11.length : Int) then
    bS (L12_0 FU a0_98 a1_11 0) fun r_ => match r_ with
    | .inl r68 =>
      some r68
    | .inr () =>
      some true
  else
    some false
def F12_ans (a0_98 : List Int) (a1_11 : List Int) : Bool → Ans
  | q47 => .val (.sc (.bool q47)) []
theorem F12_ok (a0_98 : List Int) (a1_11 : List Int) (r_ : Bool) (h_ : F12 a0_98 a1_11 = some r_) : ev EE (.call 12 [.ls false (ints a0_98), .ls false (ints a1_11)] []) = some (F12_ans a0_98 a1_11 r_) := by
  rw [ev_eq]
  simp only [F12] at h_
  by_cases h1_ : (a0_98.length : Int) = (a1_11.length : Int)
  · rw [if_pos h1_] at h_
    have h1_s := h1_
    try simp at h1_s
    obtain ⟨r_2, h3_, h_⟩ := bS_some h_
    have h3_f := L12_0_ok FU a0_98 a1_11 0 _ h3_
    rcases r_2 with r68 | _
    · try dsimp only at h_
      try simp [L12_0_ans] at h3_f
      cases h_
      simp (maxSteps := 2000000) (decide := true) [-getElem?_pos, ir12, h1_, h1_s, h3_f, F12_ans]
    · try dsimp only at h_
      try simp [L12_0_ans] at h3_f
      cases h_
      simp (maxSteps := 2000000) (decide := true) [-getElem?_pos, ir12, h1_, h1_s, h3_f, F12_ans]
  · rw [if_neg h1_] at h_
    have h1_s := h1_
    try simp at h1_s
    cases h_
    simp (maxSteps := 2000000) (decide := true) [-getElem?_pos, ir12, h1_, h1_s, F12_ans]
/-- laws.eqStep -/
def F118 (a0_118 : Int) (a0_119 : Int) (a0_120 : Int) (a1_31 : Int) (a1_32 : Int) (a1_33 : Int) : Option Bool :=
  if a0_118 = a1_31 then
    if a0_119 = a1_32 then
      if a0_120 = a1_33 then
        some true
      else
        some false
    else
      some false
  else
    some false
def F118_ans (a0_118 : Int) (a0_119 : Int) (a0_120 : Int) (a1_31 : Int) (a1_32 : Int) (a1_33 : Int) : Bool → Ans
  | q48 => .val (.sc (.bool q48)) []
theorem F118_ok (a0_118 : Int) (a0_119 : Int) (a0_120 : Int) (a1_31 : Int) (a1_32 : Int) (a1_33 : Int) (r_ : Bool) (h_ : F118 a0_118 a0_119 a0_120 a1_31 a1_32 a1_33 = some r_) : ev EE (.call 118 [.ag [.sc (.int .i64 a0_118), .sc (.int .i64 a0_119), .sc (.int .i64 a0_120)], .ag [.sc (.int .i64 a1_31), .sc (.int .i64 a1_32), .sc (.int .i64 a1_33)]] []) = some (F118_ans a0_118 a0_119 a0_120 a1_31 a1_32 a1_33 r_) := by
  rw [ev_eq]
  simp only [F118] at h_
  by_cases h1_ : a0_118 = a1_31
  · rw [if_pos h1_] at h_
    by_cases h2_ : a0_119 = a1_32
    · rw [if_pos h2_] at h_
      by_cases h3_ : a0_120 = a1_33
      · rw [if_pos h3_] at h_
        cases h_
        simp (maxSteps := 2000000) (decide := true) [-getElem?_pos, ir118, h1_, h2_, h3_, F118_ans]
      · rw [if_neg h3_] at h_
        cases h_
        simp (maxSteps := 2000000) (decide := true) [-getElem?_pos, ir118, h1_, h2_, h3_, F118_ans]
    · rw [if_neg h2_] at h_
      cases h_
      simp (maxSteps := 2000000) (decide := true) [-getElem?_pos, ir118, h1_, h2_, F118_ans]
  · rw [if_neg h1_] at h_
    cases h_
    simp (maxSteps := 2000000) (decide := true) [-getElem?_pos, ir118, h1_, F118_ans]
def L116_0 : Nat → (List T_Step) → (List T_Step) → Int → Option (Bool ⊕ Unit)
  | 0, _, _, _ => none
  | n_ + 1, t0_10, t1_9, t5_5 =>
  if t5_5 < (t0_10.length : Int) then
    bS (getI t0_10 t5_5) fun e19 =>
    bS (getI t1_9 t5_5) fun e20 =>
    bS (F118 e19.op_ e19.a_ e19.b_ e20.op_ e20.a_ e20.b_) fun r70 =>
    if r70 = true then
      L116_0 n_ t0_10 t1_9 (IntKind.i64.wrap (t5_5 + 1))
    else
      some (.inl false)
  else
    some (.inr ())
def L116_0_ans (t0_10 : List T_Step) (t1_9 : List T_Step) (t5_5 : Int) : Bool ⊕ Unit → Ans
  | .inl t4_10 => .out .ret { np := 0, tm := [(4, .sc (.bool t4_10))], ar := [], bx := [] }
  | .inr _ => .out (.exit 0) { np := 0, tm := [], ar := [], bx := [] }
theorem L116_0_ok : ∀ (n_ : Nat) (t0_10 : List T_Step) (t1_9 : List T_Step) (t5_5 : Int) (r_ : Bool ⊕ Unit), L116_0 n_ t0_10 t1_9 t5_5 = some r_ → ev EE (.loop lp116_0 [0, 1, 5] [4] { np := 0, tm := [(0, .ls false (r_Step t0_10)), (1, .ls false (r_Step t1_9)), (5, .sc (.int .i64 t5_5))], ar := [], bx := [] }) = some (L116_0_ans t0_10 t1_9 t5_5 r_) := by
  intro n_
  induction n_ with
  | zero => intro t0_10 t1_9 t5_5 r_ h_; simp only [L116_0] at h_; cases h_
  | succ n_ ih_ =>
    intro t0_10 t1_9 t5_5 r_ h_
    rw [ev_loop EE lp116_0.eq_1]
    simp only [L116_0] at h_
    by_cases h1_ : t5_5 < (t0_10.length : Int)
    · rw [if_pos h1_] at h_
      have h1_s := h1_
      try simp at h1_s
      obtain ⟨e19, h3_, h_⟩ := bS_some h_
      obtain ⟨h3_a, h3_b, h3_c, h3_d⟩ := r_Step_getI  h3_
      try simp [-getElem?_pos] at h3_d
      obtain ⟨e20, h7_, h_⟩ := bS_some h_
      obtain ⟨h7_a, h7_b, h7_c, h7_d⟩ := r_Step_getI  h7_
      try simp [-getElem?_pos] at h7_d
      obtain ⟨r70, h11_, h_⟩ := bS_some h_
      have h11_f := F118_ok e19.op_ e19.a_ e19.b_ e20.op_ e20.a_ e20.b_ _ h11_
      try simp [F118_ans] at h11_f
      by_cases h12_ : r70 = true
      · rw [if_pos h12_] at h_
        have q_ := ih_ t0_10 t1_9 (IntKind.i64.wrap (t5_5 + 1)) _ h_
        rcases r_ with t4_10 | _
        all_goals (try simp [L116_0_ans] at q_)
        all_goals simp (maxSteps := 2000000) (decide := true) [-getElem?_pos, h1_, h1_s, h3_a, h3_b, h3_c, h3_d, h7_a, h7_b, h7_c, h7_d, h11_f, h12_, q_, L116_0_ans]
      · rw [if_neg h12_] at h_
        cases h_
        simp (maxSteps := 2000000) (decide := true) [-getElem?_pos, h1_, h1_s, h3_a, h3_b, h3_c, h3_d, h7_a, h7_b, h7_c, h7_d, h11_f, h12_, L116_0_ans]
    · rw [if_neg h1_] at h_
      have h1_s := h1_
      try simp at h1_s
      cases h_
      simp (maxSteps := 2000000) (decide := true) [-getElem?_pos, h1_, h1_s, L116_0_ans]
/-- laws.eqStepS -/
def F116 (a0_117 : List T_Step) (a1_30 : List T_Step) : Option Bool :=
  if (a0_117.length : Int) = (a1_30.length : Int) then
    bS (L116_0 FU a0_117 a1_30 0) fun r_ => match r_ with
    | .inl r71 =>
      some r71
    | .inr () =>
      some true
  else
    some false
def F116_ans (a0_117 : List T_Step) (a1_30 : List T_Step) : Bool → Ans
  | q49 => .val (.sc (.bool q49)) []
theorem F116_ok (a0_117 : List T_Step) (a1_30 : List T_Step) (r_ : Bool) (h_ : F116 a0_117 a1_30 = some r_) : ev EE (.call 116 [.ls false (r_Step a0_117), .ls false (r_Step a1_30)] []) = some (F116_ans a0_117 a1_30 r_) := by
  rw [ev_eq]
  simp only [F116] at h_
  by_cases h1_ : (a0_117.length : Int) = (a1_30.length : Int)
  · rw [if_pos h1_] at h_
    have h1_s := h1_
    try simp at h1_s
    obtain ⟨r_2, h3_, h_⟩ := bS_some h_
    have h3_f := L116_0_ok FU a0_117 a1_30 0 _ h3_
    rcases r_2 with r71 | _
    · try dsimp only at h_
      try simp [L116_0_ans] at h3_f
      cases h_
      simp (maxSteps := 2000000) (decide := true) [-getElem?_pos, ir116, h1_, h1_s, h3_f, F116_ans]
    · try dsimp only at h_
      try simp [L116_0_ans] at h3_f
      cases h_
      simp (maxSteps := 2000000) (decide := true) [-getElem?_pos, ir116, h1_, h1_s, h3_f, F116_ans]
  · rw [if_neg h1_] at h_
    have h1_s := h1_
    try simp at h1_s
    cases h_
    simp (maxSteps := 2000000) (decide := true) [-getElem?_pos, ir116, h1_, h1_s, F116_ans]
/-- laws.eqCode -/
def F111 (a0_114 : Int) (a0_115 : Int) (a0_116 : List T_Step) (a1_27 : Int) (a1_28 : Int) (a1_29 : List T_Step) : Option Bool :=
  if a0_114 = a1_27 then
    if a0_115 = a1_28 then
      bS (F116 a0_116 a1_29) fun r72 =>
      if r72 = true then
        some true
      else
        some false
    else
      some false
  else
    some false
def F111_ans (a0_114 : Int) (a0_115 : Int) (a0_116 : List T_Step) (a1_27 : Int) (a1_28 : Int) (a1_29 : List T_Step) : Bool → Ans
  | q50 => .val (.sc (.bool q50)) []
theorem F111_ok (a0_114 : Int) (a0_115 : Int) (a0_116 : List T_Step) (a1_27 : Int) (a1_28 : Int) (a1_29 : List T_Step) (r_ : Bool) (h_ : F111 a0_114 a0_115 a0_116 a1_27 a1_28 a1_29 = some r_) : ev EE (.call 111 [.ag [.sc (.int .i64 a0_114), .sc (.int .i64 a0_115), .ls false (r_Step a0_116)], .ag [.sc (.int .i64 a1_27), .sc (.int .i64 a1_28), .ls false (r_Step a1_29)]] []) = some (F111_ans a0_114 a0_115 a0_116 a1_27 a1_28 a1_29 r_) := by
  rw [ev_eq]
  simp only [F111] at h_
  by_cases h1_ : a0_114 = a1_27
  · rw [if_pos h1_] at h_
    by_cases h2_ : a0_115 = a1_28
    · rw [if_pos h2_] at h_
      obtain ⟨r72, h3_, h_⟩ := bS_some h_
      have h3_f := F116_ok a0_116 a1_29 _ h3_
      try simp [F116_ans] at h3_f
      by_cases h4_ : r72 = true
      · rw [if_pos h4_] at h_
        cases h_
        simp (maxSteps := 2000000) (decide := true) [-getElem?_pos, ir111, h1_, h2_, h3_f, h4_, F111_ans]
      · rw [if_neg h4_] at h_
        cases h_
        simp (maxSteps := 2000000) (decide := true) [-getElem?_pos, ir111, h1_, h2_, h3_f, h4_, F111_ans]
    · rw [if_neg h2_] at h_
      cases h_
      simp (maxSteps := 2000000) (decide := true) [-getElem?_pos, ir111, h1_, h2_, F111_ans]
  · rw [if_neg h1_] at h_
    cases h_
    simp (maxSteps := 2000000) (decide := true) [-getElem?_pos, ir111, h1_, F111_ans]
def L91_0 : Nat → (List T_Code) → (List T_Code) → Int → Option (Bool ⊕ Unit)
  | 0, _, _, _ => none
  | n_ + 1, t0_9, t1_8, t5_4 =>
  if t5_4 < (t0_9.length : Int) then
    bS (getI t0_9 t5_4) fun e17 =>
    bS (getI t1_8 t5_4) fun e18 =>
    bS (F111 e17.names_ e17.vars_ e17.steps_ e18.names_ e18.vars_ e18.steps_) fun r73 =>
    if r73 = true then
      L91_0 n_ t0_9 t1_8 (IntKind.i64.wrap (t5_4 + 1))
    else
      some (.inl false)
  else
    some (.inr ())
def L91_0_ans (t0_9 : List T_Code) (t1_8 : List T_Code) (t5_4 : Int) : Bool ⊕ Unit → Ans
  | .inl t4_11 => .out .ret { np := 0, tm := [(4, .sc (.bool t4_11))], ar := [], bx := [] }
  | .inr _ => .out (.exit 0) { np := 0, tm := [], ar := [], bx := [] }
theorem L91_0_ok : ∀ (n_ : Nat) (t0_9 : List T_Code) (t1_8 : List T_Code) (t5_4 : Int) (r_ : Bool ⊕ Unit), L91_0 n_ t0_9 t1_8 t5_4 = some r_ → ev EE (.loop lp91_0 [0, 1, 5] [4] { np := 0, tm := [(0, .ls false (r_Code false t0_9)), (1, .ls false (r_Code false t1_8)), (5, .sc (.int .i64 t5_4))], ar := [], bx := [] }) = some (L91_0_ans t0_9 t1_8 t5_4 r_) := by
  intro n_
  induction n_ with
  | zero => intro t0_9 t1_8 t5_4 r_ h_; simp only [L91_0] at h_; cases h_
  | succ n_ ih_ =>
    intro t0_9 t1_8 t5_4 r_ h_
    rw [ev_loop EE lp91_0.eq_1]
    simp only [L91_0] at h_
    by_cases h1_ : t5_4 < (t0_9.length : Int)
    · rw [if_pos h1_] at h_
      have h1_s := h1_
      try simp at h1_s
      obtain ⟨e17, h3_, h_⟩ := bS_some h_
      obtain ⟨h3_a, h3_b, h3_c, h3_d⟩ := r_Code_getI (o := false)  h3_
      try simp [-getElem?_pos] at h3_d
      obtain ⟨e18, h7_, h_⟩ := bS_some h_
      obtain ⟨h7_a, h7_b, h7_c, h7_d⟩ := r_Code_getI (o := false)  h7_
      try simp [-getElem?_pos] at h7_d
      obtain ⟨r73, h11_, h_⟩ := bS_some h_
      have h11_f := F111_ok e17.names_ e17.vars_ e17.steps_ e18.names_ e18.vars_ e18.steps_ _ h11_
      try simp [F111_ans] at h11_f
      by_cases h12_ : r73 = true
      · rw [if_pos h12_] at h_
        have q_ := ih_ t0_9 t1_8 (IntKind.i64.wrap (t5_4 + 1)) _ h_
        rcases r_ with t4_11 | _
        all_goals (try simp [L91_0_ans] at q_)
        all_goals simp (maxSteps := 2000000) (decide := true) [-getElem?_pos, h1_, h1_s, h3_a, h3_b, h3_c, h3_d, h7_a, h7_b, h7_c, h7_d, h11_f, h12_, q_, L91_0_ans]
      · rw [if_neg h12_] at h_
        cases h_
        simp (maxSteps := 2000000) (decide := true) [-getElem?_pos, h1_, h1_s, h3_a, h3_b, h3_c, h3_d, h7_a, h7_b, h7_c, h7_d, h11_f, h12_, L91_0_ans]
    · rw [if_neg h1_] at h_
      have h1_s := h1_
      try simp at h1_s
      cases h_
      simp (maxSteps := 2000000) (decide := true) [-getElem?_pos, h1_, h1_s, L91_0_ans]
end Go.Pv
