/- Proof: the functions as Lean functions, second part. No condition. -/
import Derived.Test.YthddchcckpmgoaaDoorGvA
set_option autoImplicit true
set_option relaxedAutoImplicit true
set_option linter.unusedSimpArgs false
set_option linter.unusedVariables false
namespace Go.Pv
set_option maxRecDepth 100000
set_option maxHeartbeats 40000000
set_option linter.unusedSimpArgs false
set_option linter.unusedVariables false
def L9_0 : Nat → (List ByteArray) → Int → Int → Int → ByteArray → Int → (List T_Node) → (List ByteArray) → Option (List ByteArray)
  | 0, _, _, _, _, _, _, _, _ => none
  | n_ + 1, t12_1, t13_1, t14_1, x0_5, x0_6, x0_7, x0_8, x1_1 =>
  if t14_1 < t13_1 then
    bS (getI t12_1 t14_1) fun e7 =>
    bS (F26 e7 x1_1) fun r34 =>
    L9_0 n_ t12_1 t13_1 (IntKind.i64.wrap (t14_1 + 1)) x0_5 x0_6 x0_7 x0_8 r34
  else
    some x1_1
def L9_0_ans (t12_1 : List ByteArray) (t13_1 : Int) (t14_1 : Int) (x0_5 : Int) (x0_6 : ByteArray) (x0_7 : Int) (x0_8 : List T_Node) (x1_1 : List ByteArray) : (List ByteArray) → Ans
  | x1_2 => .out (.exit 0) { np := 0, tm := [(1, .bx 0 0), (3, .bx 1 0), (4, .bx 2 0)], ar := [(0, .a false (strs x1_2))], bx := [(0, .b [.sc (.int .i64 x0_5), .sc (.string x0_6), .sc (.int .i64 x0_7), .ls false (r_Node false x0_8)]), (1, .b [.rf 0 0 x1_2.length]), (2, .b [.fn 26 [.bx 1 0]])] }
theorem L9_0_ok : ∀ (n_ : Nat) (t12_1 : List ByteArray) (t13_1 : Int) (t14_1 : Int) (x0_5 : Int) (x0_6 : ByteArray) (x0_7 : Int) (x0_8 : List T_Node) (x1_1 : List ByteArray) (r_ : (List ByteArray)), L9_0 n_ t12_1 t13_1 t14_1 x0_5 x0_6 x0_7 x0_8 x1_1 = some r_ → ev EE (.loop lp9_0 [1, 3, 4, 12, 13, 14] [1, 2, 3, 4] { np := 0, tm := [(1, .bx 0 0), (3, .bx 1 0), (4, .bx 2 0), (12, .rf 0 0 t12_1.length), (13, .sc (.int .i64 t13_1)), (14, .sc (.int .i64 t14_1))], ar := [(0, .a false (strs t12_1)), (1, .a false (strs x1_1))], bx := [(0, .b [.sc (.int .i64 x0_5), .sc (.string x0_6), .sc (.int .i64 x0_7), .ls false (r_Node false x0_8)]), (1, .b [.rf 1 0 x1_1.length]), (2, .b [.fn 26 [.bx 1 0]])] }) = some (L9_0_ans t12_1 t13_1 t14_1 x0_5 x0_6 x0_7 x0_8 x1_1 r_) := by
  intro n_
  induction n_ with
  | zero => intro t12_1 t13_1 t14_1 x0_5 x0_6 x0_7 x0_8 x1_1 r_ h_; simp only [L9_0] at h_; cases h_
  | succ n_ ih_ =>
    intro t12_1 t13_1 t14_1 x0_5 x0_6 x0_7 x0_8 x1_1 r_ h_
    rw [ev_loop EE lp9_0.eq_1]
    simp only [L9_0] at h_
    by_cases h1_ : t14_1 < t13_1
    · rw [if_pos h1_] at h_
      obtain ⟨e7, h2_, h_⟩ := bS_some h_
      obtain ⟨h2_a, h2_b, h2_c, h2_d⟩ := strs_getI  h2_
      try simp [-getElem?_pos] at h2_d
      obtain ⟨r34, h6_, h_⟩ := bS_some h_
      have h6_f := F26_ok e7 x1_1 _ h6_
      try simp [F26_ans] at h6_f
      have q_ := ih_ t12_1 t13_1 (IntKind.i64.wrap (t14_1 + 1)) x0_5 x0_6 x0_7 x0_8 r34 _ h_
      rcases r_ with x1_2
      all_goals (try simp [L9_0_ans] at q_)
      all_goals simp (maxSteps := 2000000) (decide := true) [-getElem?_pos, h1_, h2_a, h2_b, h2_c, h2_d, h6_f, q_, L9_0_ans]
    · rw [if_neg h1_] at h_
      cases h_
      simp (maxSteps := 2000000) (decide := true) [-getElem?_pos, h1_, L9_0_ans]
/-- impl.Vars$2 -/
def F30 (a0_44 : Int) (a0_45 : ByteArray) (a0_46 : Int) (a0_47 : List T_Node) (x1_5 : List ByteArray) : Option (List ByteArray) :=
  if a0_44 = 2 then
    bS (F26 a0_45 x1_5) fun r37 =>
    some r37
  else
    some x1_5
def F30_ans (a0_44 : Int) (a0_45 : ByteArray) (a0_46 : Int) (a0_47 : List T_Node) (x1_5 : List ByteArray) : (List ByteArray) → Ans
  | q18 => .val (.tu []) [.b [.fn 26 [.bx 1 0]], .b [.ls true (strs q18)]]
theorem F30_ok (a0_44 : Int) (a0_45 : ByteArray) (a0_46 : Int) (a0_47 : List T_Node) (x1_5 : List ByteArray) (r_ : (List ByteArray)) (h_ : F30 a0_44 a0_45 a0_46 a0_47 x1_5 = some r_) : ev EE (.call 30 [.ag [.sc (.int .i64 a0_44), .sc (.string a0_45), .sc (.int .i64 a0_46), .ls false (r_Node false a0_47)], .bx 0 0] [.b [.fn 26 [.bx 1 0]], .b [.ls true (strs x1_5)]]) = some (F30_ans a0_44 a0_45 a0_46 a0_47 x1_5 r_) := by
  rw [ev_eq]
  simp only [F30] at h_
  by_cases h1_ : a0_44 = 2
  · rw [if_pos h1_] at h_
    obtain ⟨r37, h2_, h_⟩ := bS_some h_
    have h2_f := F26_ok a0_45 x1_5 _ h2_
    try simp [F26_ans] at h2_f
    cases h_
    simp (maxSteps := 2000000) (decide := true) [-getElem?_pos, ir30, eq_true h1_, h2_f, F30_ans]
  · rw [if_neg h1_] at h_
    cases h_
    simp (maxSteps := 2000000) (decide := true) [-getElem?_pos, ir30, h1_, F30_ans]
def F29_ans (a0_40 : Int) (a0_41 : ByteArray) (a0_42 : Int) (a0_43 : List T_Node) (x1_3 : List ByteArray) : (List ByteArray) → Ans
  | q19 => .val (.tu []) [.b [.fn 26 [.bx 1 0]], .b [.ls true (strs q19)]]
def L29_0 (R29 : Int → ByteArray → Int → (List T_Node) → (List ByteArray) → Option (List ByteArray)) : Nat → (List T_Node) → Int → Int → (List ByteArray) → Option (List ByteArray)
  | 0, _, _, _, _ => none
  | n_ + 1, t7_2, t8_2, t9_1, x1_4 =>
  if t9_1 < t8_2 then
    bS (getI t7_2 t9_1) fun e9 =>
    bS (F30 e9.op_ e9.s_ e9.n_ e9.kids_ x1_4) fun r38 =>
    if e9.op_ = 27 then
      L29_0 R29 n_ t7_2 t8_2 (IntKind.i64.wrap (t9_1 + 1)) r38
    else
    bS (R29 e9.op_ e9.s_ e9.n_ e9.kids_ r38) fun r39 =>
    L29_0 R29 n_ t7_2 t8_2 (IntKind.i64.wrap (t9_1 + 1)) r39
  else
    some x1_4
def L29_0_ans (t7_2 : List T_Node) (t8_2 : Int) (t9_1 : Int) (x1_4 : List ByteArray) : (List ByteArray) → Ans
  | x1_6 => .out (.exit 0) { np := 2, tm := [], ar := [(0, .a false (strs x1_6))], bx := [(0, .b [.fn 26 [.bx 1 0]]), (1, .b [.rf 0 0 x1_6.length])] }
theorem L29_0_ok (R29 : Int → ByteArray → Int → (List T_Node) → (List ByteArray) → Option (List ByteArray)) (hR29 : ∀ (a0_40 : Int) (a0_41 : ByteArray) (a0_42 : Int) (a0_43 : List T_Node) (x1_3 : List ByteArray) (r_ : (List ByteArray)), R29 a0_40 a0_41 a0_42 a0_43 x1_3 = some r_ → ev EE (.call 29 [.ag [.sc (.int .i64 a0_40), .sc (.string a0_41), .sc (.int .i64 a0_42), .ls false (r_Node false a0_43)], .fn 30 [.bx 0 0]] [.b [.fn 26 [.bx 1 0]], .b [.ls true (strs x1_3)]]) = some (F29_ans a0_40 a0_41 a0_42 a0_43 x1_3 r_)) : ∀ (n_ : Nat) (t7_2 : List T_Node) (t8_2 : Int) (t9_1 : Int) (x1_4 : List ByteArray) (r_ : (List ByteArray)), L29_0 R29 n_ t7_2 t8_2 t9_1 x1_4 = some r_ → ev EE (.loop lp29_0 [1, 7, 8, 9] [] { np := 2, tm := [(1, .fn 30 [.bx 0 0]), (7, .ls false (r_Node false t7_2)), (8, .sc (.int .i64 t8_2)), (9, .sc (.int .i64 t9_1))], ar := [(0, .a false (strs x1_4))], bx := [(0, .b [.fn 26 [.bx 1 0]]), (1, .b [.rf 0 0 x1_4.length])] }) = some (L29_0_ans t7_2 t8_2 t9_1 x1_4 r_) := by
  intro n_
  induction n_ with
  | zero => intro t7_2 t8_2 t9_1 x1_4 r_ h_; simp only [L29_0] at h_; cases h_
  | succ n_ ih_ =>
    intro t7_2 t8_2 t9_1 x1_4 r_ h_
    rw [ev_loop EE lp29_0.eq_1]
    simp only [L29_0] at h_
    by_cases h1_ : t9_1 < t8_2
    · rw [if_pos h1_] at h_
      obtain ⟨e9, h2_, h_⟩ := bS_some h_
      obtain ⟨h2_a, h2_b, h2_c, h2_d⟩ := r_Node_getI (o := false)  h2_
      try simp [-getElem?_pos] at h2_d
      obtain ⟨r38, h6_, h_⟩ := bS_some h_
      have h6_f := F30_ok e9.op_ e9.s_ e9.n_ e9.kids_ x1_4 _ h6_
      try simp [F30_ans] at h6_f
      by_cases h7_ : e9.op_ = 27
      · rw [if_pos h7_] at h_
        have q_ := ih_ t7_2 t8_2 (IntKind.i64.wrap (t9_1 + 1)) r38 _ h_
        rcases r_ with x1_6
        all_goals (try simp [L29_0_ans] at q_)
        all_goals simp (maxSteps := 2000000) (decide := true) [-getElem?_pos, h1_, h2_a, h2_b, h2_c, h2_d, h6_f, eq_true h7_, q_, L29_0_ans]
      · rw [if_neg h7_] at h_
        obtain ⟨r39, h8_, h_⟩ := bS_some h_
        have h8_f := hR29 e9.op_ e9.s_ e9.n_ e9.kids_ r38 _ h8_
        try simp [F29_ans] at h8_f
        have q_ := ih_ t7_2 t8_2 (IntKind.i64.wrap (t9_1 + 1)) r39 _ h_
        rcases r_ with x1_6
        all_goals (try simp [L29_0_ans] at q_)
        all_goals simp (maxSteps := 2000000) (decide := true) [-getElem?_pos, h1_, h2_a, h2_b, h2_c, h2_d, h6_f, h7_, h8_f, q_, L29_0_ans]
    · rw [if_neg h1_] at h_
      cases h_
      simp (maxSteps := 2000000) (decide := true) [-getElem?_pos, h1_, L29_0_ans]
/-- impl.inside -/
def S29 (R29 : Int → ByteArray → Int → (List T_Node) → (List ByteArray) → Option (List ByteArray)) (a0_40 : Int) (a0_41 : ByteArray) (a0_42 : Int) (a0_43 : List T_Node) (x1_3 : List ByteArray) : Option (List ByteArray) :=
  bS (L29_0 R29 FU a0_43 (a0_43.length : Int) 0 x1_3) fun r40 =>
  some r40
theorem S29_ok (R29 : Int → ByteArray → Int → (List T_Node) → (List ByteArray) → Option (List ByteArray)) (hR29 : ∀ (a0_40 : Int) (a0_41 : ByteArray) (a0_42 : Int) (a0_43 : List T_Node) (x1_3 : List ByteArray) (r_ : (List ByteArray)), R29 a0_40 a0_41 a0_42 a0_43 x1_3 = some r_ → ev EE (.call 29 [.ag [.sc (.int .i64 a0_40), .sc (.string a0_41), .sc (.int .i64 a0_42), .ls false (r_Node false a0_43)], .fn 30 [.bx 0 0]] [.b [.fn 26 [.bx 1 0]], .b [.ls true (strs x1_3)]]) = some (F29_ans a0_40 a0_41 a0_42 a0_43 x1_3 r_)) (a0_40 : Int) (a0_41 : ByteArray) (a0_42 : Int) (a0_43 : List T_Node) (x1_3 : List ByteArray) (r_ : (List ByteArray)) (h_ : S29 R29 a0_40 a0_41 a0_42 a0_43 x1_3 = some r_) : ev EE (.call 29 [.ag [.sc (.int .i64 a0_40), .sc (.string a0_41), .sc (.int .i64 a0_42), .ls false (r_Node false a0_43)], .fn 30 [.bx 0 0]] [.b [.fn 26 [.bx 1 0]], .b [.ls true (strs x1_3)]]) = some (F29_ans a0_40 a0_41 a0_42 a0_43 x1_3 r_) := by
  rw [ev_eq]
  simp only [S29] at h_
  obtain ⟨r40, h1_, h_⟩ := bS_some h_
  have h1_f := L29_0_ok R29 hR29 FU a0_43 (a0_43.length : Int) 0 x1_3 _ h1_
  try simp [L29_0_ans] at h1_f
  cases h_
  simp (maxSteps := 2000000) (decide := true) [-getElem?_pos, ir29, h1_f, F29_ans]
def F29n : Nat → Int → ByteArray → Int → (List T_Node) → (List ByteArray) → Option (List ByteArray)
  | 0 => fun _ _ _ _ _ => none
  | n_ + 1 => S29 (F29n n_)
def F29 (a0_40 : Int) (a0_41 : ByteArray) (a0_42 : Int) (a0_43 : List T_Node) (x1_3 : List ByteArray) : Option (List ByteArray) := F29n FU a0_40 a0_41 a0_42 a0_43 x1_3
theorem F29n_ok : ∀ (n_ : Nat) (a0_40 : Int) (a0_41 : ByteArray) (a0_42 : Int) (a0_43 : List T_Node) (x1_3 : List ByteArray) (r_ : (List ByteArray)), F29n n_ a0_40 a0_41 a0_42 a0_43 x1_3 = some r_ → ev EE (.call 29 [.ag [.sc (.int .i64 a0_40), .sc (.string a0_41), .sc (.int .i64 a0_42), .ls false (r_Node false a0_43)], .fn 30 [.bx 0 0]] [.b [.fn 26 [.bx 1 0]], .b [.ls true (strs x1_3)]]) = some (F29_ans a0_40 a0_41 a0_42 a0_43 x1_3 r_) := by
  intro n_
  induction n_ with
  | zero => intro a0_40 a0_41 a0_42 a0_43 x1_3 r_ h_; cases h_
  | succ n_ ih_ => intro a0_40 a0_41 a0_42 a0_43 x1_3 r_ h_; exact S29_ok (F29n n_) ih_ a0_40 a0_41 a0_42 a0_43 x1_3 r_ h_
theorem F29_ok (a0_40 : Int) (a0_41 : ByteArray) (a0_42 : Int) (a0_43 : List T_Node) (x1_3 : List ByteArray) (r_ : (List ByteArray)) (h_ : F29 a0_40 a0_41 a0_42 a0_43 x1_3 = some r_) : ev EE (.call 29 [.ag [.sc (.int .i64 a0_40), .sc (.string a0_41), .sc (.int .i64 a0_42), .ls false (r_Node false a0_43)], .fn 30 [.bx 0 0]] [.b [.fn 26 [.bx 1 0]], .b [.ls true (strs x1_3)]]) = some (F29_ans a0_40 a0_41 a0_42 a0_43 x1_3 r_) := F29n_ok FU a0_40 a0_41 a0_42 a0_43 x1_3 r_ h_
/-- impl.Vars -/
def F9 (a0_29 : Int) (a0_30 : ByteArray) (a0_31 : Int) (a0_32 : List T_Node) : Option (List ByteArray) :=
  if a0_29 = 27 then
    bS (F28 a0_29 a0_30 a0_31 a0_32) fun r30 =>
    bS (L9_0 FU r30 (r30.length : Int) 0 a0_29 a0_30 a0_31 a0_32 []) fun r35 =>
    if a0_29 = 2 then
      bS (F26 a0_30 r35) fun r36 =>
      bS (F29 a0_29 a0_30 a0_31 a0_32 r36) fun r41 =>
      some r41
    else
    bS (F29 a0_29 a0_30 a0_31 a0_32 r35) fun r42 =>
    some r42
  else
  if a0_29 = 2 then
    bS (F26 a0_30 []) fun r43 =>
    bS (F29 a0_29 a0_30 a0_31 a0_32 r43) fun r44 =>
    some r44
  else
  bS (F29 a0_29 a0_30 a0_31 a0_32 []) fun r45 =>
  some r45
def F9_ans (a0_29 : Int) (a0_30 : ByteArray) (a0_31 : Int) (a0_32 : List T_Node) : (List ByteArray) → Ans
  | q20 => .val (.ls true (strs q20)) []
theorem F9_ok (a0_29 : Int) (a0_30 : ByteArray) (a0_31 : Int) (a0_32 : List T_Node) (r_ : (List ByteArray)) (h_ : F9 a0_29 a0_30 a0_31 a0_32 = some r_) : ev EE (.call 9 [.ag [.sc (.int .i64 a0_29), .sc (.string a0_30), .sc (.int .i64 a0_31), .ls false (r_Node false a0_32)]] []) = some (F9_ans a0_29 a0_30 a0_31 a0_32 r_) := by
  rw [ev_eq]
  simp only [F9] at h_
  by_cases h1_ : a0_29 = 27
  · rw [if_pos h1_] at h_
    obtain ⟨r30, h2_, h_⟩ := bS_some h_
    have h2_f := F28_ok a0_29 a0_30 a0_31 a0_32 _ h2_
    try simp [F28_ans] at h2_f
    obtain ⟨r35, h3_, h_⟩ := bS_some h_
    have h3_f := L9_0_ok FU r30 (r30.length : Int) 0 a0_29 a0_30 a0_31 a0_32 [] _ h3_
    try simp [L9_0_ans] at h3_f
    by_cases h4_ : a0_29 = 2
    · rw [if_pos h4_] at h_
      obtain ⟨r36, h5_, h_⟩ := bS_some h_
      have h5_f := F26_ok a0_30 r35 _ h5_
      try simp [F26_ans] at h5_f
      obtain ⟨r41, h6_, h_⟩ := bS_some h_
      have h6_f := F29_ok a0_29 a0_30 a0_31 a0_32 r36 _ h6_
      try simp [F29_ans] at h6_f
      cases h_
      simp (maxSteps := 2000000) (decide := true) [-getElem?_pos, ir9, eq_true h1_, h2_f, h3_f, eq_true h4_, h5_f, h6_f, F9_ans]
    · rw [if_neg h4_] at h_
      obtain ⟨r42, h5_, h_⟩ := bS_some h_
      have h5_f := F29_ok a0_29 a0_30 a0_31 a0_32 r35 _ h5_
      try simp [F29_ans] at h5_f
      cases h_
      simp (maxSteps := 2000000) (decide := true) [-getElem?_pos, ir9, eq_true h1_, h2_f, h3_f, h4_, h5_f, F9_ans]
  · rw [if_neg h1_] at h_
    by_cases h2_ : a0_29 = 2
    · rw [if_pos h2_] at h_
      obtain ⟨r43, h3_, h_⟩ := bS_some h_
      have h3_f := F26_ok a0_30 [] _ h3_
      try simp [F26_ans] at h3_f
      obtain ⟨r44, h4_, h_⟩ := bS_some h_
      have h4_f := F29_ok a0_29 a0_30 a0_31 a0_32 r43 _ h4_
      try simp [F29_ans] at h4_f
      cases h_
      simp (maxSteps := 2000000) (decide := true) [-getElem?_pos, ir9, h1_, eq_true h2_, h3_f, h4_f, F9_ans]
    · rw [if_neg h2_] at h_
      obtain ⟨r45, h3_, h_⟩ := bS_some h_
      have h3_f := F29_ok a0_29 a0_30 a0_31 a0_32 [] _ h3_
      try simp [F29_ans] at h3_f
      cases h_
      simp (maxSteps := 2000000) (decide := true) [-getElem?_pos, ir9, h1_, h2_, h3_f, F9_ans]
def L10_0 : Nat → (List ByteArray) → (List ByteArray) → Int → Option (Bool ⊕ Unit)
  | 0, _, _, _ => none
  | n_ + 1, t0_6, t1_6, t5_5 =>
  if t5_5 < (t0_6.length : Int) then
    bS (getI t0_6 t5_5) fun e10 =>
    bS (getI t1_6 t5_5) fun e11 =>
    if e10 = e11 then
      L10_0 n_ t0_6 t1_6 (IntKind.i64.wrap (t5_5 + 1))
    else
      some (.inl false)
  else
    some (.inr ())
def L10_0_ans (t0_6 : List ByteArray) (t1_6 : List ByteArray) (t5_5 : Int) : Bool ⊕ Unit → Ans
  | .inl t4_8 => .out .ret { np := 0, tm := [(4, .sc (.bool t4_8))], ar := [], bx := [] }
  | .inr _ => .out (.exit 0) { np := 0, tm := [], ar := [], bx := [] }
theorem L10_0_ok : ∀ (n_ : Nat) (t0_6 : List ByteArray) (t1_6 : List ByteArray) (t5_5 : Int) (r_ : Bool ⊕ Unit), L10_0 n_ t0_6 t1_6 t5_5 = some r_ → ev EE (.loop lp10_0 [0, 1, 5] [4] { np := 0, tm := [(0, .ls false (strs t0_6)), (1, .ls false (strs t1_6)), (5, .sc (.int .i64 t5_5))], ar := [], bx := [] }) = some (L10_0_ans t0_6 t1_6 t5_5 r_) := by
  intro n_
  induction n_ with
  | zero => intro t0_6 t1_6 t5_5 r_ h_; simp only [L10_0] at h_; cases h_
  | succ n_ ih_ =>
    intro t0_6 t1_6 t5_5 r_ h_
    rw [ev_loop EE lp10_0.eq_1]
    simp only [L10_0] at h_
    by_cases h1_ : t5_5 < (t0_6.length : Int)
    · rw [if_pos h1_] at h_
      have h1_s := h1_
      try simp at h1_s
      obtain ⟨e10, h3_, h_⟩ := bS_some h_
      obtain ⟨h3_a, h3_b, h3_c, h3_d⟩ := strs_getI  h3_
      try simp [-getElem?_pos] at h3_d
      obtain ⟨e11, h7_, h_⟩ := bS_some h_
      obtain ⟨h7_a, h7_b, h7_c, h7_d⟩ := strs_getI  h7_
      try simp [-getElem?_pos] at h7_d
      by_cases h11_ : e10 = e11
      · rw [if_pos h11_] at h_
        have q_ := ih_ t0_6 t1_6 (IntKind.i64.wrap (t5_5 + 1)) _ h_
        rcases r_ with t4_8 | _
        all_goals (try simp [L10_0_ans] at q_)
        all_goals simp (maxSteps := 2000000) (decide := true) [-getElem?_pos, h1_, h1_s, h3_a, h3_b, h3_c, h3_d, h7_a, h7_b, h7_c, h7_d, eq_true h11_, q_, L10_0_ans]
      · rw [if_neg h11_] at h_
        cases h_
        simp (maxSteps := 2000000) (decide := true) [-getElem?_pos, h1_, h1_s, h3_a, h3_b, h3_c, h3_d, h7_a, h7_b, h7_c, h7_d, h11_, L10_0_ans]
    · rw [if_neg h1_] at h_
      have h1_s := h1_
      try simp at h1_s
      cases h_
      simp (maxSteps := 2000000) (decide := true) [-getElem?_pos, h1_, h1_s, L10_0_ans]
/-- laws.eqStringS -/
def F10 (a0_48 : List ByteArray) (a1_6 : List ByteArray) : Option Bool :=
  if (a0_48.length : Int) = (a1_6.length : Int) then
    bS (L10_0 FU a0_48 a1_6 0) fun r_ => match r_ with
    | .inl r47 =>
      some r47
    | .inr () =>
      some true
  else
    some false
def F10_ans (a0_48 : List ByteArray) (a1_6 : List ByteArray) : Bool → Ans
  | q21 => .val (.sc (.bool q21)) []
theorem F10_ok (a0_48 : List ByteArray) (a1_6 : List ByteArray) (r_ : Bool) (h_ : F10 a0_48 a1_6 = some r_) : ev EE (.call 10 [.ls false (strs a0_48), .ls false (strs a1_6)] []) = some (F10_ans a0_48 a1_6 r_) := by
  rw [ev_eq]
  simp only [F10] at h_
  by_cases h1_ : (a0_48.length : Int) = (a1_6.length : Int)
  · rw [if_pos h1_] at h_
    have h1_s := h1_
    try simp at h1_s
    obtain ⟨r_2, h3_, h_⟩ := bS_some h_
    have h3_f := L10_0_ok FU a0_48 a1_6 0 _ h3_
    rcases r_2 with r47 | _
    · try dsimp only at h_
      try simp [L10_0_ans] at h3_f
      cases h_
      simp (maxSteps := 2000000) (decide := true) [-getElem?_pos, ir10, eq_true h1_, eq_true h1_s, h3_f, F10_ans]
    · try dsimp only at h_
      try simp [L10_0_ans] at h3_f
      cases h_
      simp (maxSteps := 2000000) (decide := true) [-getElem?_pos, ir10, eq_true h1_, eq_true h1_s, h3_f, F10_ans]
  · rw [if_neg h1_] at h_
    have h1_s := h1_
    try simp at h1_s
    cases h_
    simp (maxSteps := 2000000) (decide := true) [-getElem?_pos, ir10, h1_, h1_s, F10_ans]
def F11_ans (a0_49 : Int) (a0_50 : ByteArray) (a0_51 : Int) (a0_52 : List T_Node) (a1_7 : Int) (a1_8 : ByteArray) (a1_9 : Int) (a1_10 : List T_Node) : Bool → Ans
  | q22 => .val (.sc (.bool q22)) []
def L19_0 (R11 : Int → ByteArray → Int → (List T_Node) → Int → ByteArray → Int → (List T_Node) → Option Bool) : Nat → (List T_Node) → (List T_Node) → Int → Option (Bool ⊕ Unit)
  | 0, _, _, _ => none
  | n_ + 1, t0_7, t1_7, t5_6 =>
  if t5_6 < (t0_7.length : Int) then
    bS (getI t0_7 t5_6) fun e12 =>
    bS (getI t1_7 t5_6) fun e13 =>
    bS (R11 e12.op_ e12.s_ e12.n_ e12.kids_ e13.op_ e13.s_ e13.n_ e13.kids_) fun r49 =>
    if r49 = true then
      L19_0 R11 n_ t0_7 t1_7 (IntKind.i64.wrap (t5_6 + 1))
    else
      some (.inl false)
  else
    some (.inr ())
def L19_0_ans (t0_7 : List T_Node) (t1_7 : List T_Node) (t5_6 : Int) : Bool ⊕ Unit → Ans
  | .inl t4_9 => .out .ret { np := 0, tm := [(4, .sc (.bool t4_9))], ar := [], bx := [] }
  | .inr _ => .out (.exit 0) { np := 0, tm := [], ar := [], bx := [] }
theorem L19_0_ok (R11 : Int → ByteArray → Int → (List T_Node) → Int → ByteArray → Int → (List T_Node) → Option Bool) (hR11 : ∀ (a0_49 : Int) (a0_50 : ByteArray) (a0_51 : Int) (a0_52 : List T_Node) (a1_7 : Int) (a1_8 : ByteArray) (a1_9 : Int) (a1_10 : List T_Node) (r_ : Bool), R11 a0_49 a0_50 a0_51 a0_52 a1_7 a1_8 a1_9 a1_10 = some r_ → ev EE (.call 11 [.ag [.sc (.int .i64 a0_49), .sc (.string a0_50), .sc (.int .i64 a0_51), .ls false (r_Node false a0_52)], .ag [.sc (.int .i64 a1_7), .sc (.string a1_8), .sc (.int .i64 a1_9), .ls false (r_Node false a1_10)]] []) = some (F11_ans a0_49 a0_50 a0_51 a0_52 a1_7 a1_8 a1_9 a1_10 r_)) : ∀ (n_ : Nat) (t0_7 : List T_Node) (t1_7 : List T_Node) (t5_6 : Int) (r_ : Bool ⊕ Unit), L19_0 R11 n_ t0_7 t1_7 t5_6 = some r_ → ev EE (.loop lp19_0 [0, 1, 5] [4] { np := 0, tm := [(0, .ls false (r_Node false t0_7)), (1, .ls false (r_Node false t1_7)), (5, .sc (.int .i64 t5_6))], ar := [], bx := [] }) = some (L19_0_ans t0_7 t1_7 t5_6 r_) := by
  intro n_
  induction n_ with
  | zero => intro t0_7 t1_7 t5_6 r_ h_; simp only [L19_0] at h_; cases h_
  | succ n_ ih_ =>
    intro t0_7 t1_7 t5_6 r_ h_
    rw [ev_loop EE lp19_0.eq_1]
    simp only [L19_0] at h_
    by_cases h1_ : t5_6 < (t0_7.length : Int)
    · rw [if_pos h1_] at h_
      have h1_s := h1_
      try simp at h1_s
      obtain ⟨e12, h3_, h_⟩ := bS_some h_
      obtain ⟨h3_a, h3_b, h3_c, h3_d⟩ := r_Node_getI (o := false)  h3_
      try simp [-getElem?_pos] at h3_d
      obtain ⟨e13, h7_, h_⟩ := bS_some h_
      obtain ⟨h7_a, h7_b, h7_c, h7_d⟩ := r_Node_getI (o := false)  h7_
      try simp [-getElem?_pos] at h7_d
      obtain ⟨r49, h11_, h_⟩ := bS_some h_
      have h11_f := hR11 e12.op_ e12.s_ e12.n_ e12.kids_ e13.op_ e13.s_ e13.n_ e13.kids_ _ h11_
      try simp [F11_ans] at h11_f
      by_cases h12_ : r49 = true
      · rw [if_pos h12_] at h_
        have q_ := ih_ t0_7 t1_7 (IntKind.i64.wrap (t5_6 + 1)) _ h_
        rcases r_ with t4_9 | _
        all_goals (try simp [L19_0_ans] at q_)
        all_goals simp (maxSteps := 2000000) (decide := true) [-getElem?_pos, h1_, h1_s, h3_a, h3_b, h3_c, h3_d, h7_a, h7_b, h7_c, h7_d, h11_f, h12_, q_, L19_0_ans]
      · rw [if_neg h12_] at h_
        cases h_
        simp (maxSteps := 2000000) (decide := true) [-getElem?_pos, h1_, h1_s, h3_a, h3_b, h3_c, h3_d, h7_a, h7_b, h7_c, h7_d, h11_f, h12_, L19_0_ans]
    · rw [if_neg h1_] at h_
      have h1_s := h1_
      try simp at h1_s
      cases h_
      simp (maxSteps := 2000000) (decide := true) [-getElem?_pos, h1_, h1_s, L19_0_ans]
/-- laws.eqNodeS -/
def F19 (R11 : Int → ByteArray → Int → (List T_Node) → Int → ByteArray → Int → (List T_Node) → Option Bool) (a0_53 : List T_Node) (a1_11 : List T_Node) : Option Bool :=
  if (a0_53.length : Int) = (a1_11.length : Int) then
    bS (L19_0 R11 FU a0_53 a1_11 0) fun r_ => match r_ with
    | .inl r50 =>
      some r50
    | .inr () =>
      some true
  else
    some false
def F19_ans (a0_53 : List T_Node) (a1_11 : List T_Node) : Bool → Ans
  | q23 => .val (.sc (.bool q23)) []
theorem F19_ok (R11 : Int → ByteArray → Int → (List T_Node) → Int → ByteArray → Int → (List T_Node) → Option Bool) (hR11 : ∀ (a0_49 : Int) (a0_50 : ByteArray) (a0_51 : Int) (a0_52 : List T_Node) (a1_7 : Int) (a1_8 : ByteArray) (a1_9 : Int) (a1_10 : List T_Node) (r_ : Bool), R11 a0_49 a0_50 a0_51 a0_52 a1_7 a1_8 a1_9 a1_10 = some r_ → ev EE (.call 11 [.ag [.sc (.int .i64 a0_49), .sc (.string a0_50), .sc (.int .i64 a0_51), .ls false (r_Node false a0_52)], .ag [.sc (.int .i64 a1_7), .sc (.string a1_8), .sc (.int .i64 a1_9), .ls false (r_Node false a1_10)]] []) = some (F11_ans a0_49 a0_50 a0_51 a0_52 a1_7 a1_8 a1_9 a1_10 r_)) (a0_53 : List T_Node) (a1_11 : List T_Node) (r_ : Bool) (h_ : F19 R11 a0_53 a1_11 = some r_) : ev EE (.call 19 [.ls false (r_Node false a0_53), .ls false (r_Node false a1_11)] []) = some (F19_ans a0_53 a1_11 r_) := by
  rw [ev_eq]
  simp only [F19] at h_
  by_cases h1_ : (a0_53.length : Int) = (a1_11.length : Int)
  · rw [if_pos h1_] at h_
    have h1_s := h1_
    try simp at h1_s
    obtain ⟨r_2, h3_, h_⟩ := bS_some h_
    have h3_f := L19_0_ok R11 hR11 FU a0_53 a1_11 0 _ h3_
    rcases r_2 with r50 | _
    · try dsimp only at h_
      try simp [L19_0_ans] at h3_f
      cases h_
      simp (maxSteps := 2000000) (decide := true) [-getElem?_pos, ir19, eq_true h1_, eq_true h1_s, h3_f, F19_ans]
    · try dsimp only at h_
      try simp [L19_0_ans] at h3_f
      cases h_
      simp (maxSteps := 2000000) (decide := true) [-getElem?_pos, ir19, eq_true h1_, eq_true h1_s, h3_f, F19_ans]
  · rw [if_neg h1_] at h_
    have h1_s := h1_
    try simp at h1_s
    cases h_
    simp (maxSteps := 2000000) (decide := true) [-getElem?_pos, ir19, h1_, h1_s, F19_ans]
end Go.Pv

namespace Go.Pv
set_option maxRecDepth 100000
set_option maxHeartbeats 40000000
set_option linter.unusedSimpArgs false
set_option linter.unusedVariables false
/-- laws.eqNode -/
def S11 (R11 : Int → ByteArray → Int → (List T_Node) → Int → ByteArray → Int → (List T_Node) → Option Bool) (a0_49 : Int) (a0_50 : ByteArray) (a0_51 : Int) (a0_52 : List T_Node) (a1_7 : Int) (a1_8 : ByteArray) (a1_9 : Int) (a1_10 : List T_Node) : Option Bool :=
  if a0_49 = a1_7 then
    if a0_50 = a1_8 then
      if a0_51 = a1_9 then
        bS (F19 R11 a0_52 a1_10) fun r51 =>
        if r51 = true then
          some true
        else
          some false
      else
        some false
    else
      some false
  else
    some false
theorem S11_ok (R11 : Int → ByteArray → Int → (List T_Node) → Int → ByteArray → Int → (List T_Node) → Option Bool) (hR11 : ∀ (a0_49 : Int) (a0_50 : ByteArray) (a0_51 : Int) (a0_52 : List T_Node) (a1_7 : Int) (a1_8 : ByteArray) (a1_9 : Int) (a1_10 : List T_Node) (r_ : Bool), R11 a0_49 a0_50 a0_51 a0_52 a1_7 a1_8 a1_9 a1_10 = some r_ → ev EE (.call 11 [.ag [.sc (.int .i64 a0_49), .sc (.string a0_50), .sc (.int .i64 a0_51), .ls false (r_Node false a0_52)], .ag [.sc (.int .i64 a1_7), .sc (.string a1_8), .sc (.int .i64 a1_9), .ls false (r_Node false a1_10)]] []) = some (F11_ans a0_49 a0_50 a0_51 a0_52 a1_7 a1_8 a1_9 a1_10 r_)) (a0_49 : Int) (a0_50 : ByteArray) (a0_51 : Int) (a0_52 : List T_Node) (a1_7 : Int) (a1_8 : ByteArray) (a1_9 : Int) (a1_10 : List T_Node) (r_ : Bool) (h_ : S11 R11 a0_49 a0_50 a0_51 a0_52 a1_7 a1_8 a1_9 a1_10 = some r_) : ev EE (.call 11 [.ag [.sc (.int .i64 a0_49), .sc (.string a0_50), .sc (.int .i64 a0_51), .ls false (r_Node false a0_52)], .ag [.sc (.int .i64 a1_7), .sc (.string a1_8), .sc (.int .i64 a1_9), .ls false (r_Node false a1_10)]] []) = some (F11_ans a0_49 a0_50 a0_51 a0_52 a1_7 a1_8 a1_9 a1_10 r_) := by
  rw [ev_eq]
  simp only [S11] at h_
  by_cases h1_ : a0_49 = a1_7
  · rw [if_pos h1_] at h_
    by_cases h2_ : a0_50 = a1_8
    · rw [if_pos h2_] at h_
      by_cases h3_ : a0_51 = a1_9
      · rw [if_pos h3_] at h_
        obtain ⟨r51, h4_, h_⟩ := bS_some h_
        have h4_f := F19_ok R11 hR11 a0_52 a1_10 _ h4_
        try simp [F19_ans] at h4_f
        by_cases h5_ : r51 = true
        · rw [if_pos h5_] at h_
          cases h_
          simp (maxSteps := 2000000) (decide := true) [-getElem?_pos, ir11, eq_true h1_, eq_true h2_, eq_true h3_, h4_f, h5_, F11_ans]
        · rw [if_neg h5_] at h_
          cases h_
          simp (maxSteps := 2000000) (decide := true) [-getElem?_pos, ir11, eq_true h1_, eq_true h2_, eq_true h3_, h4_f, h5_, F11_ans]
      · rw [if_neg h3_] at h_
        cases h_
        simp (maxSteps := 2000000) (decide := true) [-getElem?_pos, ir11, eq_true h1_, eq_true h2_, h3_, F11_ans]
    · rw [if_neg h2_] at h_
      cases h_
      simp (maxSteps := 2000000) (decide := true) [-getElem?_pos, ir11, eq_true h1_, h2_, F11_ans]
  · rw [if_neg h1_] at h_
    cases h_
    simp (maxSteps := 2000000) (decide := true) [-getElem?_pos, ir11, h1_, F11_ans]
def F11n : Nat → Int → ByteArray → Int → (List T_Node) → Int → ByteArray → Int → (List T_Node) → Option Bool
  | 0 => fun _ _ _ _ _ _ _ _ => none
  | n_ + 1 => S11 (F11n n_)
def F11 (a0_49 : Int) (a0_50 : ByteArray) (a0_51 : Int) (a0_52 : List T_Node) (a1_7 : Int) (a1_8 : ByteArray) (a1_9 : Int) (a1_10 : List T_Node) : Option Bool := F11n FU a0_49 a0_50 a0_51 a0_52 a1_7 a1_8 a1_9 a1_10
theorem F11n_ok : ∀ (n_ : Nat) (a0_49 : Int) (a0_50 : ByteArray) (a0_51 : Int) (a0_52 : List T_Node) (a1_7 : Int) (a1_8 : ByteArray) (a1_9 : Int) (a1_10 : List T_Node) (r_ : Bool), F11n n_ a0_49 a0_50 a0_51 a0_52 a1_7 a1_8 a1_9 a1_10 = some r_ → ev EE (.call 11 [.ag [.sc (.int .i64 a0_49), .sc (.string a0_50), .sc (.int .i64 a0_51), .ls false (r_Node false a0_52)], .ag [.sc (.int .i64 a1_7), .sc (.string a1_8), .sc (.int .i64 a1_9), .ls false (r_Node false a1_10)]] []) = some (F11_ans a0_49 a0_50 a0_51 a0_52 a1_7 a1_8 a1_9 a1_10 r_) := by
  intro n_
  induction n_ with
  | zero => intro a0_49 a0_50 a0_51 a0_52 a1_7 a1_8 a1_9 a1_10 r_ h_; cases h_
  | succ n_ ih_ => intro a0_49 a0_50 a0_51 a0_52 a1_7 a1_8 a1_9 a1_10 r_ h_; exact S11_ok (F11n n_) ih_ a0_49 a0_50 a0_51 a0_52 a1_7 a1_8 a1_9 a1_10 r_ h_
theorem F11_ok (a0_49 : Int) (a0_50 : ByteArray) (a0_51 : Int) (a0_52 : List T_Node) (a1_7 : Int) (a1_8 : ByteArray) (a1_9 : Int) (a1_10 : List T_Node) (r_ : Bool) (h_ : F11 a0_49 a0_50 a0_51 a0_52 a1_7 a1_8 a1_9 a1_10 = some r_) : ev EE (.call 11 [.ag [.sc (.int .i64 a0_49), .sc (.string a0_50), .sc (.int .i64 a0_51), .ls false (r_Node false a0_52)], .ag [.sc (.int .i64 a1_7), .sc (.string a1_8), .sc (.int .i64 a1_9), .ls false (r_Node false a1_10)]] []) = some (F11_ans a0_49 a0_50 a0_51 a0_52 a1_7 a1_8 a1_9 a1_10 r_) := F11n_ok FU a0_49 a0_50 a0_51 a0_52 a1_7 a1_8 a1_9 a1_10 r_ h_
def L31_0 : Nat → Int → ByteArray → Option ByteArray
  | 0, _, _ => none
  | n_ + 1, t0_9, t3_9 =>
  if 0 < t0_9 then
    if (⟨#[UInt8.ofNat (IntKind.u8.wrap (IntKind.i64.wrap (48 + (Int.tmod t0_9 10)))).toNat]⟩ : ByteArray).size + t3_9.size ≤ 9223372036854775807 then
    L31_0 n_ (IntKind.i64.wrap (Int.tdiv t0_9 10)) ((⟨#[UInt8.ofNat (IntKind.u8.wrap (IntKind.i64.wrap (48 + (Int.tmod t0_9 10)))).toNat]⟩ : ByteArray) ++ t3_9)
    else none
  else
    some t3_9
def L31_0_ans (t0_9 : Int) (t3_9 : ByteArray) : ByteArray → Ans
  | t3_10 => .out (.exit 0) { np := 0, tm := [(3, .sc (.string t3_10))], ar := [], bx := [] }
theorem L31_0_ok : ∀ (n_ : Nat) (t0_9 : Int) (t3_9 : ByteArray) (r_ : ByteArray), L31_0 n_ t0_9 t3_9 = some r_ → ev EE (.loop lp31_0 [0, 3] [2, 3] { np := 0, tm := [(0, .sc (.int .i64 t0_9)), (3, .sc (.string t3_9))], ar := [], bx := [] }) = some (L31_0_ans t0_9 t3_9 r_) := by
  intro n_
  induction n_ with
  | zero => intro t0_9 t3_9 r_ h_; simp only [L31_0] at h_; cases h_
  | succ n_ ih_ =>
    intro t0_9 t3_9 r_ h_
    rw [ev_loop EE lp31_0.eq_1]
    simp only [L31_0] at h_
    by_cases h1_ : 0 < t0_9
    · rw [if_pos h1_] at h_
      by_cases h2_ : (⟨#[UInt8.ofNat (IntKind.u8.wrap (IntKind.i64.wrap (48 + (Int.tmod t0_9 10)))).toNat]⟩ : ByteArray).size + t3_9.size ≤ 9223372036854775807
      · rw [if_pos h2_] at h_
        have q_ := ih_ (IntKind.i64.wrap (Int.tdiv t0_9 10)) ((⟨#[UInt8.ofNat (IntKind.u8.wrap (IntKind.i64.wrap (48 + (Int.tmod t0_9 10)))).toNat]⟩ : ByteArray) ++ t3_9) _ h_
        rcases r_ with t3_10
        all_goals (try simp [L31_0_ans] at q_)
        all_goals simp (maxSteps := 2000000) (decide := true) [-getElem?_pos, h1_, h2_, q_, L31_0_ans]
      · rw [if_neg h2_] at h_
        cases h_
    · rw [if_neg h1_] at h_
      cases h_
      simp (maxSteps := 2000000) (decide := true) [-getElem?_pos, h1_, L31_0_ans]
/-- laws.markText -/
def F31 (a0_59 : Int) : Option ByteArray :=
  if a0_59 ≤ 0 then
    some (⟨#[109, 48]⟩ : ByteArray)
  else
  bS (L31_0 FU a0_59 (⟨#[]⟩ : ByteArray)) fun r53 =>
  if (⟨#[109]⟩ : ByteArray).size + r53.size ≤ 9223372036854775807 then
  some ((⟨#[109]⟩ : ByteArray) ++ r53)
  else none
def F31_ans (a0_59 : Int) : ByteArray → Ans
  | q24 => .val (.sc (.string q24)) []
theorem F31_ok (a0_59 : Int) (r_ : ByteArray) (h_ : F31 a0_59 = some r_) : ev EE (.call 31 [.sc (.int .i64 a0_59)] []) = some (F31_ans a0_59 r_) := by
  rw [ev_eq]
  simp only [F31] at h_
  by_cases h1_ : a0_59 ≤ 0
  · rw [if_pos h1_] at h_
    cases h_
    simp (maxSteps := 2000000) (decide := true) [-getElem?_pos, ir31, h1_, F31_ans]
  · rw [if_neg h1_] at h_
    obtain ⟨r53, h2_, h_⟩ := bS_some h_
    have h2_f := L31_0_ok FU a0_59 (⟨#[]⟩ : ByteArray) _ h2_
    try simp [L31_0_ans] at h2_f
    by_cases h3_ : (⟨#[109]⟩ : ByteArray).size + r53.size ≤ 9223372036854775807
    · rw [if_pos h3_] at h_
      cases h_
      simp (maxSteps := 2000000) (decide := true) [-getElem?_pos, ir31, h1_, h2_f, h3_, F31_ans]
    · rw [if_neg h3_] at h_
      cases h_
def F20_ans (a0_58 : List T_Node) (a1_13 : Int) : (Int × (List T_Node)) → Ans
  | (q25, q26) => .val (.tu [.sc (.int .i64 q25), .ls true (r_Node true q26)]) []
def L20_0 (R20 : (List T_Node) → Int → Option (Int × (List T_Node))) : Nat → (List T_Node) → Int → Int → Option ((List T_Node) × Int)
  | 0, _, _, _ => none
  | n_ + 1, t0_8, t1_8, t5_7 =>
  if t5_7 < (t0_8.length : Int) then
    bS (getI t0_8 t5_7) fun e14 =>
    bS (F31 (IntKind.i64.wrap (t1_8 + 1))) fun r54 =>
    bS (getI (List.set t0_8 t5_7.toNat (⟨t1_8, e14.s_, e14.n_, e14.kids_⟩ : T_Node)) t5_7) fun e15 =>
    bS (getI (List.set (List.set t0_8 t5_7.toNat (⟨t1_8, e14.s_, e14.n_, e14.kids_⟩ : T_Node)) t5_7.toNat (⟨e15.op_, r54, e15.n_, e15.kids_⟩ : T_Node)) t5_7) fun e16 =>
    bS (getI (List.set (List.set (List.set t0_8 t5_7.toNat (⟨t1_8, e14.s_, e14.n_, e14.kids_⟩ : T_Node)) t5_7.toNat (⟨e15.op_, r54, e15.n_, e15.kids_⟩ : T_Node)) t5_7.toNat (⟨e16.op_, e16.s_, IntKind.i64.wrap ((IntKind.i64.wrap (t1_8 + 1)) + 1), e16.kids_⟩ : T_Node)) t5_7) fun e17 =>
    bS (R20 e17.kids_ (IntKind.i64.wrap ((IntKind.i64.wrap ((IntKind.i64.wrap (t1_8 + 1)) + 1)) + 1))) fun (r55, r56) =>
    if r56.length = e17.kids_.length then
    L20_0 R20 n_ (List.set (List.set (List.set (List.set t0_8 t5_7.toNat (⟨t1_8, e14.s_, e14.n_, e14.kids_⟩ : T_Node)) t5_7.toNat (⟨e15.op_, r54, e15.n_, e15.kids_⟩ : T_Node)) t5_7.toNat (⟨e16.op_, e16.s_, IntKind.i64.wrap ((IntKind.i64.wrap (t1_8 + 1)) + 1), e16.kids_⟩ : T_Node)) t5_7.toNat (⟨e17.op_, e17.s_, e17.n_, r56⟩ : T_Node)) r55 (IntKind.i64.wrap (t5_7 + 1))
    else none
  else
    some (t0_8, t1_8)
def L20_0_ans (t0_8 : List T_Node) (t1_8 : Int) (t5_7 : Int) : ((List T_Node) × Int) → Ans
  | (t0_10, t1_9) => .out (.exit 0) { np := 0, tm := [(0, .rf 0 0 t0_10.length), (1, .sc (.int .i64 t1_9))], ar := [(0, .a false (r_Node true t0_10))], bx := [] }
theorem L20_0_ok (R20 : (List T_Node) → Int → Option (Int × (List T_Node))) (hR20 : ∀ (a0_58 : List T_Node) (a1_13 : Int) (r_ : (Int × (List T_Node))), R20 a0_58 a1_13 = some r_ → ev EE (.call 20 [.ls true (r_Node true a0_58), .sc (.int .i64 a1_13)] []) = some (F20_ans a0_58 a1_13 r_)) : ∀ (n_ : Nat) (t0_8 : List T_Node) (t1_8 : Int) (t5_7 : Int) (r_ : ((List T_Node) × Int)), L20_0 R20 n_ t0_8 t1_8 t5_7 = some r_ → ev EE (.loop lp20_0 [0, 1, 5] [0, 1, 4] { np := 0, tm := [(0, .rf 0 0 t0_8.length), (1, .sc (.int .i64 t1_8)), (5, .sc (.int .i64 t5_7))], ar := [(0, .a false (r_Node true t0_8))], bx := [] }) = some (L20_0_ans t0_8 t1_8 t5_7 r_) := by
  intro n_
  induction n_ with
  | zero => intro t0_8 t1_8 t5_7 r_ h_; simp only [L20_0] at h_; cases h_
  | succ n_ ih_ =>
    intro t0_8 t1_8 t5_7 r_ h_
    rw [ev_loop EE lp20_0.eq_1]
    simp only [L20_0] at h_
    by_cases h1_ : t5_7 < (t0_8.length : Int)
    · rw [if_pos h1_] at h_
      have h1_s := h1_
      try simp at h1_s
      obtain ⟨e14, h3_, h_⟩ := bS_some h_
      obtain ⟨h3_a, h3_b, h3_c, h3_d⟩ := r_Node_getI (o := true)  h3_
      try simp [-getElem?_pos] at h3_d
      obtain ⟨r54, h7_, h_⟩ := bS_some h_
      have h7_f := F31_ok (IntKind.i64.wrap (t1_8 + 1)) _ h7_
      try simp [F31_ans] at h7_f
      obtain ⟨e15, h8_, h_⟩ := bS_some h_
      obtain ⟨h8_a, h8_b, h8_c, h8_d⟩ := r_Node_getI (o := true)  h8_
      try simp [-getElem?_pos] at h8_d
      obtain ⟨e16, h12_, h_⟩ := bS_some h_
      obtain ⟨h12_a, h12_b, h12_c, h12_d⟩ := r_Node_getI (o := true)  h12_
      try simp [-getElem?_pos] at h12_d
      obtain ⟨e17, h16_, h_⟩ := bS_some h_
      obtain ⟨h16_a, h16_b, h16_c, h16_d⟩ := r_Node_getI (o := true)  h16_
      try simp [-getElem?_pos] at h16_d
      obtain ⟨⟨r55, r56⟩, h20_, h_⟩ := bS_some h_
      try dsimp only at h_
      have h20_f := hR20 e17.kids_ (IntKind.i64.wrap ((IntKind.i64.wrap ((IntKind.i64.wrap (t1_8 + 1)) + 1)) + 1)) _ h20_
      try simp [F20_ans] at h20_f
      by_cases h21_ : r56.length = e17.kids_.length
      · rw [if_pos h21_] at h_
        have h21_t : List.take e17.kids_.length r56 = r56 := List.take_of_length_le (Nat.le_of_eq h21_)
        have q_ := ih_ (List.set (List.set (List.set (List.set t0_8 t5_7.toNat (⟨t1_8, e14.s_, e14.n_, e14.kids_⟩ : T_Node)) t5_7.toNat (⟨e15.op_, r54, e15.n_, e15.kids_⟩ : T_Node)) t5_7.toNat (⟨e16.op_, e16.s_, IntKind.i64.wrap ((IntKind.i64.wrap (t1_8 + 1)) + 1), e16.kids_⟩ : T_Node)) t5_7.toNat (⟨e17.op_, e17.s_, e17.n_, r56⟩ : T_Node)) r55 (IntKind.i64.wrap (t5_7 + 1)) _ h_
        rcases r_ with ⟨t0_10, t1_9⟩
        all_goals (try simp [L20_0_ans] at q_)
        all_goals simp (maxSteps := 2000000) (decide := true) [-getElem?_pos, h1_, h1_s, h3_a, h3_b, h3_c, h3_d, h7_f, h8_a, h8_b, h8_c, h8_d, h12_a, h12_b, h12_c, h12_d, h16_a, h16_b, h16_c, h16_d, h20_f, h21_, h21_t, q_, L20_0_ans]
      · rw [if_neg h21_] at h_
        cases h_
    · rw [if_neg h1_] at h_
      have h1_s := h1_
      try simp at h1_s
      cases h_
      simp (maxSteps := 2000000) (decide := true) [-getElem?_pos, h1_, h1_s, L20_0_ans]
/-- laws.markNodeS -/
def S20 (R20 : (List T_Node) → Int → Option (Int × (List T_Node))) (a0_58 : List T_Node) (a1_13 : Int) : Option (Int × (List T_Node)) :=
  bS (L20_0 R20 FU a0_58 a1_13 0) fun (r57, r58) =>
  some (r58, r57)
theorem S20_ok (R20 : (List T_Node) → Int → Option (Int × (List T_Node))) (hR20 : ∀ (a0_58 : List T_Node) (a1_13 : Int) (r_ : (Int × (List T_Node))), R20 a0_58 a1_13 = some r_ → ev EE (.call 20 [.ls true (r_Node true a0_58), .sc (.int .i64 a1_13)] []) = some (F20_ans a0_58 a1_13 r_)) (a0_58 : List T_Node) (a1_13 : Int) (r_ : (Int × (List T_Node))) (h_ : S20 R20 a0_58 a1_13 = some r_) : ev EE (.call 20 [.ls true (r_Node true a0_58), .sc (.int .i64 a1_13)] []) = some (F20_ans a0_58 a1_13 r_) := by
  rw [ev_eq]
  simp only [S20] at h_
  obtain ⟨⟨r57, r58⟩, h1_, h_⟩ := bS_some h_
  try dsimp only at h_
  have h1_f := L20_0_ok R20 hR20 FU a0_58 a1_13 0 _ h1_
  try simp [L20_0_ans] at h1_f
  cases h_
  simp (maxSteps := 2000000) (decide := true) [-getElem?_pos, ir20, h1_f, F20_ans]
def F20n : Nat → (List T_Node) → Int → Option (Int × (List T_Node))
  | 0 => fun _ _ => none
  | n_ + 1 => S20 (F20n n_)
def F20 (a0_58 : List T_Node) (a1_13 : Int) : Option (Int × (List T_Node)) := F20n FU a0_58 a1_13
theorem F20n_ok : ∀ (n_ : Nat) (a0_58 : List T_Node) (a1_13 : Int) (r_ : (Int × (List T_Node))), F20n n_ a0_58 a1_13 = some r_ → ev EE (.call 20 [.ls true (r_Node true a0_58), .sc (.int .i64 a1_13)] []) = some (F20_ans a0_58 a1_13 r_) := by
  intro n_
  induction n_ with
  | zero => intro a0_58 a1_13 r_ h_; cases h_
  | succ n_ ih_ => intro a0_58 a1_13 r_ h_; exact S20_ok (F20n n_) ih_ a0_58 a1_13 r_ h_
theorem F20_ok (a0_58 : List T_Node) (a1_13 : Int) (r_ : (Int × (List T_Node))) (h_ : F20 a0_58 a1_13 = some r_) : ev EE (.call 20 [.ls true (r_Node true a0_58), .sc (.int .i64 a1_13)] []) = some (F20_ans a0_58 a1_13 r_) := F20n_ok FU a0_58 a1_13 r_ h_
/-- laws.markNode -/
def F12 (a0_54 : Int) (a0_55 : ByteArray) (a0_56 : Int) (a0_57 : List T_Node) (a1_12 : Int) : Option (Int × Int × ByteArray × Int × (List T_Node)) :=
  bS (F20 a0_57 a1_12) fun (r59, r60) =>
  if r60.length = a0_57.length then
  some (r59, a0_54, a0_55, a0_56, r60)
  else none
def F12_ans (a0_54 : Int) (a0_55 : ByteArray) (a0_56 : Int) (a0_57 : List T_Node) (a1_12 : Int) : (Int × Int × ByteArray × Int × (List T_Node)) → Ans
  | (q27, q28, q29, q30, q31) => .val (.tu [.sc (.int .i64 q27), .ag [.sc (.int .i64 q28), .sc (.string q29), .sc (.int .i64 q30), .ls true (r_Node true q31)]]) []
theorem F12_ok (a0_54 : Int) (a0_55 : ByteArray) (a0_56 : Int) (a0_57 : List T_Node) (a1_12 : Int) (r_ : (Int × Int × ByteArray × Int × (List T_Node))) (h_ : F12 a0_54 a0_55 a0_56 a0_57 a1_12 = some r_) : ev EE (.call 12 [.ag [.sc (.int .i64 a0_54), .sc (.string a0_55), .sc (.int .i64 a0_56), .ls true (r_Node true a0_57)], .sc (.int .i64 a1_12)] []) = some (F12_ans a0_54 a0_55 a0_56 a0_57 a1_12 r_) := by
  rw [ev_eq]
  simp only [F12] at h_
  obtain ⟨⟨r59, r60⟩, h1_, h_⟩ := bS_some h_
  try dsimp only at h_
  have h1_f := F20_ok a0_57 a1_12 _ h1_
  try simp [F20_ans] at h1_f
  by_cases h2_ : r60.length = a0_57.length
  · rw [if_pos h2_] at h_
    have h2_t : List.take a0_57.length r60 = r60 := List.take_of_length_le (Nat.le_of_eq h2_)
    cases h_
    simp (maxSteps := 2000000) (decide := true) [-getElem?_pos, ir12, h1_f, h2_, h2_t, F12_ans]
  · rw [if_neg h2_] at h_
    cases h_
def L13_0 : Nat → (List ByteArray) → Int → Int → Option ((List ByteArray) × Int)
  | 0, _, _, _ => none
  | n_ + 1, t0_11, t1_10, t5_8 =>
  if t5_8 < (t0_11.length : Int) then
    bS (F31 t1_10) fun r66 =>
    bS (getI t0_11 t5_8) fun e18 =>
    L13_0 n_ (List.set t0_11 t5_8.toNat r66) (IntKind.i64.wrap (t1_10 + 1)) (IntKind.i64.wrap (t5_8 + 1))
  else
    some (t0_11, t1_10)
def L13_0_ans (t0_11 : List ByteArray) (t1_10 : Int) (t5_8 : Int) : ((List ByteArray) × Int) → Ans
  | (t0_12, t1_11) => .out (.exit 0) { np := 0, tm := [(0, .rf 0 0 t0_12.length), (1, .sc (.int .i64 t1_11))], ar := [(0, .a false (strs t0_12))], bx := [] }
theorem L13_0_ok : ∀ (n_ : Nat) (t0_11 : List ByteArray) (t1_10 : Int) (t5_8 : Int) (r_ : ((List ByteArray) × Int)), L13_0 n_ t0_11 t1_10 t5_8 = some r_ → ev EE (.loop lp13_0 [0, 1, 5] [0, 1, 4] { np := 0, tm := [(0, .rf 0 0 t0_11.length), (1, .sc (.int .i64 t1_10)), (5, .sc (.int .i64 t5_8))], ar := [(0, .a false (strs t0_11))], bx := [] }) = some (L13_0_ans t0_11 t1_10 t5_8 r_) := by
  intro n_
  induction n_ with
  | zero => intro t0_11 t1_10 t5_8 r_ h_; simp only [L13_0] at h_; cases h_
  | succ n_ ih_ =>
    intro t0_11 t1_10 t5_8 r_ h_
    rw [ev_loop EE lp13_0.eq_1]
    simp only [L13_0] at h_
    by_cases h1_ : t5_8 < (t0_11.length : Int)
    · rw [if_pos h1_] at h_
      have h1_s := h1_
      try simp at h1_s
      obtain ⟨r66, h3_, h_⟩ := bS_some h_
      have h3_f := F31_ok t1_10 _ h3_
      try simp [F31_ans] at h3_f
      obtain ⟨e18, h4_, h_⟩ := bS_some h_
      obtain ⟨h4_a, h4_b, h4_c, h4_d⟩ := strs_getI  h4_
      try simp [-getElem?_pos] at h4_d
      have q_ := ih_ (List.set t0_11 t5_8.toNat r66) (IntKind.i64.wrap (t1_10 + 1)) (IntKind.i64.wrap (t5_8 + 1)) _ h_
      rcases r_ with ⟨t0_12, t1_11⟩
      all_goals (try simp [L13_0_ans] at q_)
      all_goals simp (maxSteps := 2000000) (decide := true) [-getElem?_pos, h1_, h1_s, h3_f, h4_a, h4_b, h4_c, h4_d, q_, L13_0_ans]
    · rw [if_neg h1_] at h_
      have h1_s := h1_
      try simp at h1_s
      cases h_
      simp (maxSteps := 2000000) (decide := true) [-getElem?_pos, h1_, h1_s, L13_0_ans]
/-- laws.markStringS -/
def F13 (a0_60 : List ByteArray) (a1_14 : Int) : Option (Int × (List ByteArray)) :=
  bS (L13_0 FU a0_60 a1_14 0) fun (r67, r68) =>
  some (r68, r67)
def F13_ans (a0_60 : List ByteArray) (a1_14 : Int) : (Int × (List ByteArray)) → Ans
  | (q32, q33) => .val (.tu [.sc (.int .i64 q32), .ls true (strs q33)]) []
theorem F13_ok (a0_60 : List ByteArray) (a1_14 : Int) (r_ : (Int × (List ByteArray))) (h_ : F13 a0_60 a1_14 = some r_) : ev EE (.call 13 [.ls true (strs a0_60), .sc (.int .i64 a1_14)] []) = some (F13_ans a0_60 a1_14 r_) := by
  rw [ev_eq]
  simp only [F13] at h_
  obtain ⟨⟨r67, r68⟩, h1_, h_⟩ := bS_some h_
  try dsimp only at h_
  have h1_f := L13_0_ok FU a0_60 a1_14 0 _ h1_
  try simp [L13_0_ans] at h1_f
  cases h_
  simp (maxSteps := 2000000) (decide := true) [-getElem?_pos, ir13, h1_f, F13_ans]
def L14_0 : Nat → (List ByteArray) → Int → Int → Option ((Int × Int) ⊕ Int)
  | 0, _, _, _ => none
  | n_ + 1, t0_13, t1_12, t5_9 =>
  if t5_9 < (t0_13.length : Int) then
    bS (getI t0_13 t5_9) fun e19 =>
    bS (F31 t1_12) fun r71 =>
    if e19 = r71 then
      L14_0 n_ t0_13 (IntKind.i64.wrap (t1_12 + 1)) (IntKind.i64.wrap (t5_9 + 1))
    else
      some (.inl (t1_12, (-1)))
  else
    some (.inr t1_12)
def L14_0_ans (t0_13 : List ByteArray) (t1_12 : Int) (t5_9 : Int) : (Int × Int) ⊕ Int → Ans
  | .inl (t1_13, t4_10) => .out .ret { np := 0, tm := [(1, .sc (.int .i64 t1_13)), (4, .sc (.int .i64 t4_10))], ar := [], bx := [] }
  | .inr t1_14 => .out (.exit 0) { np := 0, tm := [(1, .sc (.int .i64 t1_14))], ar := [], bx := [] }
theorem L14_0_ok : ∀ (n_ : Nat) (t0_13 : List ByteArray) (t1_12 : Int) (t5_9 : Int) (r_ : (Int × Int) ⊕ Int), L14_0 n_ t0_13 t1_12 t5_9 = some r_ → ev EE (.loop lp14_0 [0, 1, 5] [1, 4] { np := 0, tm := [(0, .ls false (strs t0_13)), (1, .sc (.int .i64 t1_12)), (5, .sc (.int .i64 t5_9))], ar := [], bx := [] }) = some (L14_0_ans t0_13 t1_12 t5_9 r_) := by
  intro n_
  induction n_ with
  | zero => intro t0_13 t1_12 t5_9 r_ h_; simp only [L14_0] at h_; cases h_
  | succ n_ ih_ =>
    intro t0_13 t1_12 t5_9 r_ h_
    rw [ev_loop EE lp14_0.eq_1]
    simp only [L14_0] at h_
    by_cases h1_ : t5_9 < (t0_13.length : Int)
    · rw [if_pos h1_] at h_
      have h1_s := h1_
      try simp at h1_s
      obtain ⟨e19, h3_, h_⟩ := bS_some h_
      obtain ⟨h3_a, h3_b, h3_c, h3_d⟩ := strs_getI  h3_
      try simp [-getElem?_pos] at h3_d
      obtain ⟨r71, h7_, h_⟩ := bS_some h_
      have h7_f := F31_ok t1_12 _ h7_
      try simp [F31_ans] at h7_f
      by_cases h8_ : e19 = r71
      · rw [if_pos h8_] at h_
        have q_ := ih_ t0_13 (IntKind.i64.wrap (t1_12 + 1)) (IntKind.i64.wrap (t5_9 + 1)) _ h_
        rcases r_ with ⟨t1_13, t4_10⟩ | t1_14
        all_goals (try simp [L14_0_ans] at q_)
        all_goals simp (maxSteps := 2000000) (decide := true) [-getElem?_pos, h1_, h1_s, h3_a, h3_b, h3_c, h3_d, h7_f, eq_true h8_, q_, L14_0_ans]
      · rw [if_neg h8_] at h_
        cases h_
        simp (maxSteps := 2000000) (decide := true) [-getElem?_pos, h1_, h1_s, h3_a, h3_b, h3_c, h3_d, h7_f, h8_, L14_0_ans]
    · rw [if_neg h1_] at h_
      have h1_s := h1_
      try simp at h1_s
      cases h_
      simp (maxSteps := 2000000) (decide := true) [-getElem?_pos, h1_, h1_s, L14_0_ans]
/-- laws.heldStringS -/
def F14 (a0_61 : List ByteArray) (a1_15 : Int) : Option Int :=
  bS (L14_0 FU a0_61 a1_15 0) fun r_ => match r_ with
  | .inl (r72, r73) =>
    some r73
  | .inr r74 =>
    some r74
def F14_ans (a0_61 : List ByteArray) (a1_15 : Int) : Int → Ans
  | q34 => .val (.sc (.int .i64 q34)) []
theorem F14_ok (a0_61 : List ByteArray) (a1_15 : Int) (r_ : Int) (h_ : F14 a0_61 a1_15 = some r_) : ev EE (.call 14 [.ls false (strs a0_61), .sc (.int .i64 a1_15)] []) = some (F14_ans a0_61 a1_15 r_) := by
  rw [ev_eq]
  simp only [F14] at h_
  obtain ⟨r_0, h1_, h_⟩ := bS_some h_
  have h1_f := L14_0_ok FU a0_61 a1_15 0 _ h1_
  rcases r_0 with ⟨r72, r73⟩ | r74
  · try dsimp only at h_
    try simp [L14_0_ans] at h1_f
    cases h_
    simp (maxSteps := 2000000) (decide := true) [-getElem?_pos, ir14, h1_f, F14_ans]
  · try dsimp only at h_
    try simp [L14_0_ans] at h1_f
    cases h_
    simp (maxSteps := 2000000) (decide := true) [-getElem?_pos, ir14, h1_f, F14_ans]
end Go.Pv
