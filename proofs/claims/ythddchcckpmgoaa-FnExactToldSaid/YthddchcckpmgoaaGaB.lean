/- Proof: the functions as Lean functions, second part. No condition. -/
import Derived.Test.YthddchcckpmgoaaGaA
set_option autoImplicit true
set_option relaxedAutoImplicit true
set_option linter.unusedSimpArgs false
set_option linter.unusedVariables false
namespace Go.Pv
set_option maxRecDepth 100000
set_option maxHeartbeats 40000000
set_option linter.unusedSimpArgs false
set_option linter.unusedVariables false
/-- laws.eqCodeS -/
def F91 (a0_113 : List T_Code) (a1_26 : List T_Code) : Option Bool :=
  if (a0_113.length : Int) = (a1_26.length : Int) then
    bS (L91_0 FU a0_113 a1_26 0) fun r_ => match r_ with
    | .inl r74 =>
      some r74
    | .inr () =>
      some true
  else
    some false
def F91_ans (a0_113 : List T_Code) (a1_26 : List T_Code) : Bool → Ans
  | q51 => .val (.sc (.bool q51)) []
theorem F91_ok (a0_113 : List T_Code) (a1_26 : List T_Code) (r_ : Bool) (h_ : F91 a0_113 a1_26 = some r_) : ev EE (.call 91 [.ls false (r_Code false a0_113), .ls false (r_Code false a1_26)] []) = some (F91_ans a0_113 a1_26 r_) := by
  rw [ev_eq]
  simp only [F91] at h_
  by_cases h1_ : (a0_113.length : Int) = (a1_26.length : Int)
  · rw [if_pos h1_] at h_
    have h1_s := h1_
    try simp at h1_s
    obtain ⟨r_2, h3_, h_⟩ := bS_some h_
    have h3_f := L91_0_ok FU a0_113 a1_26 0 _ h3_
    rcases r_2 with r74 | _
    · try dsimp only at h_
      try simp [L91_0_ans] at h3_f
      cases h_
      simp (maxSteps := 2000000) (decide := true) [-getElem?_pos, ir91, h1_, h1_s, h3_f, F91_ans]
    · try dsimp only at h_
      try simp [L91_0_ans] at h3_f
      cases h_
      simp (maxSteps := 2000000) (decide := true) [-getElem?_pos, ir91, h1_, h1_s, h3_f, F91_ans]
  · rw [if_neg h1_] at h_
    have h1_s := h1_
    try simp at h1_s
    cases h_
    simp (maxSteps := 2000000) (decide := true) [-getElem?_pos, ir91, h1_, h1_s, F91_ans]
def L64_0 : Nat → (List ByteArray) → (List ByteArray) → Int → Option (Bool ⊕ Unit)
  | 0, _, _, _ => none
  | n_ + 1, t0_11, t1_10, t5_6 =>
  if t5_6 < (t0_11.length : Int) then
    bS (getI t0_11 t5_6) fun e21 =>
    bS (getI t1_10 t5_6) fun e22 =>
    if e21 = e22 then
      L64_0 n_ t0_11 t1_10 (IntKind.i64.wrap (t5_6 + 1))
    else
      some (.inl false)
  else
    some (.inr ())
def L64_0_ans (t0_11 : List ByteArray) (t1_10 : List ByteArray) (t5_6 : Int) : Bool ⊕ Unit → Ans
  | .inl t4_12 => .out .ret { np := 0, tm := [(4, .sc (.bool t4_12))], ar := [], bx := [] }
  | .inr _ => .out (.exit 0) { np := 0, tm := [], ar := [], bx := [] }
theorem L64_0_ok : ∀ (n_ : Nat) (t0_11 : List ByteArray) (t1_10 : List ByteArray) (t5_6 : Int) (r_ : Bool ⊕ Unit), L64_0 n_ t0_11 t1_10 t5_6 = some r_ → ev EE (.loop lp64_0 [0, 1, 5] [4] { np := 0, tm := [(0, .ls false (strs t0_11)), (1, .ls false (strs t1_10)), (5, .sc (.int .i64 t5_6))], ar := [], bx := [] }) = some (L64_0_ans t0_11 t1_10 t5_6 r_) := by
  intro n_
  induction n_ with
  | zero => intro t0_11 t1_10 t5_6 r_ h_; simp only [L64_0] at h_; cases h_
  | succ n_ ih_ =>
    intro t0_11 t1_10 t5_6 r_ h_
    rw [ev_loop EE lp64_0.eq_1]
    simp only [L64_0] at h_
    by_cases h1_ : t5_6 < (t0_11.length : Int)
    · rw [if_pos h1_] at h_
      have h1_s := h1_
      try simp at h1_s
      obtain ⟨e21, h3_, h_⟩ := bS_some h_
      obtain ⟨h3_a, h3_b, h3_c, h3_d⟩ := strs_getI  h3_
      try simp [-getElem?_pos] at h3_d
      obtain ⟨e22, h7_, h_⟩ := bS_some h_
      obtain ⟨h7_a, h7_b, h7_c, h7_d⟩ := strs_getI  h7_
      try simp [-getElem?_pos] at h7_d
      by_cases h11_ : e21 = e22
      · rw [if_pos h11_] at h_
        have q_ := ih_ t0_11 t1_10 (IntKind.i64.wrap (t5_6 + 1)) _ h_
        rcases r_ with t4_12 | _
        all_goals (try simp [L64_0_ans] at q_)
        all_goals simp (maxSteps := 2000000) (decide := true) [-getElem?_pos, h1_, h1_s, h3_a, h3_b, h3_c, h3_d, h7_a, h7_b, h7_c, h7_d, h11_, q_, L64_0_ans]
      · rw [if_neg h11_] at h_
        cases h_
        simp (maxSteps := 2000000) (decide := true) [-getElem?_pos, h1_, h1_s, h3_a, h3_b, h3_c, h3_d, h7_a, h7_b, h7_c, h7_d, h11_, L64_0_ans]
    · rw [if_neg h1_] at h_
      have h1_s := h1_
      try simp at h1_s
      cases h_
      simp (maxSteps := 2000000) (decide := true) [-getElem?_pos, h1_, h1_s, L64_0_ans]
/-- laws.eqStringS -/
def F64 (a0_121 : List ByteArray) (a1_34 : List ByteArray) : Option Bool :=
  if (a0_121.length : Int) = (a1_34.length : Int) then
    bS (L64_0 FU a0_121 a1_34 0) fun r_ => match r_ with
    | .inl r76 =>
      some r76
    | .inr () =>
      some true
  else
    some false
def F64_ans (a0_121 : List ByteArray) (a1_34 : List ByteArray) : Bool → Ans
  | q52 => .val (.sc (.bool q52)) []
theorem F64_ok (a0_121 : List ByteArray) (a1_34 : List ByteArray) (r_ : Bool) (h_ : F64 a0_121 a1_34 = some r_) : ev EE (.call 64 [.ls false (strs a0_121), .ls false (strs a1_34)] []) = some (F64_ans a0_121 a1_34 r_) := by
  rw [ev_eq]
  simp only [F64] at h_
  by_cases h1_ : (a0_121.length : Int) = (a1_34.length : Int)
  · rw [if_pos h1_] at h_
    have h1_s := h1_
    try simp at h1_s
    obtain ⟨r_2, h3_, h_⟩ := bS_some h_
    have h3_f := L64_0_ok FU a0_121 a1_34 0 _ h3_
    rcases r_2 with r76 | _
    · try dsimp only at h_
      try simp [L64_0_ans] at h3_f
      cases h_
      simp (maxSteps := 2000000) (decide := true) [-getElem?_pos, ir64, h1_, h1_s, h3_f, F64_ans]
    · try dsimp only at h_
      try simp [L64_0_ans] at h3_f
      cases h_
      simp (maxSteps := 2000000) (decide := true) [-getElem?_pos, ir64, h1_, h1_s, h3_f, F64_ans]
  · rw [if_neg h1_] at h_
    have h1_s := h1_
    try simp at h1_s
    cases h_
    simp (maxSteps := 2000000) (decide := true) [-getElem?_pos, ir64, h1_, h1_s, F64_ans]
/-- laws.eqUnit -/
def F61 (a0_111 : List T_Code) (a0_112 : List ByteArray) (a1_24 : List T_Code) (a1_25 : List ByteArray) : Option Bool :=
  bS (F91 a0_111 a1_24) fun r75 =>
  if r75 = true then
    bS (F64 a0_112 a1_25) fun r77 =>
    if r77 = true then
      some true
    else
      some false
  else
    some false
def F61_ans (a0_111 : List T_Code) (a0_112 : List ByteArray) (a1_24 : List T_Code) (a1_25 : List ByteArray) : Bool → Ans
  | q53 => .val (.sc (.bool q53)) []
theorem F61_ok (a0_111 : List T_Code) (a0_112 : List ByteArray) (a1_24 : List T_Code) (a1_25 : List ByteArray) (r_ : Bool) (h_ : F61 a0_111 a0_112 a1_24 a1_25 = some r_) : ev EE (.call 61 [.ag [.ls false (r_Code false a0_111), .ls false (strs a0_112)], .ag [.ls false (r_Code false a1_24), .ls false (strs a1_25)]] []) = some (F61_ans a0_111 a0_112 a1_24 a1_25 r_) := by
  rw [ev_eq]
  simp only [F61] at h_
  obtain ⟨r75, h1_, h_⟩ := bS_some h_
  have h1_f := F91_ok a0_111 a1_24 _ h1_
  try simp [F91_ans] at h1_f
  by_cases h2_ : r75 = true
  · rw [if_pos h2_] at h_
    obtain ⟨r77, h3_, h_⟩ := bS_some h_
    have h3_f := F64_ok a0_112 a1_25 _ h3_
    try simp [F64_ans] at h3_f
    by_cases h4_ : r77 = true
    · rw [if_pos h4_] at h_
      cases h_
      simp (maxSteps := 2000000) (decide := true) [-getElem?_pos, ir61, h1_f, h2_, h3_f, h4_, F61_ans]
    · rw [if_neg h4_] at h_
      cases h_
      simp (maxSteps := 2000000) (decide := true) [-getElem?_pos, ir61, h1_f, h2_, h3_f, h4_, F61_ans]
  · rw [if_neg h2_] at h_
    cases h_
    simp (maxSteps := 2000000) (decide := true) [-getElem?_pos, ir61, h1_f, h2_, F61_ans]
/-- laws.eqSlab -/
def F13 (a0_122 : List Int) (a1_35 : List Int) : Option Bool :=
  bS (F12 a0_122 a1_35) fun r79 =>
  if r79 = true then
    some true
  else
    some false
def F13_ans (a0_122 : List Int) (a1_35 : List Int) : Bool → Ans
  | q54 => .val (.sc (.bool q54)) []
theorem F13_ok (a0_122 : List Int) (a1_35 : List Int) (r_ : Bool) (h_ : F13 a0_122 a1_35 = some r_) : ev EE (.call 13 [.ag [.ls false (ints a0_122)], .ag [.ls false (ints a1_35)]] []) = some (F13_ans a0_122 a1_35 r_) := by
  rw [ev_eq]
  simp only [F13] at h_
  obtain ⟨r79, h1_, h_⟩ := bS_some h_
  have h1_f := F12_ok a0_122 a1_35 _ h1_
  try simp [F12_ans] at h1_f
  by_cases h2_ : r79 = true
  · rw [if_pos h2_] at h_
    cases h_
    simp (maxSteps := 2000000) (decide := true) [-getElem?_pos, ir13, h1_f, h2_, F13_ans]
  · rw [if_neg h2_] at h_
    cases h_
    simp (maxSteps := 2000000) (decide := true) [-getElem?_pos, ir13, h1_f, h2_, F13_ans]
/-- laws.eqMarker -/
def F62 (a0_123 : Int) (a0_124 : List Int) (a0_125 : List Int) (a0_126 : Int) (a1_36 : Int) (a1_37 : List Int) (a1_38 : List Int) (a1_39 : Int) : Option Bool :=
  if a0_123 = a1_36 then
    bS (F12 a0_124 a1_37) fun r81 =>
    if r81 = true then
      bS (F12 a0_125 a1_38) fun r82 =>
      if r82 = true then
        if a0_126 = a1_39 then
          some true
        else
          some false
      else
        some false
    else
      some false
  else
    some false
def F62_ans (a0_123 : Int) (a0_124 : List Int) (a0_125 : List Int) (a0_126 : Int) (a1_36 : Int) (a1_37 : List Int) (a1_38 : List Int) (a1_39 : Int) : Bool → Ans
  | q55 => .val (.sc (.bool q55)) []
theorem F62_ok (a0_123 : Int) (a0_124 : List Int) (a0_125 : List Int) (a0_126 : Int) (a1_36 : Int) (a1_37 : List Int) (a1_38 : List Int) (a1_39 : Int) (r_ : Bool) (h_ : F62 a0_123 a0_124 a0_125 a0_126 a1_36 a1_37 a1_38 a1_39 = some r_) : ev EE (.call 62 [.ag [.sc (.int .i64 a0_123), .ls false (ints a0_124), .ls false (ints a0_125), .sc (.int .i64 a0_126)], .ag [.sc (.int .i64 a1_36), .ls false (ints a1_37), .ls false (ints a1_38), .sc (.int .i64 a1_39)]] []) = some (F62_ans a0_123 a0_124 a0_125 a0_126 a1_36 a1_37 a1_38 a1_39 r_) := by
  rw [ev_eq]
  simp only [F62] at h_
  by_cases h1_ : a0_123 = a1_36
  · rw [if_pos h1_] at h_
    obtain ⟨r81, h2_, h_⟩ := bS_some h_
    have h2_f := F12_ok a0_124 a1_37 _ h2_
    try simp [F12_ans] at h2_f
    by_cases h3_ : r81 = true
    · rw [if_pos h3_] at h_
      obtain ⟨r82, h4_, h_⟩ := bS_some h_
      have h4_f := F12_ok a0_125 a1_38 _ h4_
      try simp [F12_ans] at h4_f
      by_cases h5_ : r82 = true
      · rw [if_pos h5_] at h_
        by_cases h6_ : a0_126 = a1_39
        · rw [if_pos h6_] at h_
          cases h_
          simp (maxSteps := 2000000) (decide := true) [-getElem?_pos, ir62, h1_, h2_f, h3_, h4_f, h5_, h6_, F62_ans]
        · rw [if_neg h6_] at h_
          cases h_
          simp (maxSteps := 2000000) (decide := true) [-getElem?_pos, ir62, h1_, h2_f, h3_, h4_f, h5_, h6_, F62_ans]
      · rw [if_neg h5_] at h_
        cases h_
        simp (maxSteps := 2000000) (decide := true) [-getElem?_pos, ir62, h1_, h2_f, h3_, h4_f, h5_, F62_ans]
    · rw [if_neg h3_] at h_
      cases h_
      simp (maxSteps := 2000000) (decide := true) [-getElem?_pos, ir62, h1_, h2_f, h3_, F62_ans]
  · rw [if_neg h1_] at h_
    cases h_
    simp (maxSteps := 2000000) (decide := true) [-getElem?_pos, ir62, h1_, F62_ans]
/-- laws.eqFrame -/
def F92 (a0_128 : Int) (a0_129 : Int) (a0_130 : Int) (a1_41 : Int) (a1_42 : Int) (a1_43 : Int) : Option Bool :=
  if a0_128 = a1_41 then
    if a0_129 = a1_42 then
      if a0_130 = a1_43 then
        some true
      else
        some false
    else
      some false
  else
    some false
def F92_ans (a0_128 : Int) (a0_129 : Int) (a0_130 : Int) (a1_41 : Int) (a1_42 : Int) (a1_43 : Int) : Bool → Ans
  | q56 => .val (.sc (.bool q56)) []
theorem F92_ok (a0_128 : Int) (a0_129 : Int) (a0_130 : Int) (a1_41 : Int) (a1_42 : Int) (a1_43 : Int) (r_ : Bool) (h_ : F92 a0_128 a0_129 a0_130 a1_41 a1_42 a1_43 = some r_) : ev EE (.call 92 [.ag [.sc (.int .i64 a0_128), .sc (.int .i64 a0_129), .sc (.int .i64 a0_130)], .ag [.sc (.int .i64 a1_41), .sc (.int .i64 a1_42), .sc (.int .i64 a1_43)]] []) = some (F92_ans a0_128 a0_129 a0_130 a1_41 a1_42 a1_43 r_) := by
  rw [ev_eq]
  simp only [F92] at h_
  by_cases h1_ : a0_128 = a1_41
  · rw [if_pos h1_] at h_
    by_cases h2_ : a0_129 = a1_42
    · rw [if_pos h2_] at h_
      by_cases h3_ : a0_130 = a1_43
      · rw [if_pos h3_] at h_
        cases h_
        simp (maxSteps := 2000000) (decide := true) [-getElem?_pos, ir92, h1_, h2_, h3_, F92_ans]
      · rw [if_neg h3_] at h_
        cases h_
        simp (maxSteps := 2000000) (decide := true) [-getElem?_pos, ir92, h1_, h2_, h3_, F92_ans]
    · rw [if_neg h2_] at h_
      cases h_
      simp (maxSteps := 2000000) (decide := true) [-getElem?_pos, ir92, h1_, h2_, F92_ans]
  · rw [if_neg h1_] at h_
    cases h_
    simp (maxSteps := 2000000) (decide := true) [-getElem?_pos, ir92, h1_, F92_ans]
def L63_0 : Nat → (List T_Step) → (List T_Step) → Int → Option (Bool ⊕ Unit)
  | 0, _, _, _ => none
  | n_ + 1, t0_12, t1_11, t5_7 =>
  if t5_7 < (t0_12.length : Int) then
    bS (getI t0_12 t5_7) fun e23 =>
    bS (getI t1_11 t5_7) fun e24 =>
    bS (F92 e23.op_ e23.a_ e23.b_ e24.op_ e24.a_ e24.b_) fun r84 =>
    if r84 = true then
      L63_0 n_ t0_12 t1_11 (IntKind.i64.wrap (t5_7 + 1))
    else
      some (.inl false)
  else
    some (.inr ())
def L63_0_ans (t0_12 : List T_Step) (t1_11 : List T_Step) (t5_7 : Int) : Bool ⊕ Unit → Ans
  | .inl t4_13 => .out .ret { np := 0, tm := [(4, .sc (.bool t4_13))], ar := [], bx := [] }
  | .inr _ => .out (.exit 0) { np := 0, tm := [], ar := [], bx := [] }
theorem L63_0_ok : ∀ (n_ : Nat) (t0_12 : List T_Step) (t1_11 : List T_Step) (t5_7 : Int) (r_ : Bool ⊕ Unit), L63_0 n_ t0_12 t1_11 t5_7 = some r_ → ev EE (.loop lp63_0 [0, 1, 5] [4] { np := 0, tm := [(0, .ls false (r_Step t0_12)), (1, .ls false (r_Step t1_11)), (5, .sc (.int .i64 t5_7))], ar := [], bx := [] }) = some (L63_0_ans t0_12 t1_11 t5_7 r_) := by
  intro n_
  induction n_ with
  | zero => intro t0_12 t1_11 t5_7 r_ h_; simp only [L63_0] at h_; cases h_
  | succ n_ ih_ =>
    intro t0_12 t1_11 t5_7 r_ h_
    rw [ev_loop EE lp63_0.eq_1]
    simp only [L63_0] at h_
    by_cases h1_ : t5_7 < (t0_12.length : Int)
    · rw [if_pos h1_] at h_
      have h1_s := h1_
      try simp at h1_s
      obtain ⟨e23, h3_, h_⟩ := bS_some h_
      obtain ⟨h3_a, h3_b, h3_c, h3_d⟩ := r_Step_getI  h3_
      try simp [-getElem?_pos] at h3_d
      obtain ⟨e24, h7_, h_⟩ := bS_some h_
      obtain ⟨h7_a, h7_b, h7_c, h7_d⟩ := r_Step_getI  h7_
      try simp [-getElem?_pos] at h7_d
      obtain ⟨r84, h11_, h_⟩ := bS_some h_
      have h11_f := F92_ok e23.op_ e23.a_ e23.b_ e24.op_ e24.a_ e24.b_ _ h11_
      try simp [F92_ans] at h11_f
      by_cases h12_ : r84 = true
      · rw [if_pos h12_] at h_
        have q_ := ih_ t0_12 t1_11 (IntKind.i64.wrap (t5_7 + 1)) _ h_
        rcases r_ with t4_13 | _
        all_goals (try simp [L63_0_ans] at q_)
        all_goals simp (maxSteps := 2000000) (decide := true) [-getElem?_pos, h1_, h1_s, h3_a, h3_b, h3_c, h3_d, h7_a, h7_b, h7_c, h7_d, h11_f, h12_, q_, L63_0_ans]
      · rw [if_neg h12_] at h_
        cases h_
        simp (maxSteps := 2000000) (decide := true) [-getElem?_pos, h1_, h1_s, h3_a, h3_b, h3_c, h3_d, h7_a, h7_b, h7_c, h7_d, h11_f, h12_, L63_0_ans]
    · rw [if_neg h1_] at h_
      have h1_s := h1_
      try simp at h1_s
      cases h_
      simp (maxSteps := 2000000) (decide := true) [-getElem?_pos, h1_, h1_s, L63_0_ans]
/-- laws.eqFrameS -/
def F63 (a0_127 : List T_Step) (a1_40 : List T_Step) : Option Bool :=
  if (a0_127.length : Int) = (a1_40.length : Int) then
    bS (L63_0 FU a0_127 a1_40 0) fun r_ => match r_ with
    | .inl r85 =>
      some r85
    | .inr () =>
      some true
  else
    some false
def F63_ans (a0_127 : List T_Step) (a1_40 : List T_Step) : Bool → Ans
  | q57 => .val (.sc (.bool q57)) []
theorem F63_ok (a0_127 : List T_Step) (a1_40 : List T_Step) (r_ : Bool) (h_ : F63 a0_127 a1_40 = some r_) : ev EE (.call 63 [.ls false (r_Step a0_127), .ls false (r_Step a1_40)] []) = some (F63_ans a0_127 a1_40 r_) := by
  rw [ev_eq]
  simp only [F63] at h_
  by_cases h1_ : (a0_127.length : Int) = (a1_40.length : Int)
  · rw [if_pos h1_] at h_
    have h1_s := h1_
    try simp at h1_s
    obtain ⟨r_2, h3_, h_⟩ := bS_some h_
    have h3_f := L63_0_ok FU a0_127 a1_40 0 _ h3_
    rcases r_2 with r85 | _
    · try dsimp only at h_
      try simp [L63_0_ans] at h3_f
      cases h_
      simp (maxSteps := 2000000) (decide := true) [-getElem?_pos, ir63, h1_, h1_s, h3_f, F63_ans]
    · try dsimp only at h_
      try simp [L63_0_ans] at h3_f
      cases h_
      simp (maxSteps := 2000000) (decide := true) [-getElem?_pos, ir63, h1_, h1_s, h3_f, F63_ans]
  · rw [if_neg h1_] at h_
    have h1_s := h1_
    try simp at h1_s
    cases h_
    simp (maxSteps := 2000000) (decide := true) [-getElem?_pos, ir63, h1_, h1_s, F63_ans]
/-- laws.eqMachine -/
def F27 (a0_99 : List T_Code) (a0_100 : List ByteArray) (a0_101 : List Int) (a0_102 : Int) (a0_103 : List Int) (a0_104 : List Int) (a0_105 : Int) (a0_106 : List T_Step) (a0_107 : List Int) (a0_108 : List ByteArray) (a0_109 : Bool) (a0_110 : Int) (a1_12 : List T_Code) (a1_13 : List ByteArray) (a1_14 : List Int) (a1_15 : Int) (a1_16 : List Int) (a1_17 : List Int) (a1_18 : Int) (a1_19 : List T_Step) (a1_20 : List Int) (a1_21 : List ByteArray) (a1_22 : Bool) (a1_23 : Int) : Option Bool :=
  bS (F61 a0_99 a0_100 a1_12 a1_13) fun r78 =>
  if r78 = true then
    bS (F13 a0_101 a1_14) fun r80 =>
    if r80 = true then
      bS (F62 a0_102 a0_103 a0_104 a0_105 a1_15 a1_16 a1_17 a1_18) fun r83 =>
      if r83 = true then
        bS (F63 a0_106 a1_19) fun r86 =>
        if r86 = true then
          bS (F12 a0_107 a1_20) fun r87 =>
          if r87 = true then
            bS (F64 a0_108 a1_21) fun r88 =>
            if r88 = true then
              if a0_109 = a1_22 then
                if a0_110 = a1_23 then
                  some true
                else
                  some false
              else
                some false
            else
              some false
          else
            some false
        else
          some false
      else
        some false
    else
      some false
  else
    some false
def F27_ans (a0_99 : List T_Code) (a0_100 : List ByteArray) (a0_101 : List Int) (a0_102 : Int) (a0_103 : List Int) (a0_104 : List Int) (a0_105 : Int) (a0_106 : List T_Step) (a0_107 : List Int) (a0_108 : List ByteArray) (a0_109 : Bool) (a0_110 : Int) (a1_12 : List T_Code) (a1_13 : List ByteArray) (a1_14 : List Int) (a1_15 : Int) (a1_16 : List Int) (a1_17 : List Int) (a1_18 : Int) (a1_19 : List T_Step) (a1_20 : List Int) (a1_21 : List ByteArray) (a1_22 : Bool) (a1_23 : Int) : Bool → Ans
  | q58 => .val (.sc (.bool q58)) []
theorem F27_ok (a0_99 : List T_Code) (a0_100 : List ByteArray) (a0_101 : List Int) (a0_102 : Int) (a0_103 : List Int) (a0_104 : List Int) (a0_105 : Int) (a0_106 : List T_Step) (a0_107 : List Int) (a0_108 : List ByteArray) (a0_109 : Bool) (a0_110 : Int) (a1_12 : List T_Code) (a1_13 : List ByteArray) (a1_14 : List Int) (a1_15 : Int) (a1_16 : List Int) (a1_17 : List Int) (a1_18 : Int) (a1_19 : List T_Step) (a1_20 : List Int) (a1_21 : List ByteArray) (a1_22 : Bool) (a1_23 : Int) (r_ : Bool) (h_ : F27 a0_99 a0_100 a0_101 a0_102 a0_103 a0_104 a0_105 a0_106 a0_107 a0_108 a0_109 a0_110 a1_12 a1_13 a1_14 a1_15 a1_16 a1_17 a1_18 a1_19 a1_20 a1_21 a1_22 a1_23 = some r_) : ev EE (.call 27 [.ag [.ls false (r_Code false a0_99), .ls false (strs a0_100), .ls false (ints a0_101), .sc (.int .i64 a0_102), .ls false (ints a0_103), .ls false (ints a0_104), .sc (.int .i64 a0_105), .ls false (r_Step a0_106), .ls false (ints a0_107), .ls false (strs a0_108), .sc (.bool a0_109), .sc (.int .i64 a0_110)], .ag [.ls false (r_Code false a1_12), .ls false (strs a1_13), .ls false (ints a1_14), .sc (.int .i64 a1_15), .ls false (ints a1_16), .ls false (ints a1_17), .sc (.int .i64 a1_18), .ls false (r_Step a1_19), .ls false (ints a1_20), .ls false (strs a1_21), .sc (.bool a1_22), .sc (.int .i64 a1_23)]] []) = some (F27_ans a0_99 a0_100 a0_101 a0_102 a0_103 a0_104 a0_105 a0_106 a0_107 a0_108 a0_109 a0_110 a1_12 a1_13 a1_14 a1_15 a1_16 a1_17 a1_18 a1_19 a1_20 a1_21 a1_22 a1_23 r_) := by
  rw [ev_eq]
  simp only [F27] at h_
  obtain ⟨r78, h1_, h_⟩ := bS_some h_
  have h1_f := F61_ok a0_99 a0_100 a1_12 a1_13 _ h1_
  try simp [F61_ans] at h1_f
  by_cases h2_ : r78 = true
  · rw [if_pos h2_] at h_
    obtain ⟨r80, h3_, h_⟩ := bS_some h_
    have h3_f := F13_ok a0_101 a1_14 _ h3_
    try simp [F13_ans] at h3_f
    by_cases h4_ : r80 = true
    · rw [if_pos h4_] at h_
      obtain ⟨r83, h5_, h_⟩ := bS_some h_
      have h5_f := F62_ok a0_102 a0_103 a0_104 a0_105 a1_15 a1_16 a1_17 a1_18 _ h5_
      try simp [F62_ans] at h5_f
      by_cases h6_ : r83 = true
      · rw [if_pos h6_] at h_
        obtain ⟨r86, h7_, h_⟩ := bS_some h_
        have h7_f := F63_ok a0_106 a1_19 _ h7_
        try simp [F63_ans] at h7_f
        by_cases h8_ : r86 = true
        · rw [if_pos h8_] at h_
          obtain ⟨r87, h9_, h_⟩ := bS_some h_
          have h9_f := F12_ok a0_107 a1_20 _ h9_
          try simp [F12_ans] at h9_f
          by_cases h10_ : r87 = true
          · rw [if_pos h10_] at h_
            obtain ⟨r88, h11_, h_⟩ := bS_some h_
            have h11_f := F64_ok a0_108 a1_21 _ h11_
            try simp [F64_ans] at h11_f
            by_cases h12_ : r88 = true
            · rw [if_pos h12_] at h_
              by_cases h13_ : a0_109 = a1_22
              · rw [if_pos h13_] at h_
                by_cases h14_ : a0_110 = a1_23
                · rw [if_pos h14_] at h_
                  cases h_
                  simp (maxSteps := 2000000) (decide := true) [-getElem?_pos, ir27, h1_f, h2_, h3_f, h4_, h5_f, h6_, h7_f, h8_, h9_f, h10_, h11_f, h12_, h13_, h14_, F27_ans]
                · rw [if_neg h14_] at h_
                  cases h_
                  simp (maxSteps := 2000000) (decide := true) [-getElem?_pos, ir27, h1_f, h2_, h3_f, h4_, h5_f, h6_, h7_f, h8_, h9_f, h10_, h11_f, h12_, h13_, h14_, F27_ans]
              · rw [if_neg h13_] at h_
                cases h_
                simp (maxSteps := 2000000) (decide := true) [-getElem?_pos, ir27, h1_f, h2_, h3_f, h4_, h5_f, h6_, h7_f, h8_, h9_f, h10_, h11_f, h12_, h13_, F27_ans]
            · rw [if_neg h12_] at h_
              cases h_
              simp (maxSteps := 2000000) (decide := true) [-getElem?_pos, ir27, h1_f, h2_, h3_f, h4_, h5_f, h6_, h7_f, h8_, h9_f, h10_, h11_f, h12_, F27_ans]
          · rw [if_neg h10_] at h_
            cases h_
            simp (maxSteps := 2000000) (decide := true) [-getElem?_pos, ir27, h1_f, h2_, h3_f, h4_, h5_f, h6_, h7_f, h8_, h9_f, h10_, F27_ans]
        · rw [if_neg h8_] at h_
          cases h_
          simp (maxSteps := 2000000) (decide := true) [-getElem?_pos, ir27, h1_f, h2_, h3_f, h4_, h5_f, h6_, h7_f, h8_, F27_ans]
      · rw [if_neg h6_] at h_
        cases h_
        simp (maxSteps := 2000000) (decide := true) [-getElem?_pos, ir27, h1_f, h2_, h3_f, h4_, h5_f, h6_, F27_ans]
    · rw [if_neg h4_] at h_
      cases h_
      simp (maxSteps := 2000000) (decide := true) [-getElem?_pos, ir27, h1_f, h2_, h3_f, h4_, F27_ans]
  · rw [if_neg h2_] at h_
    cases h_
    simp (maxSteps := 2000000) (decide := true) [-getElem?_pos, ir27, h1_f, h2_, F27_ans]
def L112_0 : Nat → (List T_Step) → Int → Int → Option ((List T_Step) × Int)
  | 0, _, _, _ => none
  | n_ + 1, t0_14, t1_13, t5_9 =>
  if t5_9 < (t0_14.length : Int) then
    bS (getI t0_14 t5_9) fun e28 =>
    bS (getI (List.set t0_14 t5_9.toNat (⟨t1_13, e28.a_, e28.b_⟩ : T_Step)) t5_9) fun e29 =>
    bS (getI (List.set (List.set t0_14 t5_9.toNat (⟨t1_13, e28.a_, e28.b_⟩ : T_Step)) t5_9.toNat (⟨e29.op_, IntKind.i64.wrap (t1_13 + 1), e29.b_⟩ : T_Step)) t5_9) fun e30 =>
    L112_0 n_ (List.set (List.set (List.set t0_14 t5_9.toNat (⟨t1_13, e28.a_, e28.b_⟩ : T_Step)) t5_9.toNat (⟨e29.op_, IntKind.i64.wrap (t1_13 + 1), e29.b_⟩ : T_Step)) t5_9.toNat (⟨e30.op_, e30.a_, IntKind.i64.wrap ((IntKind.i64.wrap (t1_13 + 1)) + 1)⟩ : T_Step)) (IntKind.i64.wrap ((IntKind.i64.wrap ((IntKind.i64.wrap (t1_13 + 1)) + 1)) + 1)) (IntKind.i64.wrap (t5_9 + 1))
  else
    some (t0_14, t1_13)
def L112_0_ans (t0_14 : List T_Step) (t1_13 : Int) (t5_9 : Int) : ((List T_Step) × Int) → Ans
  | (t0_15, t1_14) => .out (.exit 0) { np := 0, tm := [(0, .rf 0 0 t0_15.length), (1, .sc (.int .i64 t1_14))], ar := [(0, .a false (r_Step t0_15))], bx := [] }
theorem L112_0_ok : ∀ (n_ : Nat) (t0_14 : List T_Step) (t1_13 : Int) (t5_9 : Int) (r_ : ((List T_Step) × Int)), L112_0 n_ t0_14 t1_13 t5_9 = some r_ → ev EE (.loop lp112_0 [0, 1, 5] [0, 1, 4] { np := 0, tm := [(0, .rf 0 0 t0_14.length), (1, .sc (.int .i64 t1_13)), (5, .sc (.int .i64 t5_9))], ar := [(0, .a false (r_Step t0_14))], bx := [] }) = some (L112_0_ans t0_14 t1_13 t5_9 r_) := by
  intro n_
  induction n_ with
  | zero => intro t0_14 t1_13 t5_9 r_ h_; simp only [L112_0] at h_; cases h_
  | succ n_ ih_ =>
    intro t0_14 t1_13 t5_9 r_ h_
    rw [ev_loop EE lp112_0.eq_1]
    simp only [L112_0] at h_
    by_cases h1_ : t5_9 < (t0_14.length : Int)
    · rw [if_pos h1_] at h_
      have h1_s := h1_
      try simp at h1_s
      obtain ⟨e28, h3_, h_⟩ := bS_some h_
      obtain ⟨h3_a, h3_b, h3_c, h3_d⟩ := r_Step_getI  h3_
      try simp [-getElem?_pos] at h3_d
      obtain ⟨e29, h7_, h_⟩ := bS_some h_
      obtain ⟨h7_a, h7_b, h7_c, h7_d⟩ := r_Step_getI  h7_
      try simp [-getElem?_pos] at h7_d
      obtain ⟨e30, h11_, h_⟩ := bS_some h_
      obtain ⟨h11_a, h11_b, h11_c, h11_d⟩ := r_Step_getI  h11_
      try simp [-getElem?_pos] at h11_d
      have q_ := ih_ (List.set (List.set (List.set t0_14 t5_9.toNat (⟨t1_13, e28.a_, e28.b_⟩ : T_Step)) t5_9.toNat (⟨e29.op_, IntKind.i64.wrap (t1_13 + 1), e29.b_⟩ : T_Step)) t5_9.toNat (⟨e30.op_, e30.a_, IntKind.i64.wrap ((IntKind.i64.wrap (t1_13 + 1)) + 1)⟩ : T_Step)) (IntKind.i64.wrap ((IntKind.i64.wrap ((IntKind.i64.wrap (t1_13 + 1)) + 1)) + 1)) (IntKind.i64.wrap (t5_9 + 1)) _ h_
      rcases r_ with ⟨t0_15, t1_14⟩
      all_goals (try simp [L112_0_ans] at q_)
      all_goals simp (maxSteps := 2000000) (decide := true) [-getElem?_pos, h1_, h1_s, h3_a, h3_b, h3_c, h3_d, h7_a, h7_b, h7_c, h7_d, h11_a, h11_b, h11_c, h11_d, q_, L112_0_ans]
    · rw [if_neg h1_] at h_
      have h1_s := h1_
      try simp at h1_s
      cases h_
      simp (maxSteps := 2000000) (decide := true) [-getElem?_pos, h1_, h1_s, L112_0_ans]
/-- laws.markStepS -/
def F112 (a0_146 : List T_Step) (a1_47 : Int) : Option (Int × (List T_Step)) :=
  bS (L112_0 FU a0_146 a1_47 0) fun (r90, r91) =>
  some (r91, r90)
def F112_ans (a0_146 : List T_Step) (a1_47 : Int) : (Int × (List T_Step)) → Ans
  | (q59, q60) => .val (.tu [.sc (.int .i64 q59), .ls true (r_Step q60)]) []
theorem F112_ok (a0_146 : List T_Step) (a1_47 : Int) (r_ : (Int × (List T_Step))) (h_ : F112 a0_146 a1_47 = some r_) : ev EE (.call 112 [.ls true (r_Step a0_146), .sc (.int .i64 a1_47)] []) = some (F112_ans a0_146 a1_47 r_) := by
  rw [ev_eq]
  simp only [F112] at h_
  obtain ⟨⟨r90, r91⟩, h1_, h_⟩ := bS_some h_
  try dsimp only at h_
  have h1_f := L112_0_ok FU a0_146 a1_47 0 _ h1_
  try simp [L112_0_ans] at h1_f
  cases h_
  simp (maxSteps := 2000000) (decide := true) [-getElem?_pos, ir112, h1_f, F112_ans]
def L93_0 : Nat → (List T_Code) → Int → Int → Option ((List T_Code) × Int)
  | 0, _, _, _ => none
  | n_ + 1, t0_13, t1_12, t5_8 =>
  if t5_8 < (t0_13.length : Int) then
    bS (getI t0_13 t5_8) fun e25 =>
    bS (getI (List.set t0_13 t5_8.toNat (⟨t1_12, e25.vars_, e25.steps_⟩ : T_Code)) t5_8) fun e26 =>
    bS (getI (List.set (List.set t0_13 t5_8.toNat (⟨t1_12, e25.vars_, e25.steps_⟩ : T_Code)) t5_8.toNat (⟨e26.names_, IntKind.i64.wrap (t1_12 + 1), e26.steps_⟩ : T_Code)) t5_8) fun e27 =>
    bS (F112 e27.steps_ (IntKind.i64.wrap ((IntKind.i64.wrap (t1_12 + 1)) + 1))) fun (r92, r93) =>
    if r93.length = e27.steps_.length then
    L93_0 n_ (List.set (List.set (List.set t0_13 t5_8.toNat (⟨t1_12, e25.vars_, e25.steps_⟩ : T_Code)) t5_8.toNat (⟨e26.names_, IntKind.i64.wrap (t1_12 + 1), e26.steps_⟩ : T_Code)) t5_8.toNat (⟨e27.names_, e27.vars_, r93⟩ : T_Code)) r92 (IntKind.i64.wrap (t5_8 + 1))
    else none
  else
    some (t0_13, t1_12)
def L93_0_ans (t0_13 : List T_Code) (t1_12 : Int) (t5_8 : Int) : ((List T_Code) × Int) → Ans
  | (t0_16, t1_15) => .out (.exit 0) { np := 0, tm := [(0, .rf 0 0 t0_16.length), (1, .sc (.int .i64 t1_15))], ar := [(0, .a false (r_Code true t0_16))], bx := [] }
theorem L93_0_ok : ∀ (n_ : Nat) (t0_13 : List T_Code) (t1_12 : Int) (t5_8 : Int) (r_ : ((List T_Code) × Int)), L93_0 n_ t0_13 t1_12 t5_8 = some r_ → ev EE (.loop lp93_0 [0, 1, 5] [0, 1, 4] { np := 0, tm := [(0, .rf 0 0 t0_13.length), (1, .sc (.int .i64 t1_12)), (5, .sc (.int .i64 t5_8))], ar := [(0, .a false (r_Code true t0_13))], bx := [] }) = some (L93_0_ans t0_13 t1_12 t5_8 r_) := by
  intro n_
  induction n_ with
  | zero => intro t0_13 t1_12 t5_8 r_ h_; simp only [L93_0] at h_; cases h_
  | succ n_ ih_ =>
    intro t0_13 t1_12 t5_8 r_ h_
    rw [ev_loop EE lp93_0.eq_1]
    simp only [L93_0] at h_
    by_cases h1_ : t5_8 < (t0_13.length : Int)
    · rw [if_pos h1_] at h_
      have h1_s := h1_
      try simp at h1_s
      obtain ⟨e25, h3_, h_⟩ := bS_some h_
      obtain ⟨h3_a, h3_b, h3_c, h3_d⟩ := r_Code_getI (o := true)  h3_
      try simp [-getElem?_pos] at h3_d
      obtain ⟨e26, h7_, h_⟩ := bS_some h_
      obtain ⟨h7_a, h7_b, h7_c, h7_d⟩ := r_Code_getI (o := true)  h7_
      try simp [-getElem?_pos] at h7_d
      obtain ⟨e27, h11_, h_⟩ := bS_some h_
      obtain ⟨h11_a, h11_b, h11_c, h11_d⟩ := r_Code_getI (o := true)  h11_
      try simp [-getElem?_pos] at h11_d
      obtain ⟨⟨r92, r93⟩, h15_, h_⟩ := bS_some h_
      try dsimp only at h_
      have h15_f := F112_ok e27.steps_ (IntKind.i64.wrap ((IntKind.i64.wrap (t1_12 + 1)) + 1)) _ h15_
      try simp [F112_ans] at h15_f
      by_cases h16_ : r93.length = e27.steps_.length
      · rw [if_pos h16_] at h_
        have h16_t : List.take e27.steps_.length r93 = r93 := List.take_of_length_le (Nat.le_of_eq h16_)
        have q_ := ih_ (List.set (List.set (List.set t0_13 t5_8.toNat (⟨t1_12, e25.vars_, e25.steps_⟩ : T_Code)) t5_8.toNat (⟨e26.names_, IntKind.i64.wrap (t1_12 + 1), e26.steps_⟩ : T_Code)) t5_8.toNat (⟨e27.names_, e27.vars_, r93⟩ : T_Code)) r92 (IntKind.i64.wrap (t5_8 + 1)) _ h_
        rcases r_ with ⟨t0_16, t1_15⟩
        all_goals (try simp [L93_0_ans] at q_)
        all_goals simp (maxSteps := 2000000) (decide := true) [-getElem?_pos, h1_, h1_s, h3_a, h3_b, h3_c, h3_d, h7_a, h7_b, h7_c, h7_d, h11_a, h11_b, h11_c, h11_d, h15_f, h16_, h16_t, q_, L93_0_ans]
      · rw [if_neg h16_] at h_
        cases h_
    · rw [if_neg h1_] at h_
      have h1_s := h1_
      try simp at h1_s
      cases h_
      simp (maxSteps := 2000000) (decide := true) [-getElem?_pos, h1_, h1_s, L93_0_ans]
/-- laws.markCodeS -/
def F93 (a0_145 : List T_Code) (a1_46 : Int) : Option (Int × (List T_Code)) :=
  bS (L93_0 FU a0_145 a1_46 0) fun (r94, r95) =>
  some (r95, r94)
def F93_ans (a0_145 : List T_Code) (a1_46 : Int) : (Int × (List T_Code)) → Ans
  | (q61, q62) => .val (.tu [.sc (.int .i64 q61), .ls true (r_Code true q62)]) []
theorem F93_ok (a0_145 : List T_Code) (a1_46 : Int) (r_ : (Int × (List T_Code))) (h_ : F93 a0_145 a1_46 = some r_) : ev EE (.call 93 [.ls true (r_Code true a0_145), .sc (.int .i64 a1_46)] []) = some (F93_ans a0_145 a1_46 r_) := by
  rw [ev_eq]
  simp only [F93] at h_
  obtain ⟨⟨r94, r95⟩, h1_, h_⟩ := bS_some h_
  try dsimp only at h_
  have h1_f := L93_0_ok FU a0_145 a1_46 0 _ h1_
  try simp [L93_0_ans] at h1_f
  cases h_
  simp (maxSteps := 2000000) (decide := true) [-getElem?_pos, ir93, h1_f, F93_ans]
def L94_0 : Nat → Int → ByteArray → Option ByteArray
  | 0, _, _ => none
  | n_ + 1, t0_18, t3_15 =>
  if 0 < t0_18 then
    if (⟨#[UInt8.ofNat (IntKind.u8.wrap (IntKind.i64.wrap (48 + (Int.tmod t0_18 10)))).toNat]⟩ : ByteArray).size + t3_15.size ≤ 9223372036854775807 then
    L94_0 n_ (IntKind.i64.wrap (Int.tdiv t0_18 10)) ((⟨#[UInt8.ofNat (IntKind.u8.wrap (IntKind.i64.wrap (48 + (Int.tmod t0_18 10)))).toNat]⟩ : ByteArray) ++ t3_15)
    else none
  else
    some t3_15
def L94_0_ans (t0_18 : Int) (t3_15 : ByteArray) : ByteArray → Ans
  | t3_16 => .out (.exit 0) { np := 0, tm := [(3, .sc (.string t3_16))], ar := [], bx := [] }
theorem L94_0_ok : ∀ (n_ : Nat) (t0_18 : Int) (t3_15 : ByteArray) (r_ : ByteArray), L94_0 n_ t0_18 t3_15 = some r_ → ev EE (.loop lp94_0 [0, 3] [2, 3] { np := 0, tm := [(0, .sc (.int .i64 t0_18)), (3, .sc (.string t3_15))], ar := [], bx := [] }) = some (L94_0_ans t0_18 t3_15 r_) := by
  intro n_
  induction n_ with
  | zero => intro t0_18 t3_15 r_ h_; simp only [L94_0] at h_; cases h_
  | succ n_ ih_ =>
    intro t0_18 t3_15 r_ h_
    rw [ev_loop EE lp94_0.eq_1]
    simp only [L94_0] at h_
    by_cases h1_ : 0 < t0_18
    · rw [if_pos h1_] at h_
      by_cases h2_ : (⟨#[UInt8.ofNat (IntKind.u8.wrap (IntKind.i64.wrap (48 + (Int.tmod t0_18 10)))).toNat]⟩ : ByteArray).size + t3_15.size ≤ 9223372036854775807
      · rw [if_pos h2_] at h_
        have q_ := ih_ (IntKind.i64.wrap (Int.tdiv t0_18 10)) ((⟨#[UInt8.ofNat (IntKind.u8.wrap (IntKind.i64.wrap (48 + (Int.tmod t0_18 10)))).toNat]⟩ : ByteArray) ++ t3_15) _ h_
        rcases r_ with t3_16
        all_goals (try simp [L94_0_ans] at q_)
        all_goals simp (maxSteps := 2000000) (decide := true) [-getElem?_pos, h1_, h2_, q_, L94_0_ans]
      · rw [if_neg h2_] at h_
        cases h_
    · rw [if_neg h1_] at h_
      cases h_
      simp (maxSteps := 2000000) (decide := true) [-getElem?_pos, h1_, L94_0_ans]
/-- laws.markText -/
def F94 (a0_148 : Int) : Option ByteArray :=
  if a0_148 ≤ 0 then
    some (⟨#[109, 48]⟩ : ByteArray)
  else
  bS (L94_0 FU a0_148 (⟨#[]⟩ : ByteArray)) fun r98 =>
  if (⟨#[109]⟩ : ByteArray).size + r98.size ≤ 9223372036854775807 then
  some ((⟨#[109]⟩ : ByteArray) ++ r98)
  else none
def F94_ans (a0_148 : Int) : ByteArray → Ans
  | q63 => .val (.sc (.string q63)) []
theorem F94_ok (a0_148 : Int) (r_ : ByteArray) (h_ : F94 a0_148 = some r_) : ev EE (.call 94 [.sc (.int .i64 a0_148)] []) = some (F94_ans a0_148 r_) := by
  rw [ev_eq]
  simp only [F94] at h_
  by_cases h1_ : a0_148 ≤ 0
  · rw [if_pos h1_] at h_
    cases h_
    simp (maxSteps := 2000000) (decide := true) [-getElem?_pos, ir94, h1_, F94_ans]
  · rw [if_neg h1_] at h_
    obtain ⟨r98, h2_, h_⟩ := bS_some h_
    have h2_f := L94_0_ok FU a0_148 (⟨#[]⟩ : ByteArray) _ h2_
    try simp [L94_0_ans] at h2_f
    by_cases h3_ : (⟨#[109]⟩ : ByteArray).size + r98.size ≤ 9223372036854775807
    · rw [if_pos h3_] at h_
      cases h_
      simp (maxSteps := 2000000) (decide := true) [-getElem?_pos, ir94, h1_, h2_f, h3_, F94_ans]
    · rw [if_neg h3_] at h_
      cases h_
def L68_0 : Nat → (List ByteArray) → Int → Int → Option ((List ByteArray) × Int)
  | 0, _, _, _ => none
  | n_ + 1, t0_17, t1_16, t5_10 =>
  if t5_10 < (t0_17.length : Int) then
    bS (F94 t1_16) fun r99 =>
    bS (getI t0_17 t5_10) fun e31 =>
    L68_0 n_ (List.set t0_17 t5_10.toNat r99) (IntKind.i64.wrap (t1_16 + 1)) (IntKind.i64.wrap (t5_10 + 1))
  else
    some (t0_17, t1_16)
def L68_0_ans (t0_17 : List ByteArray) (t1_16 : Int) (t5_10 : Int) : ((List ByteArray) × Int) → Ans
  | (t0_19, t1_17) => .out (.exit 0) { np := 0, tm := [(0, .rf 0 0 t0_19.length), (1, .sc (.int .i64 t1_17))], ar := [(0, .a false (strs t0_19))], bx := [] }
theorem L68_0_ok : ∀ (n_ : Nat) (t0_17 : List ByteArray) (t1_16 : Int) (t5_10 : Int) (r_ : ((List ByteArray) × Int)), L68_0 n_ t0_17 t1_16 t5_10 = some r_ → ev EE (.loop lp68_0 [0, 1, 5] [0, 1, 4] { np := 0, tm := [(0, .rf 0 0 t0_17.length), (1, .sc (.int .i64 t1_16)), (5, .sc (.int .i64 t5_10))], ar := [(0, .a false (strs t0_17))], bx := [] }) = some (L68_0_ans t0_17 t1_16 t5_10 r_) := by
  intro n_
  induction n_ with
  | zero => intro t0_17 t1_16 t5_10 r_ h_; simp only [L68_0] at h_; cases h_
  | succ n_ ih_ =>
    intro t0_17 t1_16 t5_10 r_ h_
    rw [ev_loop EE lp68_0.eq_1]
    simp only [L68_0] at h_
    by_cases h1_ : t5_10 < (t0_17.length : Int)
    · rw [if_pos h1_] at h_
      have h1_s := h1_
      try simp at h1_s
      obtain ⟨r99, h3_, h_⟩ := bS_some h_
      have h3_f := F94_ok t1_16 _ h3_
      try simp [F94_ans] at h3_f
      obtain ⟨e31, h4_, h_⟩ := bS_some h_
      obtain ⟨h4_a, h4_b, h4_c, h4_d⟩ := strs_getI  h4_
      try simp [-getElem?_pos] at h4_d
      have q_ := ih_ (List.set t0_17 t5_10.toNat r99) (IntKind.i64.wrap (t1_16 + 1)) (IntKind.i64.wrap (t5_10 + 1)) _ h_
      rcases r_ with ⟨t0_19, t1_17⟩
      all_goals (try simp [L68_0_ans] at q_)
      all_goals simp (maxSteps := 2000000) (decide := true) [-getElem?_pos, h1_, h1_s, h3_f, h4_a, h4_b, h4_c, h4_d, q_, L68_0_ans]
    · rw [if_neg h1_] at h_
      have h1_s := h1_
      try simp at h1_s
      cases h_
      simp (maxSteps := 2000000) (decide := true) [-getElem?_pos, h1_, h1_s, L68_0_ans]
end Go.Pv

namespace Go.Pv
set_option maxRecDepth 100000
set_option maxHeartbeats 40000000
set_option linter.unusedSimpArgs false
set_option linter.unusedVariables false
/-- laws.markStringS -/
def F68 (a0_147 : List ByteArray) (a1_48 : Int) : Option (Int × (List ByteArray)) :=
  bS (L68_0 FU a0_147 a1_48 0) fun (r100, r101) =>
  some (r101, r100)
def F68_ans (a0_147 : List ByteArray) (a1_48 : Int) : (Int × (List ByteArray)) → Ans
  | (q64, q65) => .val (.tu [.sc (.int .i64 q64), .ls true (strs q65)]) []
theorem F68_ok (a0_147 : List ByteArray) (a1_48 : Int) (r_ : (Int × (List ByteArray))) (h_ : F68 a0_147 a1_48 = some r_) : ev EE (.call 68 [.ls true (strs a0_147), .sc (.int .i64 a1_48)] []) = some (F68_ans a0_147 a1_48 r_) := by
  rw [ev_eq]
  simp only [F68] at h_
  obtain ⟨⟨r100, r101⟩, h1_, h_⟩ := bS_some h_
  try dsimp only at h_
  have h1_f := L68_0_ok FU a0_147 a1_48 0 _ h1_
  try simp [L68_0_ans] at h1_f
  cases h_
  simp (maxSteps := 2000000) (decide := true) [-getElem?_pos, ir68, h1_f, F68_ans]
/-- laws.markUnit -/
def F65 (a0_143 : List T_Code) (a0_144 : List ByteArray) (a1_45 : Int) : Option (Int × (List T_Code) × (List ByteArray)) :=
  bS (F93 a0_143 a1_45) fun (r96, r97) =>
  if r97.length = a0_143.length then
  bS (F68 a0_144 r96) fun (r102, r103) =>
  if r103.length = a0_144.length then
  some (r102, r97, r103)
  else none
  else none
def F65_ans (a0_143 : List T_Code) (a0_144 : List ByteArray) (a1_45 : Int) : (Int × (List T_Code) × (List ByteArray)) → Ans
  | (q66, q67, q68) => .val (.tu [.sc (.int .i64 q66), .ag [.ls true (r_Code true q67), .ls true (strs q68)]]) []
theorem F65_ok (a0_143 : List T_Code) (a0_144 : List ByteArray) (a1_45 : Int) (r_ : (Int × (List T_Code) × (List ByteArray))) (h_ : F65 a0_143 a0_144 a1_45 = some r_) : ev EE (.call 65 [.ag [.ls true (r_Code true a0_143), .ls true (strs a0_144)], .sc (.int .i64 a1_45)] []) = some (F65_ans a0_143 a0_144 a1_45 r_) := by
  rw [ev_eq]
  simp only [F65] at h_
  obtain ⟨⟨r96, r97⟩, h1_, h_⟩ := bS_some h_
  try dsimp only at h_
  have h1_f := F93_ok a0_143 a1_45 _ h1_
  try simp [F93_ans] at h1_f
  by_cases h2_ : r97.length = a0_143.length
  · rw [if_pos h2_] at h_
    have h2_t : List.take a0_143.length r97 = r97 := List.take_of_length_le (Nat.le_of_eq h2_)
    obtain ⟨⟨r102, r103⟩, h4_, h_⟩ := bS_some h_
    try dsimp only at h_
    have h4_f := F68_ok a0_144 r96 _ h4_
    try simp [F68_ans, h2_, h2_t] at h4_f
    by_cases h5_ : r103.length = a0_144.length
    · rw [if_pos h5_] at h_
      have h5_t : List.take a0_144.length r103 = r103 := List.take_of_length_le (Nat.le_of_eq h5_)
      cases h_
      simp (maxSteps := 2000000) (decide := true) [-getElem?_pos, ir65, h1_f, h2_, h2_t, h4_f, h5_, h5_t, F65_ans]
    · rw [if_neg h5_] at h_
      cases h_
  · rw [if_neg h2_] at h_
    cases h_
def L15_0 : Nat → (List Int) → Int → Int → Option ((List Int) × Int)
  | 0, _, _, _ => none
  | n_ + 1, t0_20, t1_18, t5_11 =>
  if t5_11 < (t0_20.length : Int) then
    bS (getI t0_20 t5_11) fun e32 =>
    L15_0 n_ (List.set t0_20 t5_11.toNat t1_18) (IntKind.i64.wrap (t1_18 + 1)) (IntKind.i64.wrap (t5_11 + 1))
  else
    some (t0_20, t1_18)
def L15_0_ans (t0_20 : List Int) (t1_18 : Int) (t5_11 : Int) : ((List Int) × Int) → Ans
  | (t0_21, t1_19) => .out (.exit 0) { np := 0, tm := [(0, .rf 0 0 t0_21.length), (1, .sc (.int .i64 t1_19))], ar := [(0, .a false (ints t0_21))], bx := [] }
theorem L15_0_ok : ∀ (n_ : Nat) (t0_20 : List Int) (t1_18 : Int) (t5_11 : Int) (r_ : ((List Int) × Int)), L15_0 n_ t0_20 t1_18 t5_11 = some r_ → ev EE (.loop lp15_0 [0, 1, 5] [0, 1, 4] { np := 0, tm := [(0, .rf 0 0 t0_20.length), (1, .sc (.int .i64 t1_18)), (5, .sc (.int .i64 t5_11))], ar := [(0, .a false (ints t0_20))], bx := [] }) = some (L15_0_ans t0_20 t1_18 t5_11 r_) := by
  intro n_
  induction n_ with
  | zero => intro t0_20 t1_18 t5_11 r_ h_; simp only [L15_0] at h_; cases h_
  | succ n_ ih_ =>
    intro t0_20 t1_18 t5_11 r_ h_
    rw [ev_loop EE lp15_0.eq_1]
    simp only [L15_0] at h_
    by_cases h1_ : t5_11 < (t0_20.length : Int)
    · rw [if_pos h1_] at h_
      have h1_s := h1_
      try simp at h1_s
      obtain ⟨e32, h3_, h_⟩ := bS_some h_
      obtain ⟨h3_a, h3_b, h3_c, h3_d⟩ := ints_getI'  h3_
      try simp [-getElem?_pos] at h3_d
      have q_ := ih_ (List.set t0_20 t5_11.toNat t1_18) (IntKind.i64.wrap (t1_18 + 1)) (IntKind.i64.wrap (t5_11 + 1)) _ h_
      rcases r_ with ⟨t0_21, t1_19⟩
      all_goals (try simp [L15_0_ans] at q_)
      all_goals simp (maxSteps := 2000000) (decide := true) [-getElem?_pos, h1_, h1_s, h3_a, h3_b, h3_c, h3_d, q_, L15_0_ans]
    · rw [if_neg h1_] at h_
      have h1_s := h1_
      try simp at h1_s
      cases h_
      simp (maxSteps := 2000000) (decide := true) [-getElem?_pos, h1_, h1_s, L15_0_ans]
/-- laws.markIntS -/
def F15 (a0_150 : List Int) (a1_50 : Int) : Option (Int × (List Int)) :=
  bS (L15_0 FU a0_150 a1_50 0) fun (r107, r108) =>
  some (r108, r107)
def F15_ans (a0_150 : List Int) (a1_50 : Int) : (Int × (List Int)) → Ans
  | (q69, q70) => .val (.tu [.sc (.int .i64 q69), .ls true (ints q70)]) []
theorem F15_ok (a0_150 : List Int) (a1_50 : Int) (r_ : (Int × (List Int))) (h_ : F15 a0_150 a1_50 = some r_) : ev EE (.call 15 [.ls true (ints a0_150), .sc (.int .i64 a1_50)] []) = some (F15_ans a0_150 a1_50 r_) := by
  rw [ev_eq]
  simp only [F15] at h_
  obtain ⟨⟨r107, r108⟩, h1_, h_⟩ := bS_some h_
  try dsimp only at h_
  have h1_f := L15_0_ok FU a0_150 a1_50 0 _ h1_
  try simp [L15_0_ans] at h1_f
  cases h_
  simp (maxSteps := 2000000) (decide := true) [-getElem?_pos, ir15, h1_f, F15_ans]
/-- laws.markSlab -/
def F14 (a0_149 : List Int) (a1_49 : Int) : Option (Int × (List Int)) :=
  bS (F15 a0_149 a1_49) fun (r109, r110) =>
  if r110.length = a0_149.length then
  some (r109, r110)
  else none
def F14_ans (a0_149 : List Int) (a1_49 : Int) : (Int × (List Int)) → Ans
  | (q71, q72) => .val (.tu [.sc (.int .i64 q71), .ag [.ls true (ints q72)]]) []
theorem F14_ok (a0_149 : List Int) (a1_49 : Int) (r_ : (Int × (List Int))) (h_ : F14 a0_149 a1_49 = some r_) : ev EE (.call 14 [.ag [.ls true (ints a0_149)], .sc (.int .i64 a1_49)] []) = some (F14_ans a0_149 a1_49 r_) := by
  rw [ev_eq]
  simp only [F14] at h_
  obtain ⟨⟨r109, r110⟩, h1_, h_⟩ := bS_some h_
  try dsimp only at h_
  have h1_f := F15_ok a0_149 a1_49 _ h1_
  try simp [F15_ans] at h1_f
  by_cases h2_ : r110.length = a0_149.length
  · rw [if_pos h2_] at h_
    have h2_t : List.take a0_149.length r110 = r110 := List.take_of_length_le (Nat.le_of_eq h2_)
    cases h_
    simp (maxSteps := 2000000) (decide := true) [-getElem?_pos, ir14, h1_f, h2_, h2_t, F14_ans]
  · rw [if_neg h2_] at h_
    cases h_
/-- laws.markMarker -/
def F66 (a0_151 : Int) (a0_152 : List Int) (a0_153 : List Int) (a0_154 : Int) (a1_51 : Int) : Option (Int × Int × (List Int) × (List Int) × Int) :=
  bS (F15 a0_152 a1_51) fun (r113, r114) =>
  if r114.length = a0_152.length then
  bS (F15 a0_153 r113) fun (r115, r116) =>
  if r116.length = a0_153.length then
  some (r115, a0_151, r114, r116, a0_154)
  else none
  else none
def F66_ans (a0_151 : Int) (a0_152 : List Int) (a0_153 : List Int) (a0_154 : Int) (a1_51 : Int) : (Int × Int × (List Int) × (List Int) × Int) → Ans
  | (q73, q74, q75, q76, q77) => .val (.tu [.sc (.int .i64 q73), .ag [.sc (.int .i64 q74), .ls true (ints q75), .ls true (ints q76), .sc (.int .i64 q77)]]) []
theorem F66_ok (a0_151 : Int) (a0_152 : List Int) (a0_153 : List Int) (a0_154 : Int) (a1_51 : Int) (r_ : (Int × Int × (List Int) × (List Int) × Int)) (h_ : F66 a0_151 a0_152 a0_153 a0_154 a1_51 = some r_) : ev EE (.call 66 [.ag [.sc (.int .i64 a0_151), .ls true (ints a0_152), .ls true (ints a0_153), .sc (.int .i64 a0_154)], .sc (.int .i64 a1_51)] []) = some (F66_ans a0_151 a0_152 a0_153 a0_154 a1_51 r_) := by
  rw [ev_eq]
  simp only [F66] at h_
  obtain ⟨⟨r113, r114⟩, h1_, h_⟩ := bS_some h_
  try dsimp only at h_
  have h1_f := F15_ok a0_152 a1_51 _ h1_
  try simp [F15_ans] at h1_f
  by_cases h2_ : r114.length = a0_152.length
  · rw [if_pos h2_] at h_
    have h2_t : List.take a0_152.length r114 = r114 := List.take_of_length_le (Nat.le_of_eq h2_)
    obtain ⟨⟨r115, r116⟩, h4_, h_⟩ := bS_some h_
    try dsimp only at h_
    have h4_f := F15_ok a0_153 r113 _ h4_
    try simp [F15_ans, h2_, h2_t] at h4_f
    by_cases h5_ : r116.length = a0_153.length
    · rw [if_pos h5_] at h_
      have h5_t : List.take a0_153.length r116 = r116 := List.take_of_length_le (Nat.le_of_eq h5_)
      cases h_
      simp (maxSteps := 2000000) (decide := true) [-getElem?_pos, ir66, h1_f, h2_, h2_t, h4_f, h5_, h5_t, F66_ans]
    · rw [if_neg h5_] at h_
      cases h_
  · rw [if_neg h2_] at h_
    cases h_
def L67_0 : Nat → (List T_Step) → Int → Int → Option ((List T_Step) × Int)
  | 0, _, _, _ => none
  | n_ + 1, t0_22, t1_20, t5_12 =>
  if t5_12 < (t0_22.length : Int) then
    bS (getI t0_22 t5_12) fun e33 =>
    bS (getI (List.set t0_22 t5_12.toNat (⟨t1_20, e33.a_, e33.b_⟩ : T_Step)) t5_12) fun e34 =>
    bS (getI (List.set (List.set t0_22 t5_12.toNat (⟨t1_20, e33.a_, e33.b_⟩ : T_Step)) t5_12.toNat (⟨e34.op_, IntKind.i64.wrap (t1_20 + 1), e34.b_⟩ : T_Step)) t5_12) fun e35 =>
    L67_0 n_ (List.set (List.set (List.set t0_22 t5_12.toNat (⟨t1_20, e33.a_, e33.b_⟩ : T_Step)) t5_12.toNat (⟨e34.op_, IntKind.i64.wrap (t1_20 + 1), e34.b_⟩ : T_Step)) t5_12.toNat (⟨e35.op_, e35.a_, IntKind.i64.wrap ((IntKind.i64.wrap (t1_20 + 1)) + 1)⟩ : T_Step)) (IntKind.i64.wrap ((IntKind.i64.wrap ((IntKind.i64.wrap (t1_20 + 1)) + 1)) + 1)) (IntKind.i64.wrap (t5_12 + 1))
  else
    some (t0_22, t1_20)
def L67_0_ans (t0_22 : List T_Step) (t1_20 : Int) (t5_12 : Int) : ((List T_Step) × Int) → Ans
  | (t0_23, t1_21) => .out (.exit 0) { np := 0, tm := [(0, .rf 0 0 t0_23.length), (1, .sc (.int .i64 t1_21))], ar := [(0, .a false (r_Step t0_23))], bx := [] }
theorem L67_0_ok : ∀ (n_ : Nat) (t0_22 : List T_Step) (t1_20 : Int) (t5_12 : Int) (r_ : ((List T_Step) × Int)), L67_0 n_ t0_22 t1_20 t5_12 = some r_ → ev EE (.loop lp67_0 [0, 1, 5] [0, 1, 4] { np := 0, tm := [(0, .rf 0 0 t0_22.length), (1, .sc (.int .i64 t1_20)), (5, .sc (.int .i64 t5_12))], ar := [(0, .a false (r_Step t0_22))], bx := [] }) = some (L67_0_ans t0_22 t1_20 t5_12 r_) := by
  intro n_
  induction n_ with
  | zero => intro t0_22 t1_20 t5_12 r_ h_; simp only [L67_0] at h_; cases h_
  | succ n_ ih_ =>
    intro t0_22 t1_20 t5_12 r_ h_
    rw [ev_loop EE lp67_0.eq_1]
    simp only [L67_0] at h_
    by_cases h1_ : t5_12 < (t0_22.length : Int)
    · rw [if_pos h1_] at h_
      have h1_s := h1_
      try simp at h1_s
      obtain ⟨e33, h3_, h_⟩ := bS_some h_
      obtain ⟨h3_a, h3_b, h3_c, h3_d⟩ := r_Step_getI  h3_
      try simp [-getElem?_pos] at h3_d
      obtain ⟨e34, h7_, h_⟩ := bS_some h_
      obtain ⟨h7_a, h7_b, h7_c, h7_d⟩ := r_Step_getI  h7_
      try simp [-getElem?_pos] at h7_d
      obtain ⟨e35, h11_, h_⟩ := bS_some h_
      obtain ⟨h11_a, h11_b, h11_c, h11_d⟩ := r_Step_getI  h11_
      try simp [-getElem?_pos] at h11_d
      have q_ := ih_ (List.set (List.set (List.set t0_22 t5_12.toNat (⟨t1_20, e33.a_, e33.b_⟩ : T_Step)) t5_12.toNat (⟨e34.op_, IntKind.i64.wrap (t1_20 + 1), e34.b_⟩ : T_Step)) t5_12.toNat (⟨e35.op_, e35.a_, IntKind.i64.wrap ((IntKind.i64.wrap (t1_20 + 1)) + 1)⟩ : T_Step)) (IntKind.i64.wrap ((IntKind.i64.wrap ((IntKind.i64.wrap (t1_20 + 1)) + 1)) + 1)) (IntKind.i64.wrap (t5_12 + 1)) _ h_
      rcases r_ with ⟨t0_23, t1_21⟩
      all_goals (try simp [L67_0_ans] at q_)
      all_goals simp (maxSteps := 2000000) (decide := true) [-getElem?_pos, h1_, h1_s, h3_a, h3_b, h3_c, h3_d, h7_a, h7_b, h7_c, h7_d, h11_a, h11_b, h11_c, h11_d, q_, L67_0_ans]
    · rw [if_neg h1_] at h_
      have h1_s := h1_
      try simp at h1_s
      cases h_
      simp (maxSteps := 2000000) (decide := true) [-getElem?_pos, h1_, h1_s, L67_0_ans]
/-- laws.markFrameS -/
def F67 (a0_155 : List T_Step) (a1_52 : Int) : Option (Int × (List T_Step)) :=
  bS (L67_0 FU a0_155 a1_52 0) fun (r122, r123) =>
  some (r123, r122)
def F67_ans (a0_155 : List T_Step) (a1_52 : Int) : (Int × (List T_Step)) → Ans
  | (q78, q79) => .val (.tu [.sc (.int .i64 q78), .ls true (r_Step q79)]) []
theorem F67_ok (a0_155 : List T_Step) (a1_52 : Int) (r_ : (Int × (List T_Step))) (h_ : F67 a0_155 a1_52 = some r_) : ev EE (.call 67 [.ls true (r_Step a0_155), .sc (.int .i64 a1_52)] []) = some (F67_ans a0_155 a1_52 r_) := by
  rw [ev_eq]
  simp only [F67] at h_
  obtain ⟨⟨r122, r123⟩, h1_, h_⟩ := bS_some h_
  try dsimp only at h_
  have h1_f := L67_0_ok FU a0_155 a1_52 0 _ h1_
  try simp [L67_0_ans] at h1_f
  cases h_
  simp (maxSteps := 2000000) (decide := true) [-getElem?_pos, ir67, h1_f, F67_ans]
/-- laws.markMachine -/
def F28 (a0_131 : List T_Code) (a0_132 : List ByteArray) (a0_133 : List Int) (a0_134 : Int) (a0_135 : List Int) (a0_136 : List Int) (a0_137 : Int) (a0_138 : List T_Step) (a0_139 : List Int) (a0_140 : List ByteArray) (a0_141 : Bool) (a0_142 : Int) (a1_44 : Int) : Option (Int × (List T_Code) × (List ByteArray) × (List Int) × Int × (List Int) × (List Int) × Int × (List T_Step) × (List Int) × (List ByteArray) × Bool × Int) :=
  bS (F65 a0_131 a0_132 a1_44) fun (r104, r105, r106) =>
  if r105.length = a0_131.length then
  if r106.length = a0_132.length then
  bS (F14 a0_133 r104) fun (r111, r112) =>
  if r112.length = a0_133.length then
  bS (F66 a0_134 a0_135 a0_136 a0_137 r111) fun (r117, r118, r119, r120, r121) =>
  if r119.length = a0_135.length then
  if r120.length = a0_136.length then
  bS (F67 a0_138 r117) fun (r124, r125) =>
  if r125.length = a0_138.length then
  bS (F15 a0_139 r124) fun (r126, r127) =>
  if r127.length = a0_139.length then
  bS (F68 a0_140 r126) fun (r128, r129) =>
  if r129.length = a0_140.length then
  some (r128, r105, r106, r112, a0_134, r119, r120, a0_137, r125, r127, r129, a0_141, a0_142)
  else none
  else none
  else none
  else none
  else none
  else none
  else none
  else none
def F28_ans (a0_131 : List T_Code) (a0_132 : List ByteArray) (a0_133 : List Int) (a0_134 : Int) (a0_135 : List Int) (a0_136 : List Int) (a0_137 : Int) (a0_138 : List T_Step) (a0_139 : List Int) (a0_140 : List ByteArray) (a0_141 : Bool) (a0_142 : Int) (a1_44 : Int) : (Int × (List T_Code) × (List ByteArray) × (List Int) × Int × (List Int) × (List Int) × Int × (List T_Step) × (List Int) × (List ByteArray) × Bool × Int) → Ans
  | (q80, q81, q82, q83, q84, q85, q86, q87, q88, q89, q90, q91, q92) => .val (.tu [.sc (.int .i64 q80), .ag [.ls true (r_Code true q81), .ls true (strs q82), .ls true (ints q83), .sc (.int .i64 q84), .ls true (ints q85), .ls true (ints q86), .sc (.int .i64 q87), .ls true (r_Step q88), .ls true (ints q89), .ls true (strs q90), .sc (.bool q91), .sc (.int .i64 q92)]]) []
theorem F28_ok (a0_131 : List T_Code) (a0_132 : List ByteArray) (a0_133 : List Int) (a0_134 : Int) (a0_135 : List Int) (a0_136 : List Int) (a0_137 : Int) (a0_138 : List T_Step) (a0_139 : List Int) (a0_140 : List ByteArray) (a0_141 : Bool) (a0_142 : Int) (a1_44 : Int) (r_ : (Int × (List T_Code) × (List ByteArray) × (List Int) × Int × (List Int) × (List Int) × Int × (List T_Step) × (List Int) × (List ByteArray) × Bool × Int)) (h_ : F28 a0_131 a0_132 a0_133 a0_134 a0_135 a0_136 a0_137 a0_138 a0_139 a0_140 a0_141 a0_142 a1_44 = some r_) : ev EE (.call 28 [.ag [.ls true (r_Code true a0_131), .ls true (strs a0_132), .ls true (ints a0_133), .sc (.int .i64 a0_134), .ls true (ints a0_135), .ls true (ints a0_136), .sc (.int .i64 a0_137), .ls true (r_Step a0_138), .ls true (ints a0_139), .ls true (strs a0_140), .sc (.bool a0_141), .sc (.int .i64 a0_142)], .sc (.int .i64 a1_44)] []) = some (F28_ans a0_131 a0_132 a0_133 a0_134 a0_135 a0_136 a0_137 a0_138 a0_139 a0_140 a0_141 a0_142 a1_44 r_) := by
  rw [ev_eq]
  simp only [F28] at h_
  obtain ⟨⟨r104, r105, r106⟩, h1_, h_⟩ := bS_some h_
  try dsimp only at h_
  have h1_f := F65_ok a0_131 a0_132 a1_44 _ h1_
  try simp [F65_ans] at h1_f
  by_cases h2_ : r105.length = a0_131.length
  · rw [if_pos h2_] at h_
    have h2_t : List.take a0_131.length r105 = r105 := List.take_of_length_le (Nat.le_of_eq h2_)
    by_cases h4_ : r106.length = a0_132.length
    · rw [if_pos h4_] at h_
      have h4_t : List.take a0_132.length r106 = r106 := List.take_of_length_le (Nat.le_of_eq h4_)
      obtain ⟨⟨r111, r112⟩, h6_, h_⟩ := bS_some h_
      try dsimp only at h_
      have h6_f := F14_ok a0_133 r104 _ h6_
      try simp [F14_ans, h2_, h2_t, h4_, h4_t] at h6_f
      by_cases h7_ : r112.length = a0_133.length
      · rw [if_pos h7_] at h_
        have h7_t : List.take a0_133.length r112 = r112 := List.take_of_length_le (Nat.le_of_eq h7_)
        obtain ⟨⟨r117, r118, r119, r120, r121⟩, h9_, h_⟩ := bS_some h_
        try dsimp only at h_
        have h9_f := F66_ok a0_134 a0_135 a0_136 a0_137 r111 _ h9_
        try simp [F66_ans, h2_, h2_t, h4_, h4_t, h7_, h7_t] at h9_f
        by_cases h10_ : r119.length = a0_135.length
        · rw [if_pos h10_] at h_
          have h10_t : List.take a0_135.length r119 = r119 := List.take_of_length_le (Nat.le_of_eq h10_)
          by_cases h12_ : r120.length = a0_136.length
          · rw [if_pos h12_] at h_
            have h12_t : List.take a0_136.length r120 = r120 := List.take_of_length_le (Nat.le_of_eq h12_)
            obtain ⟨⟨r124, r125⟩, h14_, h_⟩ := bS_some h_
            try dsimp only at h_
            have h14_f := F67_ok a0_138 r117 _ h14_
            try simp [F67_ans, h2_, h2_t, h4_, h4_t, h7_, h7_t, h10_, h10_t, h12_, h12_t] at h14_f
            by_cases h15_ : r125.length = a0_138.length
            · rw [if_pos h15_] at h_
              have h15_t : List.take a0_138.length r125 = r125 := List.take_of_length_le (Nat.le_of_eq h15_)
              obtain ⟨⟨r126, r127⟩, h17_, h_⟩ := bS_some h_
              try dsimp only at h_
              have h17_f := F15_ok a0_139 r124 _ h17_
              try simp [F15_ans, h2_, h2_t, h4_, h4_t, h7_, h7_t, h10_, h10_t, h12_, h12_t, h15_, h15_t] at h17_f
              by_cases h18_ : r127.length = a0_139.length
              · rw [if_pos h18_] at h_
                have h18_t : List.take a0_139.length r127 = r127 := List.take_of_length_le (Nat.le_of_eq h18_)
                obtain ⟨⟨r128, r129⟩, h20_, h_⟩ := bS_some h_
                try dsimp only at h_
                have h20_f := F68_ok a0_140 r126 _ h20_
                try simp [F68_ans, h2_, h2_t, h4_, h4_t, h7_, h7_t, h10_, h10_t, h12_, h12_t, h15_, h15_t, h18_, h18_t] at h20_f
                by_cases h21_ : r129.length = a0_140.length
                · rw [if_pos h21_] at h_
                  have h21_t : List.take a0_140.length r129 = r129 := List.take_of_length_le (Nat.le_of_eq h21_)
                  cases h_
                  simp (maxSteps := 2000000) (decide := true) [-getElem?_pos, ir28, h1_f, h2_, h2_t, h4_, h4_t, h6_f, h7_, h7_t, h9_f, h10_, h10_t, h12_, h12_t, h14_f, h15_, h15_t, h17_f, h18_, h18_t, h20_f, h21_, h21_t, F28_ans]
                · rw [if_neg h21_] at h_
                  cases h_
              · rw [if_neg h18_] at h_
                cases h_
            · rw [if_neg h15_] at h_
              cases h_
          · rw [if_neg h12_] at h_
            cases h_
        · rw [if_neg h10_] at h_
          cases h_
      · rw [if_neg h7_] at h_
        cases h_
    · rw [if_neg h4_] at h_
      cases h_
  · rw [if_neg h2_] at h_
    cases h_
def L16_0 : Nat → (List Int) → Int → Int → Option ((Int × Int) ⊕ Int)
  | 0, _, _, _ => none
  | n_ + 1, t0_24, t1_22, t5_13 =>
  if t5_13 < (t0_24.length : Int) then
    bS (getI t0_24 t5_13) fun e36 =>
    if e36 = t1_22 then
      L16_0 n_ t0_24 (IntKind.i64.wrap (t1_22 + 1)) (IntKind.i64.wrap (t5_13 + 1))
    else
      some (.inl (t1_22, (-1)))
  else
    some (.inr t1_22)
def L16_0_ans (t0_24 : List Int) (t1_22 : Int) (t5_13 : Int) : (Int × Int) ⊕ Int → Ans
  | .inl (t1_23, t4_14) => .out .ret { np := 0, tm := [(1, .sc (.int .i64 t1_23)), (4, .sc (.int .i64 t4_14))], ar := [], bx := [] }
  | .inr t1_24 => .out (.exit 0) { np := 0, tm := [(1, .sc (.int .i64 t1_24))], ar := [], bx := [] }
theorem L16_0_ok : ∀ (n_ : Nat) (t0_24 : List Int) (t1_22 : Int) (t5_13 : Int) (r_ : (Int × Int) ⊕ Int), L16_0 n_ t0_24 t1_22 t5_13 = some r_ → ev EE (.loop lp16_0 [0, 1, 5] [1, 4] { np := 0, tm := [(0, .ls false (ints t0_24)), (1, .sc (.int .i64 t1_22)), (5, .sc (.int .i64 t5_13))], ar := [], bx := [] }) = some (L16_0_ans t0_24 t1_22 t5_13 r_) := by
  intro n_
  induction n_ with
  | zero => intro t0_24 t1_22 t5_13 r_ h_; simp only [L16_0] at h_; cases h_
  | succ n_ ih_ =>
    intro t0_24 t1_22 t5_13 r_ h_
    rw [ev_loop EE lp16_0.eq_1]
    simp only [L16_0] at h_
    by_cases h1_ : t5_13 < (t0_24.length : Int)
    · rw [if_pos h1_] at h_
      have h1_s := h1_
      try simp at h1_s
      obtain ⟨e36, h3_, h_⟩ := bS_some h_
      obtain ⟨h3_a, h3_b, h3_c, h3_d⟩ := ints_getI'  h3_
      try simp [-getElem?_pos] at h3_d
      by_cases h7_ : e36 = t1_22
      · rw [if_pos h7_] at h_
        have q_ := ih_ t0_24 (IntKind.i64.wrap (t1_22 + 1)) (IntKind.i64.wrap (t5_13 + 1)) _ h_
        rcases r_ with ⟨t1_23, t4_14⟩ | t1_24
        all_goals (try simp [L16_0_ans] at q_)
        all_goals simp (maxSteps := 2000000) (decide := true) [-getElem?_pos, h1_, h1_s, h3_a, h3_b, h3_c, h3_d, h7_, q_, L16_0_ans]
      · rw [if_neg h7_] at h_
        cases h_
        simp (maxSteps := 2000000) (decide := true) [-getElem?_pos, h1_, h1_s, h3_a, h3_b, h3_c, h3_d, h7_, L16_0_ans]
    · rw [if_neg h1_] at h_
      have h1_s := h1_
      try simp at h1_s
      cases h_
      simp (maxSteps := 2000000) (decide := true) [-getElem?_pos, h1_, h1_s, L16_0_ans]
/-- laws.heldIntS -/
def F16 (a0_156 : List Int) (a1_53 : Int) : Option Int :=
  bS (L16_0 FU a0_156 a1_53 0) fun r_ => match r_ with
  | .inl (r145, r146) =>
    some r146
  | .inr r147 =>
    some r147
def F16_ans (a0_156 : List Int) (a1_53 : Int) : Int → Ans
  | q93 => .val (.sc (.int .i64 q93)) []
theorem F16_ok (a0_156 : List Int) (a1_53 : Int) (r_ : Int) (h_ : F16 a0_156 a1_53 = some r_) : ev EE (.call 16 [.ls false (ints a0_156), .sc (.int .i64 a1_53)] []) = some (F16_ans a0_156 a1_53 r_) := by
  rw [ev_eq]
  simp only [F16] at h_
  obtain ⟨r_0, h1_, h_⟩ := bS_some h_
  have h1_f := L16_0_ok FU a0_156 a1_53 0 _ h1_
  rcases r_0 with ⟨r145, r146⟩ | r147
  · try dsimp only at h_
    try simp [L16_0_ans] at h1_f
    cases h_
    simp (maxSteps := 2000000) (decide := true) [-getElem?_pos, ir16, h1_f, F16_ans]
  · try dsimp only at h_
    try simp [L16_0_ans] at h1_f
    cases h_
    simp (maxSteps := 2000000) (decide := true) [-getElem?_pos, ir16, h1_f, F16_ans]
/-- spec.Told -/
def F29 (a0_169 : List T_Code) (a0_170 : List ByteArray) (a0_171 : List Int) (a0_172 : Int) (a0_173 : List Int) (a0_174 : List Int) (a0_175 : Int) (a0_176 : List T_Step) (a0_177 : List Int) (a0_178 : List ByteArray) (a0_179 : Bool) (a0_180 : Int) : Option (Int × (List ByteArray)) :=
  if lim (a0_178.length) 16 = true then
  if a0_179 = true then
    some (a0_180, a0_178)
  else
    some (3, a0_178)
  else none
def F29_ans (a0_169 : List T_Code) (a0_170 : List ByteArray) (a0_171 : List Int) (a0_172 : Int) (a0_173 : List Int) (a0_174 : List Int) (a0_175 : Int) (a0_176 : List T_Step) (a0_177 : List Int) (a0_178 : List ByteArray) (a0_179 : Bool) (a0_180 : Int) : (Int × (List ByteArray)) → Ans
  | (q95, q96) => .val (.ag [.sc (.int .i64 q95), .ls true (strs q96)]) []
theorem F29_ok (a0_169 : List T_Code) (a0_170 : List ByteArray) (a0_171 : List Int) (a0_172 : Int) (a0_173 : List Int) (a0_174 : List Int) (a0_175 : Int) (a0_176 : List T_Step) (a0_177 : List Int) (a0_178 : List ByteArray) (a0_179 : Bool) (a0_180 : Int) (r_ : (Int × (List ByteArray))) (h_ : F29 a0_169 a0_170 a0_171 a0_172 a0_173 a0_174 a0_175 a0_176 a0_177 a0_178 a0_179 a0_180 = some r_) : ev EE (.call 29 [.ag [.ls false (r_Code false a0_169), .ls false (strs a0_170), .ls false (ints a0_171), .sc (.int .i64 a0_172), .ls false (ints a0_173), .ls false (ints a0_174), .sc (.int .i64 a0_175), .ls false (r_Step a0_176), .ls false (ints a0_177), .ls false (strs a0_178), .sc (.bool a0_179), .sc (.int .i64 a0_180)]] []) = some (F29_ans a0_169 a0_170 a0_171 a0_172 a0_173 a0_174 a0_175 a0_176 a0_177 a0_178 a0_179 a0_180 r_) := by
  rw [ev_eq]
  simp only [F29] at h_
  by_cases h1_ : lim (a0_178.length) 16 = true
  · rw [if_pos h1_] at h_
    by_cases h2_ : a0_179 = true
    · rw [if_pos h2_] at h_
      cases h_
      simp (maxSteps := 2000000) (decide := true) [-getElem?_pos, ir29, h1_, h2_, F29_ans]
    · rw [if_neg h2_] at h_
      cases h_
      simp (maxSteps := 2000000) (decide := true) [-getElem?_pos, ir29, h1_, h2_, F29_ans]
  · rw [if_neg h1_] at h_
    cases h_
/-- impl.Told -/
def F30 (a0_181 : List T_Code) (a0_182 : List ByteArray) (a0_183 : List Int) (a0_184 : Int) (a0_185 : List Int) (a0_186 : List Int) (a0_187 : Int) (a0_188 : List T_Step) (a0_189 : List Int) (a0_190 : List ByteArray) (a0_191 : Bool) (a0_192 : Int) : Option (Int × (List ByteArray)) :=
  if lim (a0_190.length) 16 = true then
  if a0_191 = true then
    some (a0_192, a0_190)
  else
    some (3, a0_190)
  else none
def F30_ans (a0_181 : List T_Code) (a0_182 : List ByteArray) (a0_183 : List Int) (a0_184 : Int) (a0_185 : List Int) (a0_186 : List Int) (a0_187 : Int) (a0_188 : List T_Step) (a0_189 : List Int) (a0_190 : List ByteArray) (a0_191 : Bool) (a0_192 : Int) : (Int × (List ByteArray)) → Ans
  | (q97, q98) => .val (.ag [.sc (.int .i64 q97), .ls true (strs q98)]) []
theorem F30_ok (a0_181 : List T_Code) (a0_182 : List ByteArray) (a0_183 : List Int) (a0_184 : Int) (a0_185 : List Int) (a0_186 : List Int) (a0_187 : Int) (a0_188 : List T_Step) (a0_189 : List Int) (a0_190 : List ByteArray) (a0_191 : Bool) (a0_192 : Int) (r_ : (Int × (List ByteArray))) (h_ : F30 a0_181 a0_182 a0_183 a0_184 a0_185 a0_186 a0_187 a0_188 a0_189 a0_190 a0_191 a0_192 = some r_) : ev EE (.call 30 [.ag [.ls false (r_Code false a0_181), .ls false (strs a0_182), .ls false (ints a0_183), .sc (.int .i64 a0_184), .ls false (ints a0_185), .ls false (ints a0_186), .sc (.int .i64 a0_187), .ls false (r_Step a0_188), .ls false (ints a0_189), .ls false (strs a0_190), .sc (.bool a0_191), .sc (.int .i64 a0_192)]] []) = some (F30_ans a0_181 a0_182 a0_183 a0_184 a0_185 a0_186 a0_187 a0_188 a0_189 a0_190 a0_191 a0_192 r_) := by
  rw [ev_eq]
  simp only [F30] at h_
  by_cases h1_ : lim (a0_190.length) 16 = true
  · rw [if_pos h1_] at h_
    by_cases h2_ : a0_191 = true
    · rw [if_pos h2_] at h_
      cases h_
      simp (maxSteps := 2000000) (decide := true) [-getElem?_pos, ir30, h1_, h2_, F30_ans]
    · rw [if_neg h2_] at h_
      cases h_
      simp (maxSteps := 2000000) (decide := true) [-getElem?_pos, ir30, h1_, h2_, F30_ans]
  · rw [if_neg h1_] at h_
    cases h_
/-- laws.eqOutcome -/
def F31 (a0_193 : Int) (a0_194 : List ByteArray) (a1_54 : Int) (a1_55 : List ByteArray) : Option Bool :=
  if a0_193 = a1_54 then
    bS (F64 a0_194 a1_55) fun r166 =>
    if r166 = true then
      some true
    else
      some false
  else
    some false
def F31_ans (a0_193 : Int) (a0_194 : List ByteArray) (a1_54 : Int) (a1_55 : List ByteArray) : Bool → Ans
  | q99 => .val (.sc (.bool q99)) []
theorem F31_ok (a0_193 : Int) (a0_194 : List ByteArray) (a1_54 : Int) (a1_55 : List ByteArray) (r_ : Bool) (h_ : F31 a0_193 a0_194 a1_54 a1_55 = some r_) : ev EE (.call 31 [.ag [.sc (.int .i64 a0_193), .ls false (strs a0_194)], .ag [.sc (.int .i64 a1_54), .ls false (strs a1_55)]] []) = some (F31_ans a0_193 a0_194 a1_54 a1_55 r_) := by
  rw [ev_eq]
  simp only [F31] at h_
  by_cases h1_ : a0_193 = a1_54
  · rw [if_pos h1_] at h_
    obtain ⟨r166, h2_, h_⟩ := bS_some h_
    have h2_f := F64_ok a0_194 a1_55 _ h2_
    try simp [F64_ans] at h2_f
    by_cases h3_ : r166 = true
    · rw [if_pos h3_] at h_
      cases h_
      simp (maxSteps := 2000000) (decide := true) [-getElem?_pos, ir31, h1_, h2_f, h3_, F31_ans]
    · rw [if_neg h3_] at h_
      cases h_
      simp (maxSteps := 2000000) (decide := true) [-getElem?_pos, ir31, h1_, h2_f, h3_, F31_ans]
  · rw [if_neg h1_] at h_
    cases h_
    simp (maxSteps := 2000000) (decide := true) [-getElem?_pos, ir31, h1_, F31_ans]
/-- laws.markOutcome -/
def F32 (a0_195 : Int) (a0_196 : List ByteArray) (a1_56 : Int) : Option (Int × Int × (List ByteArray)) :=
  bS (F68 a0_196 a1_56) fun (r182, r183) =>
  if r183.length = a0_196.length then
  some (r182, a0_195, r183)
  else none
def F32_ans (a0_195 : Int) (a0_196 : List ByteArray) (a1_56 : Int) : (Int × Int × (List ByteArray)) → Ans
  | (q100, q101, q102) => .val (.tu [.sc (.int .i64 q100), .ag [.sc (.int .i64 q101), .ls true (strs q102)]]) []
theorem F32_ok (a0_195 : Int) (a0_196 : List ByteArray) (a1_56 : Int) (r_ : (Int × Int × (List ByteArray))) (h_ : F32 a0_195 a0_196 a1_56 = some r_) : ev EE (.call 32 [.ag [.sc (.int .i64 a0_195), .ls true (strs a0_196)], .sc (.int .i64 a1_56)] []) = some (F32_ans a0_195 a0_196 a1_56 r_) := by
  rw [ev_eq]
  simp only [F32] at h_
  obtain ⟨⟨r182, r183⟩, h1_, h_⟩ := bS_some h_
  try dsimp only at h_
  have h1_f := F68_ok a0_196 a1_56 _ h1_
  try simp [F68_ans] at h1_f
  by_cases h2_ : r183.length = a0_196.length
  · rw [if_pos h2_] at h_
    have h2_t : List.take a0_196.length r183 = r183 := List.take_of_length_le (Nat.le_of_eq h2_)
    cases h_
    simp (maxSteps := 2000000) (decide := true) [-getElem?_pos, ir32, h1_f, h2_, h2_t, F32_ans]
  · rw [if_neg h2_] at h_
    cases h_
def L69_0 : Nat → (List ByteArray) → Int → Int → Option ((Int × Int) ⊕ Int)
  | 0, _, _, _ => none
  | n_ + 1, t0_25, t1_25, t5_14 =>
  if t5_14 < (t0_25.length : Int) then
    bS (getI t0_25 t5_14) fun e37 =>
    bS (F94 t1_25) fun r187 =>
    if e37 = r187 then
      L69_0 n_ t0_25 (IntKind.i64.wrap (t1_25 + 1)) (IntKind.i64.wrap (t5_14 + 1))
    else
      some (.inl (t1_25, (-1)))
  else
    some (.inr t1_25)
def L69_0_ans (t0_25 : List ByteArray) (t1_25 : Int) (t5_14 : Int) : (Int × Int) ⊕ Int → Ans
  | .inl (t1_26, t4_15) => .out .ret { np := 0, tm := [(1, .sc (.int .i64 t1_26)), (4, .sc (.int .i64 t4_15))], ar := [], bx := [] }
  | .inr t1_27 => .out (.exit 0) { np := 0, tm := [(1, .sc (.int .i64 t1_27))], ar := [], bx := [] }
theorem L69_0_ok : ∀ (n_ : Nat) (t0_25 : List ByteArray) (t1_25 : Int) (t5_14 : Int) (r_ : (Int × Int) ⊕ Int), L69_0 n_ t0_25 t1_25 t5_14 = some r_ → ev EE (.loop lp69_0 [0, 1, 5] [1, 4] { np := 0, tm := [(0, .ls false (strs t0_25)), (1, .sc (.int .i64 t1_25)), (5, .sc (.int .i64 t5_14))], ar := [], bx := [] }) = some (L69_0_ans t0_25 t1_25 t5_14 r_) := by
  intro n_
  induction n_ with
  | zero => intro t0_25 t1_25 t5_14 r_ h_; simp only [L69_0] at h_; cases h_
  | succ n_ ih_ =>
    intro t0_25 t1_25 t5_14 r_ h_
    rw [ev_loop EE lp69_0.eq_1]
    simp only [L69_0] at h_
    by_cases h1_ : t5_14 < (t0_25.length : Int)
    · rw [if_pos h1_] at h_
      have h1_s := h1_
      try simp at h1_s
      obtain ⟨e37, h3_, h_⟩ := bS_some h_
      obtain ⟨h3_a, h3_b, h3_c, h3_d⟩ := strs_getI  h3_
      try simp [-getElem?_pos] at h3_d
      obtain ⟨r187, h7_, h_⟩ := bS_some h_
      have h7_f := F94_ok t1_25 _ h7_
      try simp [F94_ans] at h7_f
      by_cases h8_ : e37 = r187
      · rw [if_pos h8_] at h_
        have q_ := ih_ t0_25 (IntKind.i64.wrap (t1_25 + 1)) (IntKind.i64.wrap (t5_14 + 1)) _ h_
        rcases r_ with ⟨t1_26, t4_15⟩ | t1_27
        all_goals (try simp [L69_0_ans] at q_)
        all_goals simp (maxSteps := 2000000) (decide := true) [-getElem?_pos, h1_, h1_s, h3_a, h3_b, h3_c, h3_d, h7_f, h8_, q_, L69_0_ans]
      · rw [if_neg h8_] at h_
        cases h_
        simp (maxSteps := 2000000) (decide := true) [-getElem?_pos, h1_, h1_s, h3_a, h3_b, h3_c, h3_d, h7_f, h8_, L69_0_ans]
    · rw [if_neg h1_] at h_
      have h1_s := h1_
      try simp at h1_s
      cases h_
      simp (maxSteps := 2000000) (decide := true) [-getElem?_pos, h1_, h1_s, L69_0_ans]
/-- laws.heldStringS -/
def F69 (a0_199 : List ByteArray) (a1_58 : Int) : Option Int :=
  bS (L69_0 FU a0_199 a1_58 0) fun r_ => match r_ with
  | .inl (r188, r189) =>
    some r189
  | .inr r190 =>
    some r190
def F69_ans (a0_199 : List ByteArray) (a1_58 : Int) : Int → Ans
  | q103 => .val (.sc (.int .i64 q103)) []
theorem F69_ok (a0_199 : List ByteArray) (a1_58 : Int) (r_ : Int) (h_ : F69 a0_199 a1_58 = some r_) : ev EE (.call 69 [.ls false (strs a0_199), .sc (.int .i64 a1_58)] []) = some (F69_ans a0_199 a1_58 r_) := by
  rw [ev_eq]
  simp only [F69] at h_
  obtain ⟨r_0, h1_, h_⟩ := bS_some h_
  have h1_f := L69_0_ok FU a0_199 a1_58 0 _ h1_
  rcases r_0 with ⟨r188, r189⟩ | r190
  · try dsimp only at h_
    try simp [L69_0_ans] at h1_f
    cases h_
    simp (maxSteps := 2000000) (decide := true) [-getElem?_pos, ir69, h1_f, F69_ans]
  · try dsimp only at h_
    try simp [L69_0_ans] at h1_f
    cases h_
    simp (maxSteps := 2000000) (decide := true) [-getElem?_pos, ir69, h1_f, F69_ans]
/-- laws.heldOutcome -/
def F33 (a0_197 : Int) (a0_198 : List ByteArray) (a1_57 : Int) : Option Int :=
  bS (F69 a0_198 a1_57) fun r191 =>
  if r191 < 0 then
    some (-1)
  else
    some r191
def F33_ans (a0_197 : Int) (a0_198 : List ByteArray) (a1_57 : Int) : Int → Ans
  | q104 => .val (.sc (.int .i64 q104)) []
theorem F33_ok (a0_197 : Int) (a0_198 : List ByteArray) (a1_57 : Int) (r_ : Int) (h_ : F33 a0_197 a0_198 a1_57 = some r_) : ev EE (.call 33 [.ag [.sc (.int .i64 a0_197), .ls false (strs a0_198)], .sc (.int .i64 a1_57)] []) = some (F33_ans a0_197 a0_198 a1_57 r_) := by
  rw [ev_eq]
  simp only [F33] at h_
  obtain ⟨r191, h1_, h_⟩ := bS_some h_
  have h1_f := F69_ok a0_198 a1_57 _ h1_
  try simp [F69_ans] at h1_f
  by_cases h2_ : r191 < 0
  · rw [if_pos h2_] at h_
    cases h_
    simp (maxSteps := 2000000) (decide := true) [-getElem?_pos, ir33, h1_f, h2_, F33_ans]
  · rw [if_neg h2_] at h_
    cases h_
    simp (maxSteps := 2000000) (decide := true) [-getElem?_pos, ir33, h1_f, h2_, F33_ans]
end Go.Pv
