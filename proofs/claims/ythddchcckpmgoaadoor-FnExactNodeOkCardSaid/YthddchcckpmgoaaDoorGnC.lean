/- Proof: the functions as Lean functions, third part. No condition. -/
import Derived.Test.YthddchcckpmgoaaDoorGnB
set_option autoImplicit true
set_option relaxedAutoImplicit true
set_option linter.unusedSimpArgs false
set_option linter.unusedVariables false
namespace Go.Pv
set_option maxRecDepth 100000
set_option maxHeartbeats 40000000
set_option linter.unusedSimpArgs false
set_option linter.unusedVariables false
def Fs_l13Okn : Nat → Int → ByteArray → Int → (List T_Node) → Option Bool
  | 0 => fun _ _ _ _ => none
  | n_ + 1 => Ss_l13Ok (Fs_l13Okn n_)
def Fs_l13Ok (a0_28 : Int) (a0_29 : ByteArray) (a0_30 : Int) (a0_31 : List T_Node) : Option Bool := Fs_l13Okn FU a0_28 a0_29 a0_30 a0_31
theorem Fs_l13Okn_ok : ∀ (n_ : Nat) (a0_28 : Int) (a0_29 : ByteArray) (a0_30 : Int) (a0_31 : List T_Node) (r_ : Bool), Fs_l13Okn n_ a0_28 a0_29 a0_30 a0_31 = some r_ → ev EE (.call 34 [.ag [.sc (.int .i64 a0_28), .sc (.string a0_29), .sc (.int .i64 a0_30), .ls false (r_Node false a0_31)]] []) = some (Fs_l13Ok_ans a0_28 a0_29 a0_30 a0_31 r_) := by
  intro n_
  induction n_ with
  | zero => intro a0_28 a0_29 a0_30 a0_31 r_ h_; cases h_
  | succ n_ ih_ => intro a0_28 a0_29 a0_30 a0_31 r_ h_; exact Ss_l13Ok_ok (Fs_l13Okn n_) ih_ a0_28 a0_29 a0_30 a0_31 r_ h_
theorem Fs_l13Ok_ok (a0_28 : Int) (a0_29 : ByteArray) (a0_30 : Int) (a0_31 : List T_Node) (r_ : Bool) (h_ : Fs_l13Ok a0_28 a0_29 a0_30 a0_31 = some r_) : ev EE (.call 34 [.ag [.sc (.int .i64 a0_28), .sc (.string a0_29), .sc (.int .i64 a0_30), .ls false (r_Node false a0_31)]] []) = some (Fs_l13Ok_ans a0_28 a0_29 a0_30 a0_31 r_) := Fs_l13Okn_ok FU a0_28 a0_29 a0_30 a0_31 r_ h_
/-- spec.NodeOk -/
def Fs_NodeOk (a0_15 : Int) (a0_16 : ByteArray) (a0_17 : Int) (a0_18 : List T_Node) : Option Bool :=
  if a0_15 = 1 then
    bS (Fs_Deep a0_15 a0_16 a0_17 a0_18) fun r20 =>
    if r20 ≤ 20 then
      bS (Fs_Size a0_15 a0_16 a0_17 a0_18) fun r23 =>
      if r23 ≤ 200 then
        bS (Fs_l13Ok a0_15 a0_16 a0_17 a0_18) fun r128 =>
        some r128
      else
        some false
    else
      some false
  else
    some false
def Fs_NodeOk_ans (a0_15 : Int) (a0_16 : ByteArray) (a0_17 : Int) (a0_18 : List T_Node) : Bool → Ans
  | q50 => .val (.sc (.bool q50)) []
theorem Fs_NodeOk_ok (a0_15 : Int) (a0_16 : ByteArray) (a0_17 : Int) (a0_18 : List T_Node) (r_ : Bool) (h_ : Fs_NodeOk a0_15 a0_16 a0_17 a0_18 = some r_) : ev EE (.call 15 [.ag [.sc (.int .i64 a0_15), .sc (.string a0_16), .sc (.int .i64 a0_17), .ls false (r_Node false a0_18)]] []) = some (Fs_NodeOk_ans a0_15 a0_16 a0_17 a0_18 r_) := by
  rw [ev_eq]
  simp only [Fs_NodeOk] at h_
  rcases bI h_ with ⟨h1_, h_⟩ | ⟨h1_, h_⟩
  · obtain ⟨r20, h2_, h_⟩ := bS_some h_
    have h2_f := Fs_Deep_ok a0_15 a0_16 a0_17 a0_18 _ h2_
    try simp [Fs_Deep_ans] at h2_f
    rcases bI h_ with ⟨h3_, h_⟩ | ⟨h3_, h_⟩
    · obtain ⟨r23, h4_, h_⟩ := bS_some h_
      have h4_f := Fs_Size_ok a0_15 a0_16 a0_17 a0_18 _ h4_
      try simp [Fs_Size_ans] at h4_f
      rcases bI h_ with ⟨h5_, h_⟩ | ⟨h5_, h_⟩
      · obtain ⟨r128, h6_, h_⟩ := bS_some h_
        have h6_f := Fs_l13Ok_ok a0_15 a0_16 a0_17 a0_18 _ h6_
        try simp [Fs_l13Ok_ans] at h6_f
        cases h_
        simp (maxSteps := 2000000) (decide := true) [-getElem?_pos, ir15, eq_true h1_, h2_f, h3_, h4_f, h5_, h6_f, Fs_NodeOk_ans]
      · cases h_
        simp (maxSteps := 2000000) (decide := true) [-getElem?_pos, ir15, eq_true h1_, h2_f, h3_, h4_f, h5_, Fs_NodeOk_ans]
    · cases h_
      simp (maxSteps := 2000000) (decide := true) [-getElem?_pos, ir15, eq_true h1_, h2_f, h3_, Fs_NodeOk_ans]
  · cases h_
    simp (maxSteps := 2000000) (decide := true) [-getElem?_pos, ir15, h1_, Fs_NodeOk_ans]
/-- impl.within -/
def Fi_within (a0_84 : Int) (a1_13 : Int) (a2_2 : Int) : Option Bool :=
  if a1_13 ≤ a0_84 then
    some (decide (a0_84 ≤ a2_2))
  else
    some false
def Fi_within_ans (a0_84 : Int) (a1_13 : Int) (a2_2 : Int) : Bool → Ans
  | q51 => .val (.sc (.bool q51)) []
theorem Fi_within_ok (a0_84 : Int) (a1_13 : Int) (a2_2 : Int) (r_ : Bool) (h_ : Fi_within a0_84 a1_13 a2_2 = some r_) : ev EE (.call 67 [.sc (.int .i64 a0_84), .sc (.int .i64 a1_13), .sc (.int .i64 a2_2)] []) = some (Fi_within_ans a0_84 a1_13 a2_2 r_) := by
  rw [ev_eq]
  simp only [Fi_within] at h_
  rcases bI h_ with ⟨h1_, h_⟩ | ⟨h1_, h_⟩
  · cases h_
    simp (maxSteps := 2000000) (decide := true) [-getElem?_pos, ir67, h1_, Fi_within_ans]
  · cases h_
    simp (maxSteps := 2000000) (decide := true) [-getElem?_pos, ir67, h1_, Fi_within_ans]
/-- impl.isStatement -/
def Fi_isStatement (a0_80 : Int) (a0_81 : ByteArray) (a0_82 : Int) (a0_83 : List T_Node) : Option Bool :=
  bS (Fi_within a0_80 2 9) fun r130 =>
  some r130
def Fi_isStatement_ans (a0_80 : Int) (a0_81 : ByteArray) (a0_82 : Int) (a0_83 : List T_Node) : Bool → Ans
  | q52 => .val (.sc (.bool q52)) []
theorem Fi_isStatement_ok (a0_80 : Int) (a0_81 : ByteArray) (a0_82 : Int) (a0_83 : List T_Node) (r_ : Bool) (h_ : Fi_isStatement a0_80 a0_81 a0_82 a0_83 = some r_) : ev EE (.call 65 [.ag [.sc (.int .i64 a0_80), .sc (.string a0_81), .sc (.int .i64 a0_82), .ls false (r_Node false a0_83)]] []) = some (Fi_isStatement_ans a0_80 a0_81 a0_82 a0_83 r_) := by
  rw [ev_eq]
  simp only [Fi_isStatement] at h_
  obtain ⟨r130, h1_, h_⟩ := bS_some h_
  have h1_f := Fi_within_ok a0_80 2 9 _ h1_
  try simp [Fi_within_ans] at h1_f
  cases h_
  simp (maxSteps := 2000000) (decide := true) [-getElem?_pos, ir65, h1_f, Fi_isStatement_ans]
/-- impl.kidsOk$1$1 -/
def Fi_kidsOk_c1_c1 (a0_76 : Int) (a0_77 : ByteArray) (a0_78 : Int) (a0_79 : List T_Node) : Option Bool :=
  bS (Fi_isStatement a0_76 a0_77 a0_78 a0_79) fun r131 =>
  some (!r131)
def Fi_kidsOk_c1_c1_ans (a0_76 : Int) (a0_77 : ByteArray) (a0_78 : Int) (a0_79 : List T_Node) : Bool → Ans
  | q53 => .val (.sc (.bool q53)) [.b [.fn 65 []]]
theorem Fi_kidsOk_c1_c1_ok (a0_76 : Int) (a0_77 : ByteArray) (a0_78 : Int) (a0_79 : List T_Node) (r_ : Bool) (h_ : Fi_kidsOk_c1_c1 a0_76 a0_77 a0_78 a0_79 = some r_) : ev EE (.call 62 [.ag [.sc (.int .i64 a0_76), .sc (.string a0_77), .sc (.int .i64 a0_78), .ls false (r_Node false a0_79)], .bx 0 0] [.b [.fn 65 []]]) = some (Fi_kidsOk_c1_c1_ans a0_76 a0_77 a0_78 a0_79 r_) := by
  rw [ev_eq]
  simp only [Fi_kidsOk_c1_c1] at h_
  obtain ⟨r131, h1_, h_⟩ := bS_some h_
  have h1_f := Fi_isStatement_ok a0_76 a0_77 a0_78 a0_79 _ h1_
  try simp [Fi_isStatement_ans] at h1_f
  cases h_
  simp (maxSteps := 2000000) (decide := true) [-getElem?_pos, ir62, h1_f, Fi_kidsOk_c1_c1_ans]
def Lslices_IndexFunc_Node_0 : Nat → (List T_Node) → Int → Int → Option (Int ⊕ Unit)
  | 0, _, _, _ => none
  | n_ + 1, t0_11, t7_7, t8_3 =>
  if t8_3 < t7_7 then
    bS (getI t0_11 t8_3) fun e12 =>
    bS (Fi_kidsOk_c1_c1 e12.op_ e12.s_ e12.n_ e12.kids_) fun r132 =>
    if r132 = true then
      some (.inl t8_3)
    else
      Lslices_IndexFunc_Node_0 n_ t0_11 t7_7 (IntKind.i64.wrap (t8_3 + 1))
  else
    some (.inr ())
def Lslices_IndexFunc_Node_0_ans (t0_11 : List T_Node) (t7_7 : Int) (t8_3 : Int) : Int ⊕ Unit → Ans
  | .inl t4_16 => .out .ret { np := 1, tm := [(4, .sc (.int .i64 t4_16))], ar := [], bx := [(0, .b [.fn 65 []])] }
  | .inr _ => .out (.exit 0) { np := 1, tm := [], ar := [], bx := [(0, .b [.fn 65 []])] }
theorem Lslices_IndexFunc_Node_0_ok : ∀ (n_ : Nat) (t0_11 : List T_Node) (t7_7 : Int) (t8_3 : Int) (r_ : Int ⊕ Unit), Lslices_IndexFunc_Node_0 n_ t0_11 t7_7 t8_3 = some r_ → ev EE (.loop lp73_0 [0, 1, 7, 8] [4] { np := 1, tm := [(0, .ls false (r_Node false t0_11)), (1, .fn 62 [.bx 0 0]), (7, .sc (.int .i64 t7_7)), (8, .sc (.int .i64 t8_3))], ar := [], bx := [(0, .b [.fn 65 []])] }) = some (Lslices_IndexFunc_Node_0_ans t0_11 t7_7 t8_3 r_) := by
  intro n_
  induction n_ with
  | zero => intro t0_11 t7_7 t8_3 r_ h_; simp only [Lslices_IndexFunc_Node_0] at h_; cases h_
  | succ n_ ih_ =>
    intro t0_11 t7_7 t8_3 r_ h_
    rw [ev_loop EE lp73_0.eq_1]
    simp only [Lslices_IndexFunc_Node_0] at h_
    rcases bI h_ with ⟨h1_, h_⟩ | ⟨h1_, h_⟩
    · obtain ⟨e12, h2_, h_⟩ := bS_some h_
      obtain ⟨h2_a, h2_b, h2_c, h2_d⟩ := r_Node_getI (o := false)  h2_
      try simp [-getElem?_pos] at h2_d
      obtain ⟨r132, h6_, h_⟩ := bS_some h_
      have h6_f := Fi_kidsOk_c1_c1_ok e12.op_ e12.s_ e12.n_ e12.kids_ _ h6_
      try simp [Fi_kidsOk_c1_c1_ans] at h6_f
      rcases bI h_ with ⟨h7_, h_⟩ | ⟨h7_, h_⟩
      · cases h_
        simp (maxSteps := 2000000) (decide := true) [-getElem?_pos, h1_, h2_a, h2_b, h2_c, h2_d, h6_f, h7_, Lslices_IndexFunc_Node_0_ans]
      · have q_ := ih_ t0_11 t7_7 (IntKind.i64.wrap (t8_3 + 1)) _ h_
        rcases r_ with t4_16 | _
        all_goals (try simp [Lslices_IndexFunc_Node_0_ans] at q_)
        all_goals simp (maxSteps := 2000000) (decide := true) [-getElem?_pos, h1_, h2_a, h2_b, h2_c, h2_d, h6_f, h7_, q_, Lslices_IndexFunc_Node_0_ans]
    · cases h_
      simp (maxSteps := 2000000) (decide := true) [-getElem?_pos, h1_, Lslices_IndexFunc_Node_0_ans]
/-- impl.Node] -/
def Fslices_IndexFunc_Node (a0_75 : List T_Node) : Option Int :=
  bS (Lslices_IndexFunc_Node_0 FU a0_75 (a0_75.length : Int) 0) fun r_ => match r_ with
  | .inl r133 =>
    some r133
  | .inr () =>
    some (-1)
def Fslices_IndexFunc_Node_ans (a0_75 : List T_Node) : Int → Ans
  | q54 => .val (.sc (.int .i64 q54)) [.b [.fn 65 []]]
theorem Fslices_IndexFunc_Node_ok (a0_75 : List T_Node) (r_ : Int) (h_ : Fslices_IndexFunc_Node a0_75 = some r_) : ev EE (.call 73 [.ls false (r_Node false a0_75), .fn 62 [.bx 0 0]] [.b [.fn 65 []]]) = some (Fslices_IndexFunc_Node_ans a0_75 r_) := by
  rw [ev_eq]
  simp only [Fslices_IndexFunc_Node] at h_
  obtain ⟨r_0, h1_, h_⟩ := bS_some h_
  have h1_f := Lslices_IndexFunc_Node_0_ok FU a0_75 (a0_75.length : Int) 0 _ h1_
  rcases r_0 with r133 | _
  · try dsimp only at h_
    try simp [Lslices_IndexFunc_Node_0_ans] at h1_f
    cases h_
    simp (maxSteps := 2000000) (decide := true) [-getElem?_pos, ir73, h1_f, Fslices_IndexFunc_Node_ans]
  · try dsimp only at h_
    try simp [Lslices_IndexFunc_Node_0_ans] at h1_f
    cases h_
    simp (maxSteps := 2000000) (decide := true) [-getElem?_pos, ir73, h1_f, Fslices_IndexFunc_Node_ans]
/-- impl.Node] -/
def Fslices_ContainsFunc_Node (a0_74 : List T_Node) : Option Bool :=
  bS (Fslices_IndexFunc_Node a0_74) fun r134 =>
  some (decide (0 ≤ r134))
def Fslices_ContainsFunc_Node_ans (a0_74 : List T_Node) : Bool → Ans
  | q55 => .val (.sc (.bool q55)) [.b [.fn 65 []]]
theorem Fslices_ContainsFunc_Node_ok (a0_74 : List T_Node) (r_ : Bool) (h_ : Fslices_ContainsFunc_Node a0_74 = some r_) : ev EE (.call 54 [.ls false (r_Node false a0_74), .fn 62 [.bx 0 0]] [.b [.fn 65 []]]) = some (Fslices_ContainsFunc_Node_ans a0_74 r_) := by
  rw [ev_eq]
  simp only [Fslices_ContainsFunc_Node] at h_
  obtain ⟨r134, h1_, h_⟩ := bS_some h_
  have h1_f := Fslices_IndexFunc_Node_ok a0_74 _ h1_
  try simp [Fslices_IndexFunc_Node_ans] at h1_f
  cases h_
  simp (maxSteps := 2000000) (decide := true) [-getElem?_pos, ir54, h1_f, Fslices_ContainsFunc_Node_ans]
/-- impl.kidsOk$1 -/
def Fi_kidsOk_c1 (a0_73 : List T_Node) : Option Bool :=
  bS (Fslices_ContainsFunc_Node a0_73) fun r135 =>
  some (!r135)
def Fi_kidsOk_c1_ans (a0_73 : List T_Node) : Bool → Ans
  | q56 => .val (.sc (.bool q56)) []
theorem Fi_kidsOk_c1_ok (a0_73 : List T_Node) (r_ : Bool) (h_ : Fi_kidsOk_c1 a0_73 = some r_) : ev EE (.call 61 [.ls false (r_Node false a0_73), .fn 65 []] []) = some (Fi_kidsOk_c1_ans a0_73 r_) := by
  rw [ev_eq]
  simp only [Fi_kidsOk_c1] at h_
  obtain ⟨r135, h1_, h_⟩ := bS_some h_
  have h1_f := Fslices_ContainsFunc_Node_ok a0_73 _ h1_
  try simp [Fslices_ContainsFunc_Node_ans] at h1_f
  cases h_
  simp (maxSteps := 2000000) (decide := true) [-getElem?_pos, ir61, h1_f, Fi_kidsOk_c1_ans]
/-- impl.isExpr -/
def Fi_isExpr (a0_92 : Int) (a0_93 : ByteArray) (a0_94 : Int) (a0_95 : List T_Node) : Option Bool :=
  bS (Fi_within a0_92 10 27) fun r137 =>
  if r137 = true then
    some (!(decide (a0_92 = 26)))
  else
    some false
def Fi_isExpr_ans (a0_92 : Int) (a0_93 : ByteArray) (a0_94 : Int) (a0_95 : List T_Node) : Bool → Ans
  | q57 => .val (.sc (.bool q57)) []
theorem Fi_isExpr_ok (a0_92 : Int) (a0_93 : ByteArray) (a0_94 : Int) (a0_95 : List T_Node) (r_ : Bool) (h_ : Fi_isExpr a0_92 a0_93 a0_94 a0_95 = some r_) : ev EE (.call 66 [.ag [.sc (.int .i64 a0_92), .sc (.string a0_93), .sc (.int .i64 a0_94), .ls false (r_Node false a0_95)]] []) = some (Fi_isExpr_ans a0_92 a0_93 a0_94 a0_95 r_) := by
  rw [ev_eq]
  simp only [Fi_isExpr] at h_
  obtain ⟨r137, h1_, h_⟩ := bS_some h_
  have h1_f := Fi_within_ok a0_92 10 27 _ h1_
  try simp [Fi_within_ans] at h1_f
  rcases bI h_ with ⟨h2_, h_⟩ | ⟨h2_, h_⟩
  · cases h_
    simp (maxSteps := 2000000) (decide := true) [-getElem?_pos, ir66, h1_f, h2_, Fi_isExpr_ans]
  · cases h_
    simp (maxSteps := 2000000) (decide := true) [-getElem?_pos, ir66, h1_f, h2_, Fi_isExpr_ans]
/-- impl.kidsOk$1$1 -/
def Fi_kidsOk_c1_c1_2 (a0_88 : Int) (a0_89 : ByteArray) (a0_90 : Int) (a0_91 : List T_Node) : Option Bool :=
  bS (Fi_isExpr a0_88 a0_89 a0_90 a0_91) fun r138 =>
  some (!r138)
def Fi_kidsOk_c1_c1_2_ans (a0_88 : Int) (a0_89 : ByteArray) (a0_90 : Int) (a0_91 : List T_Node) : Bool → Ans
  | q58 => .val (.sc (.bool q58)) [.b [.fn 66 []]]
theorem Fi_kidsOk_c1_c1_2_ok (a0_88 : Int) (a0_89 : ByteArray) (a0_90 : Int) (a0_91 : List T_Node) (r_ : Bool) (h_ : Fi_kidsOk_c1_c1_2 a0_88 a0_89 a0_90 a0_91 = some r_) : ev EE (.call 62 [.ag [.sc (.int .i64 a0_88), .sc (.string a0_89), .sc (.int .i64 a0_90), .ls false (r_Node false a0_91)], .bx 0 0] [.b [.fn 66 []]]) = some (Fi_kidsOk_c1_c1_2_ans a0_88 a0_89 a0_90 a0_91 r_) := by
  rw [ev_eq]
  simp only [Fi_kidsOk_c1_c1_2] at h_
  obtain ⟨r138, h1_, h_⟩ := bS_some h_
  have h1_f := Fi_isExpr_ok a0_88 a0_89 a0_90 a0_91 _ h1_
  try simp [Fi_isExpr_ans] at h1_f
  cases h_
  simp (maxSteps := 2000000) (decide := true) [-getElem?_pos, ir62, h1_f, Fi_kidsOk_c1_c1_2_ans]
def Lslices_IndexFunc_Node_0_2 : Nat → (List T_Node) → Int → Int → Option (Int ⊕ Unit)
  | 0, _, _, _ => none
  | n_ + 1, t0_12, t7_8, t8_4 =>
  if t8_4 < t7_8 then
    bS (getI t0_12 t8_4) fun e13 =>
    bS (Fi_kidsOk_c1_c1_2 e13.op_ e13.s_ e13.n_ e13.kids_) fun r139 =>
    if r139 = true then
      some (.inl t8_4)
    else
      Lslices_IndexFunc_Node_0_2 n_ t0_12 t7_8 (IntKind.i64.wrap (t8_4 + 1))
  else
    some (.inr ())
def Lslices_IndexFunc_Node_0_2_ans (t0_12 : List T_Node) (t7_8 : Int) (t8_4 : Int) : Int ⊕ Unit → Ans
  | .inl t4_17 => .out .ret { np := 1, tm := [(4, .sc (.int .i64 t4_17))], ar := [], bx := [(0, .b [.fn 66 []])] }
  | .inr _ => .out (.exit 0) { np := 1, tm := [], ar := [], bx := [(0, .b [.fn 66 []])] }
theorem Lslices_IndexFunc_Node_0_2_ok : ∀ (n_ : Nat) (t0_12 : List T_Node) (t7_8 : Int) (t8_4 : Int) (r_ : Int ⊕ Unit), Lslices_IndexFunc_Node_0_2 n_ t0_12 t7_8 t8_4 = some r_ → ev EE (.loop lp73_0 [0, 1, 7, 8] [4] { np := 1, tm := [(0, .ls false (r_Node false t0_12)), (1, .fn 62 [.bx 0 0]), (7, .sc (.int .i64 t7_8)), (8, .sc (.int .i64 t8_4))], ar := [], bx := [(0, .b [.fn 66 []])] }) = some (Lslices_IndexFunc_Node_0_2_ans t0_12 t7_8 t8_4 r_) := by
  intro n_
  induction n_ with
  | zero => intro t0_12 t7_8 t8_4 r_ h_; simp only [Lslices_IndexFunc_Node_0_2] at h_; cases h_
  | succ n_ ih_ =>
    intro t0_12 t7_8 t8_4 r_ h_
    rw [ev_loop EE lp73_0.eq_1]
    simp only [Lslices_IndexFunc_Node_0_2] at h_
    rcases bI h_ with ⟨h1_, h_⟩ | ⟨h1_, h_⟩
    · obtain ⟨e13, h2_, h_⟩ := bS_some h_
      obtain ⟨h2_a, h2_b, h2_c, h2_d⟩ := r_Node_getI (o := false)  h2_
      try simp [-getElem?_pos] at h2_d
      obtain ⟨r139, h6_, h_⟩ := bS_some h_
      have h6_f := Fi_kidsOk_c1_c1_2_ok e13.op_ e13.s_ e13.n_ e13.kids_ _ h6_
      try simp [Fi_kidsOk_c1_c1_2_ans] at h6_f
      rcases bI h_ with ⟨h7_, h_⟩ | ⟨h7_, h_⟩
      · cases h_
        simp (maxSteps := 2000000) (decide := true) [-getElem?_pos, h1_, h2_a, h2_b, h2_c, h2_d, h6_f, h7_, Lslices_IndexFunc_Node_0_2_ans]
      · have q_ := ih_ t0_12 t7_8 (IntKind.i64.wrap (t8_4 + 1)) _ h_
        rcases r_ with t4_17 | _
        all_goals (try simp [Lslices_IndexFunc_Node_0_2_ans] at q_)
        all_goals simp (maxSteps := 2000000) (decide := true) [-getElem?_pos, h1_, h2_a, h2_b, h2_c, h2_d, h6_f, h7_, q_, Lslices_IndexFunc_Node_0_2_ans]
    · cases h_
      simp (maxSteps := 2000000) (decide := true) [-getElem?_pos, h1_, Lslices_IndexFunc_Node_0_2_ans]
/-- impl.Node] -/
def Fslices_IndexFunc_Node_2 (a0_87 : List T_Node) : Option Int :=
  bS (Lslices_IndexFunc_Node_0_2 FU a0_87 (a0_87.length : Int) 0) fun r_ => match r_ with
  | .inl r140 =>
    some r140
  | .inr () =>
    some (-1)
def Fslices_IndexFunc_Node_2_ans (a0_87 : List T_Node) : Int → Ans
  | q59 => .val (.sc (.int .i64 q59)) [.b [.fn 66 []]]
theorem Fslices_IndexFunc_Node_2_ok (a0_87 : List T_Node) (r_ : Int) (h_ : Fslices_IndexFunc_Node_2 a0_87 = some r_) : ev EE (.call 73 [.ls false (r_Node false a0_87), .fn 62 [.bx 0 0]] [.b [.fn 66 []]]) = some (Fslices_IndexFunc_Node_2_ans a0_87 r_) := by
  rw [ev_eq]
  simp only [Fslices_IndexFunc_Node_2] at h_
  obtain ⟨r_0, h1_, h_⟩ := bS_some h_
  have h1_f := Lslices_IndexFunc_Node_0_2_ok FU a0_87 (a0_87.length : Int) 0 _ h1_
  rcases r_0 with r140 | _
  · try dsimp only at h_
    try simp [Lslices_IndexFunc_Node_0_2_ans] at h1_f
    cases h_
    simp (maxSteps := 2000000) (decide := true) [-getElem?_pos, ir73, h1_f, Fslices_IndexFunc_Node_2_ans]
  · try dsimp only at h_
    try simp [Lslices_IndexFunc_Node_0_2_ans] at h1_f
    cases h_
    simp (maxSteps := 2000000) (decide := true) [-getElem?_pos, ir73, h1_f, Fslices_IndexFunc_Node_2_ans]
/-- impl.Node] -/
def Fslices_ContainsFunc_Node_2 (a0_86 : List T_Node) : Option Bool :=
  bS (Fslices_IndexFunc_Node_2 a0_86) fun r141 =>
  some (decide (0 ≤ r141))
def Fslices_ContainsFunc_Node_2_ans (a0_86 : List T_Node) : Bool → Ans
  | q60 => .val (.sc (.bool q60)) [.b [.fn 66 []]]
theorem Fslices_ContainsFunc_Node_2_ok (a0_86 : List T_Node) (r_ : Bool) (h_ : Fslices_ContainsFunc_Node_2 a0_86 = some r_) : ev EE (.call 54 [.ls false (r_Node false a0_86), .fn 62 [.bx 0 0]] [.b [.fn 66 []]]) = some (Fslices_ContainsFunc_Node_2_ans a0_86 r_) := by
  rw [ev_eq]
  simp only [Fslices_ContainsFunc_Node_2] at h_
  obtain ⟨r141, h1_, h_⟩ := bS_some h_
  have h1_f := Fslices_IndexFunc_Node_2_ok a0_86 _ h1_
  try simp [Fslices_IndexFunc_Node_2_ans] at h1_f
  cases h_
  simp (maxSteps := 2000000) (decide := true) [-getElem?_pos, ir54, h1_f, Fslices_ContainsFunc_Node_2_ans]
/-- impl.kidsOk$1 -/
def Fi_kidsOk_c1_2 (a0_85 : List T_Node) : Option Bool :=
  bS (Fslices_ContainsFunc_Node_2 a0_85) fun r142 =>
  some (!r142)
def Fi_kidsOk_c1_2_ans (a0_85 : List T_Node) : Bool → Ans
  | q61 => .val (.sc (.bool q61)) []
theorem Fi_kidsOk_c1_2_ok (a0_85 : List T_Node) (r_ : Bool) (h_ : Fi_kidsOk_c1_2 a0_85 = some r_) : ev EE (.call 61 [.ls false (r_Node false a0_85), .fn 66 []] []) = some (Fi_kidsOk_c1_2_ans a0_85 r_) := by
  rw [ev_eq]
  simp only [Fi_kidsOk_c1_2] at h_
  obtain ⟨r142, h1_, h_⟩ := bS_some h_
  have h1_f := Fslices_ContainsFunc_Node_2_ok a0_85 _ h1_
  try simp [Fslices_ContainsFunc_Node_2_ans] at h1_f
  cases h_
  simp (maxSteps := 2000000) (decide := true) [-getElem?_pos, ir61, h1_f, Fi_kidsOk_c1_2_ans]
/-- impl.kidsOk$2 -/
def Fi_kidsOk_c2 (a0_96 : Int) : Option Int :=
  some a0_96
def Fi_kidsOk_c2_ans (a0_96 : Int) : Int → Ans
  | q62 => .val (.fn 64 [.bx 0 0]) [.b [.sc (.int .i64 q62)]]
theorem Fi_kidsOk_c2_ok (a0_96 : Int) (r_ : Int) (h_ : Fi_kidsOk_c2 a0_96 = some r_) : ev EE (.call 63 [.sc (.int .i64 a0_96)] []) = some (Fi_kidsOk_c2_ans a0_96 r_) := by
  rw [ev_eq]
  simp only [Fi_kidsOk_c2] at h_
  cases h_
  simp (maxSteps := 2000000) (decide := true) [-getElem?_pos, ir63, Fi_kidsOk_c2_ans]
/-- impl.kidsOk$2$1 -/
def Fi_kidsOk_c2_c1 (a0_104 : Int) (a0_105 : ByteArray) (a0_106 : Int) (a0_107 : List T_Node) (x0_42 : Int) : Option (Bool × Int) :=
  some ((decide (a0_104 = x0_42)), x0_42)
def Fi_kidsOk_c2_c1_ans (a0_104 : Int) (a0_105 : ByteArray) (a0_106 : Int) (a0_107 : List T_Node) (x0_42 : Int) : (Bool × Int) → Ans
  | (q63, q64) => .val (.sc (.bool q63)) [.b [.sc (.int .i64 q64)]]
theorem Fi_kidsOk_c2_c1_ok (a0_104 : Int) (a0_105 : ByteArray) (a0_106 : Int) (a0_107 : List T_Node) (x0_42 : Int) (r_ : (Bool × Int)) (h_ : Fi_kidsOk_c2_c1 a0_104 a0_105 a0_106 a0_107 x0_42 = some r_) : ev EE (.call 64 [.ag [.sc (.int .i64 a0_104), .sc (.string a0_105), .sc (.int .i64 a0_106), .ls false (r_Node false a0_107)], .bx 0 0] [.b [.sc (.int .i64 x0_42)]]) = some (Fi_kidsOk_c2_c1_ans a0_104 a0_105 a0_106 a0_107 x0_42 r_) := by
  rw [ev_eq]
  simp only [Fi_kidsOk_c2_c1] at h_
  cases h_
  simp (maxSteps := 2000000) (decide := true) [-getElem?_pos, ir64, Fi_kidsOk_c2_c1_ans]
/-- impl.kidsOk$1$1 -/
def Fi_kidsOk_c1_c1_3 (a0_100 : Int) (a0_101 : ByteArray) (a0_102 : Int) (a0_103 : List T_Node) (x1_4 : Int) : Option (Bool × Int) :=
  bS (Fi_kidsOk_c2_c1 a0_100 a0_101 a0_102 a0_103 x1_4) fun (r160, r161) =>
  some ((!r160), r161)
def Fi_kidsOk_c1_c1_3_ans (a0_100 : Int) (a0_101 : ByteArray) (a0_102 : Int) (a0_103 : List T_Node) (x1_4 : Int) : (Bool × Int) → Ans
  | (q65, q66) => .val (.sc (.bool q65)) [.b [.fn 64 [.bx 1 0]], .b [.sc (.int .i64 q66)]]
theorem Fi_kidsOk_c1_c1_3_ok (a0_100 : Int) (a0_101 : ByteArray) (a0_102 : Int) (a0_103 : List T_Node) (x1_4 : Int) (r_ : (Bool × Int)) (h_ : Fi_kidsOk_c1_c1_3 a0_100 a0_101 a0_102 a0_103 x1_4 = some r_) : ev EE (.call 62 [.ag [.sc (.int .i64 a0_100), .sc (.string a0_101), .sc (.int .i64 a0_102), .ls false (r_Node false a0_103)], .bx 0 0] [.b [.fn 64 [.bx 1 0]], .b [.sc (.int .i64 x1_4)]]) = some (Fi_kidsOk_c1_c1_3_ans a0_100 a0_101 a0_102 a0_103 x1_4 r_) := by
  rw [ev_eq]
  simp only [Fi_kidsOk_c1_c1_3] at h_
  obtain ⟨⟨r160, r161⟩, h1_, h_⟩ := bS_some h_
  try dsimp only at h_
  have h1_f := Fi_kidsOk_c2_c1_ok a0_100 a0_101 a0_102 a0_103 x1_4 _ h1_
  try simp [Fi_kidsOk_c2_c1_ans] at h1_f
  cases h_
  simp (maxSteps := 2000000) (decide := true) [-getElem?_pos, ir62, h1_f, Fi_kidsOk_c1_c1_3_ans]
def Lslices_IndexFunc_Node_0_3 : Nat → (List T_Node) → Int → Int → Int → Option ((Int × Int) ⊕ Int)
  | 0, _, _, _, _ => none
  | n_ + 1, t0_13, t7_9, t8_5, x1_3 =>
  if t8_5 < t7_9 then
    bS (getI t0_13 t8_5) fun e15 =>
    bS (Fi_kidsOk_c1_c1_3 e15.op_ e15.s_ e15.n_ e15.kids_ x1_3) fun (r162, r163) =>
    if r162 = true then
      some (.inl (t8_5, r163))
    else
      Lslices_IndexFunc_Node_0_3 n_ t0_13 t7_9 (IntKind.i64.wrap (t8_5 + 1)) r163
  else
    some (.inr x1_3)
def Lslices_IndexFunc_Node_0_3_ans (t0_13 : List T_Node) (t7_9 : Int) (t8_5 : Int) (x1_3 : Int) : (Int × Int) ⊕ Int → Ans
  | .inl (t4_18, x1_5) => .out .ret { np := 2, tm := [(4, .sc (.int .i64 t4_18))], ar := [], bx := [(0, .b [.fn 64 [.bx 1 0]]), (1, .b [.sc (.int .i64 x1_5)])] }
  | .inr x1_6 => .out (.exit 0) { np := 2, tm := [], ar := [], bx := [(0, .b [.fn 64 [.bx 1 0]]), (1, .b [.sc (.int .i64 x1_6)])] }
theorem Lslices_IndexFunc_Node_0_3_ok : ∀ (n_ : Nat) (t0_13 : List T_Node) (t7_9 : Int) (t8_5 : Int) (x1_3 : Int) (r_ : (Int × Int) ⊕ Int), Lslices_IndexFunc_Node_0_3 n_ t0_13 t7_9 t8_5 x1_3 = some r_ → ev EE (.loop lp73_0 [0, 1, 7, 8] [4] { np := 2, tm := [(0, .ls false (r_Node false t0_13)), (1, .fn 62 [.bx 0 0]), (7, .sc (.int .i64 t7_9)), (8, .sc (.int .i64 t8_5))], ar := [], bx := [(0, .b [.fn 64 [.bx 1 0]]), (1, .b [.sc (.int .i64 x1_3)])] }) = some (Lslices_IndexFunc_Node_0_3_ans t0_13 t7_9 t8_5 x1_3 r_) := by
  intro n_
  induction n_ with
  | zero => intro t0_13 t7_9 t8_5 x1_3 r_ h_; simp only [Lslices_IndexFunc_Node_0_3] at h_; cases h_
  | succ n_ ih_ =>
    intro t0_13 t7_9 t8_5 x1_3 r_ h_
    rw [ev_loop EE lp73_0.eq_1]
    simp only [Lslices_IndexFunc_Node_0_3] at h_
    rcases bI h_ with ⟨h1_, h_⟩ | ⟨h1_, h_⟩
    · obtain ⟨e15, h2_, h_⟩ := bS_some h_
      obtain ⟨h2_a, h2_b, h2_c, h2_d⟩ := r_Node_getI (o := false)  h2_
      try simp [-getElem?_pos] at h2_d
      obtain ⟨⟨r162, r163⟩, h6_, h_⟩ := bS_some h_
      try dsimp only at h_
      have h6_f := Fi_kidsOk_c1_c1_3_ok e15.op_ e15.s_ e15.n_ e15.kids_ x1_3 _ h6_
      try simp [Fi_kidsOk_c1_c1_3_ans] at h6_f
      rcases bI h_ with ⟨h7_, h_⟩ | ⟨h7_, h_⟩
      · cases h_
        simp (maxSteps := 2000000) (decide := true) [-getElem?_pos, h1_, h2_a, h2_b, h2_c, h2_d, h6_f, h7_, Lslices_IndexFunc_Node_0_3_ans]
      · have q_ := ih_ t0_13 t7_9 (IntKind.i64.wrap (t8_5 + 1)) r163 _ h_
        rcases r_ with ⟨t4_18, x1_5⟩ | x1_6
        all_goals (try simp [Lslices_IndexFunc_Node_0_3_ans] at q_)
        all_goals simp (maxSteps := 2000000) (decide := true) [-getElem?_pos, h1_, h2_a, h2_b, h2_c, h2_d, h6_f, h7_, q_, Lslices_IndexFunc_Node_0_3_ans]
    · cases h_
      simp (maxSteps := 2000000) (decide := true) [-getElem?_pos, h1_, Lslices_IndexFunc_Node_0_3_ans]
/-- impl.Node] -/
def Fslices_IndexFunc_Node_3 (a0_99 : List T_Node) (x1_2 : Int) : Option (Int × Int) :=
  bS (Lslices_IndexFunc_Node_0_3 FU a0_99 (a0_99.length : Int) 0 x1_2) fun r_ => match r_ with
  | .inl (r164, r165) =>
    some (r164, r165)
  | .inr r166 =>
    some ((-1), r166)
def Fslices_IndexFunc_Node_3_ans (a0_99 : List T_Node) (x1_2 : Int) : (Int × Int) → Ans
  | (q67, q68) => .val (.sc (.int .i64 q67)) [.b [.fn 64 [.bx 1 0]], .b [.sc (.int .i64 q68)]]
theorem Fslices_IndexFunc_Node_3_ok (a0_99 : List T_Node) (x1_2 : Int) (r_ : (Int × Int)) (h_ : Fslices_IndexFunc_Node_3 a0_99 x1_2 = some r_) : ev EE (.call 73 [.ls false (r_Node false a0_99), .fn 62 [.bx 0 0]] [.b [.fn 64 [.bx 1 0]], .b [.sc (.int .i64 x1_2)]]) = some (Fslices_IndexFunc_Node_3_ans a0_99 x1_2 r_) := by
  rw [ev_eq]
  simp only [Fslices_IndexFunc_Node_3] at h_
  obtain ⟨r_0, h1_, h_⟩ := bS_some h_
  have h1_f := Lslices_IndexFunc_Node_0_3_ok FU a0_99 (a0_99.length : Int) 0 x1_2 _ h1_
  rcases r_0 with ⟨r164, r165⟩ | r166
  · try dsimp only at h_
    try simp [Lslices_IndexFunc_Node_0_3_ans] at h1_f
    cases h_
    simp (maxSteps := 2000000) (decide := true) [-getElem?_pos, ir73, h1_f, Fslices_IndexFunc_Node_3_ans]
  · try dsimp only at h_
    try simp [Lslices_IndexFunc_Node_0_3_ans] at h1_f
    cases h_
    simp (maxSteps := 2000000) (decide := true) [-getElem?_pos, ir73, h1_f, Fslices_IndexFunc_Node_3_ans]
end Go.Pv

namespace Go.Pv
set_option maxRecDepth 100000
set_option maxHeartbeats 40000000
set_option linter.unusedSimpArgs false
set_option linter.unusedVariables false
/-- impl.Node] -/
def Fslices_ContainsFunc_Node_3 (a0_98 : List T_Node) (x1_1 : Int) : Option (Bool × Int) :=
  bS (Fslices_IndexFunc_Node_3 a0_98 x1_1) fun (r167, r168) =>
  some ((decide (0 ≤ r167)), r168)
def Fslices_ContainsFunc_Node_3_ans (a0_98 : List T_Node) (x1_1 : Int) : (Bool × Int) → Ans
  | (q69, q70) => .val (.sc (.bool q69)) [.b [.fn 64 [.bx 1 0]], .b [.sc (.int .i64 q70)]]
theorem Fslices_ContainsFunc_Node_3_ok (a0_98 : List T_Node) (x1_1 : Int) (r_ : (Bool × Int)) (h_ : Fslices_ContainsFunc_Node_3 a0_98 x1_1 = some r_) : ev EE (.call 54 [.ls false (r_Node false a0_98), .fn 62 [.bx 0 0]] [.b [.fn 64 [.bx 1 0]], .b [.sc (.int .i64 x1_1)]]) = some (Fslices_ContainsFunc_Node_3_ans a0_98 x1_1 r_) := by
  rw [ev_eq]
  simp only [Fslices_ContainsFunc_Node_3] at h_
  obtain ⟨⟨r167, r168⟩, h1_, h_⟩ := bS_some h_
  try dsimp only at h_
  have h1_f := Fslices_IndexFunc_Node_3_ok a0_98 x1_1 _ h1_
  try simp [Fslices_IndexFunc_Node_3_ans] at h1_f
  cases h_
  simp (maxSteps := 2000000) (decide := true) [-getElem?_pos, ir54, h1_f, Fslices_ContainsFunc_Node_3_ans]
/-- impl.kidsOk$1 -/
def Fi_kidsOk_c1_3 (a0_97 : List T_Node) (x0_41 : Int) : Option (Bool × Int) :=
  bS (Fslices_ContainsFunc_Node_3 a0_97 x0_41) fun (r169, r170) =>
  some ((!r169), r170)
def Fi_kidsOk_c1_3_ans (a0_97 : List T_Node) (x0_41 : Int) : (Bool × Int) → Ans
  | (q71, q72) => .val (.sc (.bool q71)) [.b [.sc (.int .i64 q72)]]
theorem Fi_kidsOk_c1_3_ok (a0_97 : List T_Node) (x0_41 : Int) (r_ : (Bool × Int)) (h_ : Fi_kidsOk_c1_3 a0_97 x0_41 = some r_) : ev EE (.call 61 [.ls false (r_Node false a0_97), .fn 64 [.bx 0 0]] [.b [.sc (.int .i64 x0_41)]]) = some (Fi_kidsOk_c1_3_ans a0_97 x0_41 r_) := by
  rw [ev_eq]
  simp only [Fi_kidsOk_c1_3] at h_
  obtain ⟨⟨r169, r170⟩, h1_, h_⟩ := bS_some h_
  try dsimp only at h_
  have h1_f := Fslices_ContainsFunc_Node_3_ok a0_97 x0_41 _ h1_
  try simp [Fslices_ContainsFunc_Node_3_ans] at h1_f
  cases h_
  simp (maxSteps := 2000000) (decide := true) [-getElem?_pos, ir61, h1_f, Fi_kidsOk_c1_3_ans]
/-- impl.kidsOk -/
def Fi_kidsOk (a0_69 : Int) (a0_70 : ByteArray) (a0_71 : Int) (a0_72 : List T_Node) : Option Bool :=
  if a0_69 = 1 then
    bS (Fi_kidsOk_c1 a0_72) fun r136 =>
    some r136
  else
  if a0_69 = 2 then
    if (a0_72.length : Int) = 1 then
      bS (Fi_kidsOk_c1_2 a0_72) fun r143 =>
      some r143
    else
      some false
  else
  if a0_69 = 3 then
    if (a0_72.length : Int) = 1 then
      bS (Fi_kidsOk_c1_2 a0_72) fun r144 =>
      some r144
    else
      some false
  else
  if a0_69 = 7 then
    if (a0_72.length : Int) = 1 then
      bS (Fi_kidsOk_c1_2 a0_72) fun r145 =>
      some r145
    else
      some false
  else
  if a0_69 = 8 then
    if (a0_72.length : Int) = 1 then
      bS (Fi_kidsOk_c1_2 a0_72) fun r146 =>
      some r146
    else
      some false
  else
  if a0_69 = 9 then
    if (a0_72.length : Int) = 1 then
      bS (Fi_kidsOk_c1_2 a0_72) fun r147 =>
      some r147
    else
      some false
  else
  if a0_69 = 17 then
    if (a0_72.length : Int) = 1 then
      bS (Fi_kidsOk_c1_2 a0_72) fun r148 =>
      some r148
    else
      some false
  else
  if a0_69 = 24 then
    if (a0_72.length : Int) = 1 then
      bS (Fi_kidsOk_c1_2 a0_72) fun r149 =>
      some r149
    else
      some false
  else
  if a0_69 = 26 then
    if (a0_72.length : Int) = 1 then
      bS (Fi_kidsOk_c1_2 a0_72) fun r150 =>
      some r150
    else
      some false
  else
  if a0_69 = 4 then
    if (a0_72.length : Int) = 2 then
      bS (Fi_kidsOk_c1_2 a0_72) fun r151 =>
      some r151
    else
      some false
  else
  if a0_69 = 19 then
    if (a0_72.length : Int) = 2 then
      bS (Fi_kidsOk_c1_2 a0_72) fun r152 =>
      some r152
    else
      some false
  else
  if a0_69 = 20 then
    if (a0_72.length : Int) = 2 then
      bS (Fi_kidsOk_c1_2 a0_72) fun r153 =>
      some r153
    else
      some false
  else
  if a0_69 = 21 then
    if (a0_72.length : Int) = 2 then
      bS (Fi_kidsOk_c1_2 a0_72) fun r154 =>
      some r154
    else
      some false
  else
  if a0_69 = 22 then
    if (a0_72.length : Int) = 2 then
      bS (Fi_kidsOk_c1_2 a0_72) fun r155 =>
      some r155
    else
      some false
  else
  if a0_69 = 23 then
    if (a0_72.length : Int) = 2 then
      bS (Fi_kidsOk_c1_2 a0_72) fun r156 =>
      some r156
    else
      some false
  else
  if a0_69 = 5 then
    bS (Fi_within (a0_72.length : Int) 2 3) fun r157 =>
    if r157 = true then
      bS (getI a0_72 0) fun e14 =>
      bS (Fi_isExpr e14.op_ e14.s_ e14.n_ e14.kids_) fun r158 =>
      if r158 = true then
        if 1 ≤ a0_72.length ∧ a0_72.length ≤ a0_72.length ∧ a0_72.length ≤ a0_72.length then
        bS (Fi_kidsOk_c2 1) fun r159 =>
        bS (Fi_kidsOk_c1_3 (List.take (a0_72.length - 1) (List.drop 1 a0_72)) r159) fun (r171, r172) =>
        some r171
        else none
      else
        some false
    else
      some false
  else
  if a0_69 = 6 then
    if (a0_72.length : Int) = 2 then
      bS (getI a0_72 0) fun e16 =>
      bS (Fi_isExpr e16.op_ e16.s_ e16.n_ e16.kids_) fun r173 =>
      if r173 = true then
        bS (getI a0_72 1) fun e17 =>
        some (decide (e17.op_ = 1))
      else
        some false
    else
      some false
  else
  if a0_69 = 18 then
    if 1 ≤ (a0_72.length : Int) then
      bS (Fi_kidsOk_c1_2 a0_72) fun r174 =>
      some r174
    else
      some false
  else
  if a0_69 = 25 then
    bS (Fi_kidsOk_c2 26) fun r175 =>
    bS (Fi_kidsOk_c1_3 a0_72 r175) fun (r176, r177) =>
    some r176
  else
  if a0_69 = 27 then
    if (a0_72.length : Int) = 1 then
      bS (getI a0_72 0) fun e18 =>
      some (decide (e18.op_ = 1))
    else
      some false
  else
  bS (Fi_within a0_69 10 16) fun r178 =>
  if r178 = true then
    some (decide ((a0_72.length : Int) = 0))
  else
    some false
def Fi_kidsOk_ans (a0_69 : Int) (a0_70 : ByteArray) (a0_71 : Int) (a0_72 : List T_Node) : Bool → Ans
  | q73 => .val (.sc (.bool q73)) []
theorem Fi_kidsOk_ok (a0_69 : Int) (a0_70 : ByteArray) (a0_71 : Int) (a0_72 : List T_Node) (r_ : Bool) (h_ : Fi_kidsOk a0_69 a0_70 a0_71 a0_72 = some r_) : ev EE (.call 52 [.ag [.sc (.int .i64 a0_69), .sc (.string a0_70), .sc (.int .i64 a0_71), .ls false (r_Node false a0_72)]] []) = some (Fi_kidsOk_ans a0_69 a0_70 a0_71 a0_72 r_) := by
  rw [ev_eq]
  simp only [Fi_kidsOk] at h_
  rcases bI h_ with ⟨h1_, h_⟩ | ⟨h1_, h_⟩
  · obtain ⟨r136, h2_, h_⟩ := bS_some h_
    have h2_f := Fi_kidsOk_c1_ok a0_72 _ h2_
    try simp [Fi_kidsOk_c1_ans] at h2_f
    cases h_
    simp (maxSteps := 2000000) (decide := true) [-getElem?_pos, ir52, eq_true h1_, h2_f, Fi_kidsOk_ans]
  · rcases bI h_ with ⟨h2_, h_⟩ | ⟨h2_, h_⟩
    · rcases bI h_ with ⟨h3_, h_⟩ | ⟨h3_, h_⟩
      · have h3_s := h3_; try simp at h3_s
        obtain ⟨r143, h5_, h_⟩ := bS_some h_
        have h5_f := Fi_kidsOk_c1_2_ok a0_72 _ h5_
        try simp [Fi_kidsOk_c1_2_ans] at h5_f
        cases h_
        simp (maxSteps := 2000000) (decide := true) [-getElem?_pos, ir52, h1_, eq_true h2_, eq_true h3_, eq_true h3_s, h5_f, Fi_kidsOk_ans]
      · have h3_s := h3_; try simp at h3_s
        cases h_
        simp (maxSteps := 2000000) (decide := true) [-getElem?_pos, ir52, h1_, eq_true h2_, h3_, h3_s, Fi_kidsOk_ans]
    · rcases bI h_ with ⟨h3_, h_⟩ | ⟨h3_, h_⟩
      · rcases bI h_ with ⟨h4_, h_⟩ | ⟨h4_, h_⟩
        · have h4_s := h4_; try simp at h4_s
          obtain ⟨r144, h6_, h_⟩ := bS_some h_
          have h6_f := Fi_kidsOk_c1_2_ok a0_72 _ h6_
          try simp [Fi_kidsOk_c1_2_ans] at h6_f
          cases h_
          simp (maxSteps := 2000000) (decide := true) [-getElem?_pos, ir52, h1_, h2_, eq_true h3_, eq_true h4_, eq_true h4_s, h6_f, Fi_kidsOk_ans]
        · have h4_s := h4_; try simp at h4_s
          cases h_
          simp (maxSteps := 2000000) (decide := true) [-getElem?_pos, ir52, h1_, h2_, eq_true h3_, h4_, h4_s, Fi_kidsOk_ans]
      · rcases bI h_ with ⟨h4_, h_⟩ | ⟨h4_, h_⟩
        · rcases bI h_ with ⟨h5_, h_⟩ | ⟨h5_, h_⟩
          · have h5_s := h5_; try simp at h5_s
            obtain ⟨r145, h7_, h_⟩ := bS_some h_
            have h7_f := Fi_kidsOk_c1_2_ok a0_72 _ h7_
            try simp [Fi_kidsOk_c1_2_ans] at h7_f
            cases h_
            simp (maxSteps := 2000000) (decide := true) [-getElem?_pos, ir52, h1_, h2_, h3_, eq_true h4_, eq_true h5_, eq_true h5_s, h7_f, Fi_kidsOk_ans]
          · have h5_s := h5_; try simp at h5_s
            cases h_
            simp (maxSteps := 2000000) (decide := true) [-getElem?_pos, ir52, h1_, h2_, h3_, eq_true h4_, h5_, h5_s, Fi_kidsOk_ans]
        · rcases bI h_ with ⟨h5_, h_⟩ | ⟨h5_, h_⟩
          · rcases bI h_ with ⟨h6_, h_⟩ | ⟨h6_, h_⟩
            · have h6_s := h6_; try simp at h6_s
              obtain ⟨r146, h8_, h_⟩ := bS_some h_
              have h8_f := Fi_kidsOk_c1_2_ok a0_72 _ h8_
              try simp [Fi_kidsOk_c1_2_ans] at h8_f
              cases h_
              simp (maxSteps := 2000000) (decide := true) [-getElem?_pos, ir52, h1_, h2_, h3_, h4_, eq_true h5_, eq_true h6_, eq_true h6_s, h8_f, Fi_kidsOk_ans]
            · have h6_s := h6_; try simp at h6_s
              cases h_
              simp (maxSteps := 2000000) (decide := true) [-getElem?_pos, ir52, h1_, h2_, h3_, h4_, eq_true h5_, h6_, h6_s, Fi_kidsOk_ans]
          · rcases bI h_ with ⟨h6_, h_⟩ | ⟨h6_, h_⟩
            · rcases bI h_ with ⟨h7_, h_⟩ | ⟨h7_, h_⟩
              · have h7_s := h7_; try simp at h7_s
                obtain ⟨r147, h9_, h_⟩ := bS_some h_
                have h9_f := Fi_kidsOk_c1_2_ok a0_72 _ h9_
                try simp [Fi_kidsOk_c1_2_ans] at h9_f
                cases h_
                simp (maxSteps := 2000000) (decide := true) [-getElem?_pos, ir52, h1_, h2_, h3_, h4_, h5_, eq_true h6_, eq_true h7_, eq_true h7_s, h9_f, Fi_kidsOk_ans]
              · have h7_s := h7_; try simp at h7_s
                cases h_
                simp (maxSteps := 2000000) (decide := true) [-getElem?_pos, ir52, h1_, h2_, h3_, h4_, h5_, eq_true h6_, h7_, h7_s, Fi_kidsOk_ans]
            · rcases bI h_ with ⟨h7_, h_⟩ | ⟨h7_, h_⟩
              · rcases bI h_ with ⟨h8_, h_⟩ | ⟨h8_, h_⟩
                · have h8_s := h8_; try simp at h8_s
                  obtain ⟨r148, h10_, h_⟩ := bS_some h_
                  have h10_f := Fi_kidsOk_c1_2_ok a0_72 _ h10_
                  try simp [Fi_kidsOk_c1_2_ans] at h10_f
                  cases h_
                  simp (maxSteps := 2000000) (decide := true) [-getElem?_pos, ir52, h1_, h2_, h3_, h4_, h5_, h6_, eq_true h7_, eq_true h8_, eq_true h8_s, h10_f, Fi_kidsOk_ans]
                · have h8_s := h8_; try simp at h8_s
                  cases h_
                  simp (maxSteps := 2000000) (decide := true) [-getElem?_pos, ir52, h1_, h2_, h3_, h4_, h5_, h6_, eq_true h7_, h8_, h8_s, Fi_kidsOk_ans]
              · rcases bI h_ with ⟨h8_, h_⟩ | ⟨h8_, h_⟩
                · rcases bI h_ with ⟨h9_, h_⟩ | ⟨h9_, h_⟩
                  · have h9_s := h9_; try simp at h9_s
                    obtain ⟨r149, h11_, h_⟩ := bS_some h_
                    have h11_f := Fi_kidsOk_c1_2_ok a0_72 _ h11_
                    try simp [Fi_kidsOk_c1_2_ans] at h11_f
                    cases h_
                    simp (maxSteps := 2000000) (decide := true) [-getElem?_pos, ir52, h1_, h2_, h3_, h4_, h5_, h6_, h7_, eq_true h8_, eq_true h9_, eq_true h9_s, h11_f, Fi_kidsOk_ans]
                  · have h9_s := h9_; try simp at h9_s
                    cases h_
                    simp (maxSteps := 2000000) (decide := true) [-getElem?_pos, ir52, h1_, h2_, h3_, h4_, h5_, h6_, h7_, eq_true h8_, h9_, h9_s, Fi_kidsOk_ans]
                · rcases bI h_ with ⟨h9_, h_⟩ | ⟨h9_, h_⟩
                  · rcases bI h_ with ⟨h10_, h_⟩ | ⟨h10_, h_⟩
                    · have h10_s := h10_; try simp at h10_s
                      obtain ⟨r150, h12_, h_⟩ := bS_some h_
                      have h12_f := Fi_kidsOk_c1_2_ok a0_72 _ h12_
                      try simp [Fi_kidsOk_c1_2_ans] at h12_f
                      cases h_
                      simp (maxSteps := 2000000) (decide := true) [-getElem?_pos, ir52, h1_, h2_, h3_, h4_, h5_, h6_, h7_, h8_, eq_true h9_, eq_true h10_, eq_true h10_s, h12_f, Fi_kidsOk_ans]
                    · have h10_s := h10_; try simp at h10_s
                      cases h_
                      simp (maxSteps := 2000000) (decide := true) [-getElem?_pos, ir52, h1_, h2_, h3_, h4_, h5_, h6_, h7_, h8_, eq_true h9_, h10_, h10_s, Fi_kidsOk_ans]
                  · rcases bI h_ with ⟨h10_, h_⟩ | ⟨h10_, h_⟩
                    · rcases bI h_ with ⟨h11_, h_⟩ | ⟨h11_, h_⟩
                      · have h11_s := h11_; try simp at h11_s
                        obtain ⟨r151, h13_, h_⟩ := bS_some h_
                        have h13_f := Fi_kidsOk_c1_2_ok a0_72 _ h13_
                        try simp [Fi_kidsOk_c1_2_ans] at h13_f
                        cases h_
                        simp (maxSteps := 2000000) (decide := true) [-getElem?_pos, ir52, h1_, h2_, h3_, h4_, h5_, h6_, h7_, h8_, h9_, eq_true h10_, eq_true h11_, eq_true h11_s, h13_f, Fi_kidsOk_ans]
                      · have h11_s := h11_; try simp at h11_s
                        cases h_
                        simp (maxSteps := 2000000) (decide := true) [-getElem?_pos, ir52, h1_, h2_, h3_, h4_, h5_, h6_, h7_, h8_, h9_, eq_true h10_, h11_, h11_s, Fi_kidsOk_ans]
                    · rcases bI h_ with ⟨h11_, h_⟩ | ⟨h11_, h_⟩
                      · rcases bI h_ with ⟨h12_, h_⟩ | ⟨h12_, h_⟩
                        · have h12_s := h12_; try simp at h12_s
                          obtain ⟨r152, h14_, h_⟩ := bS_some h_
                          have h14_f := Fi_kidsOk_c1_2_ok a0_72 _ h14_
                          try simp [Fi_kidsOk_c1_2_ans] at h14_f
                          cases h_
                          simp (maxSteps := 2000000) (decide := true) [-getElem?_pos, ir52, h1_, h2_, h3_, h4_, h5_, h6_, h7_, h8_, h9_, h10_, eq_true h11_, eq_true h12_, eq_true h12_s, h14_f, Fi_kidsOk_ans]
                        · have h12_s := h12_; try simp at h12_s
                          cases h_
                          simp (maxSteps := 2000000) (decide := true) [-getElem?_pos, ir52, h1_, h2_, h3_, h4_, h5_, h6_, h7_, h8_, h9_, h10_, eq_true h11_, h12_, h12_s, Fi_kidsOk_ans]
                      · rcases bI h_ with ⟨h12_, h_⟩ | ⟨h12_, h_⟩
                        · rcases bI h_ with ⟨h13_, h_⟩ | ⟨h13_, h_⟩
                          · have h13_s := h13_; try simp at h13_s
                            obtain ⟨r153, h15_, h_⟩ := bS_some h_
                            have h15_f := Fi_kidsOk_c1_2_ok a0_72 _ h15_
                            try simp [Fi_kidsOk_c1_2_ans] at h15_f
                            cases h_
                            simp (maxSteps := 2000000) (decide := true) [-getElem?_pos, ir52, h1_, h2_, h3_, h4_, h5_, h6_, h7_, h8_, h9_, h10_, h11_, eq_true h12_, eq_true h13_, eq_true h13_s, h15_f, Fi_kidsOk_ans]
                          · have h13_s := h13_; try simp at h13_s
                            cases h_
                            simp (maxSteps := 2000000) (decide := true) [-getElem?_pos, ir52, h1_, h2_, h3_, h4_, h5_, h6_, h7_, h8_, h9_, h10_, h11_, eq_true h12_, h13_, h13_s, Fi_kidsOk_ans]
                        · rcases bI h_ with ⟨h13_, h_⟩ | ⟨h13_, h_⟩
                          · rcases bI h_ with ⟨h14_, h_⟩ | ⟨h14_, h_⟩
                            · have h14_s := h14_; try simp at h14_s
                              obtain ⟨r154, h16_, h_⟩ := bS_some h_
                              have h16_f := Fi_kidsOk_c1_2_ok a0_72 _ h16_
                              try simp [Fi_kidsOk_c1_2_ans] at h16_f
                              cases h_
                              simp (maxSteps := 2000000) (decide := true) [-getElem?_pos, ir52, h1_, h2_, h3_, h4_, h5_, h6_, h7_, h8_, h9_, h10_, h11_, h12_, eq_true h13_, eq_true h14_, eq_true h14_s, h16_f, Fi_kidsOk_ans]
                            · have h14_s := h14_; try simp at h14_s
                              cases h_
                              simp (maxSteps := 2000000) (decide := true) [-getElem?_pos, ir52, h1_, h2_, h3_, h4_, h5_, h6_, h7_, h8_, h9_, h10_, h11_, h12_, eq_true h13_, h14_, h14_s, Fi_kidsOk_ans]
                          · rcases bI h_ with ⟨h14_, h_⟩ | ⟨h14_, h_⟩
                            · rcases bI h_ with ⟨h15_, h_⟩ | ⟨h15_, h_⟩
                              · have h15_s := h15_; try simp at h15_s
                                obtain ⟨r155, h17_, h_⟩ := bS_some h_
                                have h17_f := Fi_kidsOk_c1_2_ok a0_72 _ h17_
                                try simp [Fi_kidsOk_c1_2_ans] at h17_f
                                cases h_
                                simp (maxSteps := 2000000) (decide := true) [-getElem?_pos, ir52, h1_, h2_, h3_, h4_, h5_, h6_, h7_, h8_, h9_, h10_, h11_, h12_, h13_, eq_true h14_, eq_true h15_, eq_true h15_s, h17_f, Fi_kidsOk_ans]
                              · have h15_s := h15_; try simp at h15_s
                                cases h_
                                simp (maxSteps := 2000000) (decide := true) [-getElem?_pos, ir52, h1_, h2_, h3_, h4_, h5_, h6_, h7_, h8_, h9_, h10_, h11_, h12_, h13_, eq_true h14_, h15_, h15_s, Fi_kidsOk_ans]
                            · rcases bI h_ with ⟨h15_, h_⟩ | ⟨h15_, h_⟩
                              · rcases bI h_ with ⟨h16_, h_⟩ | ⟨h16_, h_⟩
                                · have h16_s := h16_; try simp at h16_s
                                  obtain ⟨r156, h18_, h_⟩ := bS_some h_
                                  have h18_f := Fi_kidsOk_c1_2_ok a0_72 _ h18_
                                  try simp [Fi_kidsOk_c1_2_ans] at h18_f
                                  cases h_
                                  simp (maxSteps := 2000000) (decide := true) [-getElem?_pos, ir52, h1_, h2_, h3_, h4_, h5_, h6_, h7_, h8_, h9_, h10_, h11_, h12_, h13_, h14_, eq_true h15_, eq_true h16_, eq_true h16_s, h18_f, Fi_kidsOk_ans]
                                · have h16_s := h16_; try simp at h16_s
                                  cases h_
                                  simp (maxSteps := 2000000) (decide := true) [-getElem?_pos, ir52, h1_, h2_, h3_, h4_, h5_, h6_, h7_, h8_, h9_, h10_, h11_, h12_, h13_, h14_, eq_true h15_, h16_, h16_s, Fi_kidsOk_ans]
                              · rcases bI h_ with ⟨h16_, h_⟩ | ⟨h16_, h_⟩
                                · obtain ⟨r157, h17_, h_⟩ := bS_some h_
                                  have h17_f := Fi_within_ok (a0_72.length : Int) 2 3 _ h17_
                                  try simp [Fi_within_ans] at h17_f
                                  rcases bI h_ with ⟨h18_, h_⟩ | ⟨h18_, h_⟩
                                  · obtain ⟨e14, h19_, h_⟩ := bS_some h_
                                    obtain ⟨h19_a, h19_b, h19_c, h19_d⟩ := r_Node_getI (o := false)  h19_
                                    try simp [-getElem?_pos] at h19_d
                                    try simp at h19_b
                                    try simp at h19_c
                                    try simp at h19_b; try simp at h19_c
                                    obtain ⟨r158, h23_, h_⟩ := bS_some h_
                                    have h23_f := Fi_isExpr_ok e14.op_ e14.s_ e14.n_ e14.kids_ _ h23_
                                    try simp [Fi_isExpr_ans] at h23_f
                                    rcases bI h_ with ⟨h24_, h_⟩ | ⟨h24_, h_⟩
                                    · obtain ⟨h25_, h_⟩ := bP h_
                                      obtain ⟨r159, h26_, h_⟩ := bS_some h_
                                      have h26_f := Fi_kidsOk_c2_ok 1 _ h26_
                                      try simp [Fi_kidsOk_c2_ans] at h26_f
                                      obtain ⟨⟨r171, r172⟩, h27_, h_⟩ := bS_some h_
                                      try dsimp only at h_
                                      have h27_f := Fi_kidsOk_c1_3_ok (List.take (a0_72.length - 1) (List.drop 1 a0_72)) r159 _ h27_
                                      try simp [Fi_kidsOk_c1_3_ans] at h27_f
                                      cases h_
                                      simp (maxSteps := 2000000) (decide := true) [-getElem?_pos, ir52, h1_, h2_, h3_, h4_, h5_, h6_, h7_, h8_, h9_, h10_, h11_, h12_, h13_, h14_, h15_, eq_true h16_, h17_f, h18_, h19_a, h19_b, h19_c, h19_d, h23_f, h24_, h25_, h26_f, h27_f, Fi_kidsOk_ans]
                                    · cases h_
                                      simp (maxSteps := 2000000) (decide := true) [-getElem?_pos, ir52, h1_, h2_, h3_, h4_, h5_, h6_, h7_, h8_, h9_, h10_, h11_, h12_, h13_, h14_, h15_, eq_true h16_, h17_f, h18_, h19_a, h19_b, h19_c, h19_d, h23_f, h24_, Fi_kidsOk_ans]
                                  · cases h_
                                    simp (maxSteps := 2000000) (decide := true) [-getElem?_pos, ir52, h1_, h2_, h3_, h4_, h5_, h6_, h7_, h8_, h9_, h10_, h11_, h12_, h13_, h14_, h15_, eq_true h16_, h17_f, h18_, Fi_kidsOk_ans]
                                · rcases bI h_ with ⟨h17_, h_⟩ | ⟨h17_, h_⟩
                                  · rcases bI h_ with ⟨h18_, h_⟩ | ⟨h18_, h_⟩
                                    · have h18_s := h18_; try simp at h18_s
                                      obtain ⟨e16, h20_, h_⟩ := bS_some h_
                                      obtain ⟨h20_a, h20_b, h20_c, h20_d⟩ := r_Node_getI (o := false)  h20_
                                      try simp [-getElem?_pos] at h20_d
                                      try simp at h20_b
                                      try simp at h20_c
                                      try simp at h20_b; try simp at h20_c
                                      obtain ⟨r173, h24_, h_⟩ := bS_some h_
                                      have h24_f := Fi_isExpr_ok e16.op_ e16.s_ e16.n_ e16.kids_ _ h24_
                                      try simp [Fi_isExpr_ans] at h24_f
                                      rcases bI h_ with ⟨h25_, h_⟩ | ⟨h25_, h_⟩
                                      · obtain ⟨e17, h26_, h_⟩ := bS_some h_
                                        obtain ⟨h26_a, h26_b, h26_c, h26_d⟩ := r_Node_getI (o := false)  h26_
                                        try simp [-getElem?_pos] at h26_d
                                        try simp at h26_b
                                        try simp at h26_c
                                        try simp at h26_b; try simp at h26_c
                                        cases h_
                                        simp (maxSteps := 2000000) (decide := true) [-getElem?_pos, ir52, h1_, h2_, h3_, h4_, h5_, h6_, h7_, h8_, h9_, h10_, h11_, h12_, h13_, h14_, h15_, h16_, eq_true h17_, eq_true h18_, eq_true h18_s, h20_a, h20_b, h20_c, h20_d, h24_f, h25_, h26_a, h26_b, h26_c, h26_d, Fi_kidsOk_ans]
                                      · cases h_
                                        simp (maxSteps := 2000000) (decide := true) [-getElem?_pos, ir52, h1_, h2_, h3_, h4_, h5_, h6_, h7_, h8_, h9_, h10_, h11_, h12_, h13_, h14_, h15_, h16_, eq_true h17_, eq_true h18_, eq_true h18_s, h20_a, h20_b, h20_c, h20_d, h24_f, h25_, Fi_kidsOk_ans]
                                    · have h18_s := h18_; try simp at h18_s
                                      cases h_
                                      simp (maxSteps := 2000000) (decide := true) [-getElem?_pos, ir52, h1_, h2_, h3_, h4_, h5_, h6_, h7_, h8_, h9_, h10_, h11_, h12_, h13_, h14_, h15_, h16_, eq_true h17_, h18_, h18_s, Fi_kidsOk_ans]
                                  · rcases bI h_ with ⟨h18_, h_⟩ | ⟨h18_, h_⟩
                                    · rcases bI h_ with ⟨h19_, h_⟩ | ⟨h19_, h_⟩
                                      · have h19_s := h19_; try simp at h19_s
                                        obtain ⟨r174, h21_, h_⟩ := bS_some h_
                                        have h21_f := Fi_kidsOk_c1_2_ok a0_72 _ h21_
                                        try simp [Fi_kidsOk_c1_2_ans] at h21_f
                                        cases h_
                                        simp (maxSteps := 2000000) (decide := true) [-getElem?_pos, ir52, h1_, h2_, h3_, h4_, h5_, h6_, h7_, h8_, h9_, h10_, h11_, h12_, h13_, h14_, h15_, h16_, h17_, eq_true h18_, h19_, h19_s, h21_f, Fi_kidsOk_ans]
                                      · have h19_s := h19_; try simp at h19_s
                                        cases h_
                                        simp (maxSteps := 2000000) (decide := true) [-getElem?_pos, ir52, h1_, h2_, h3_, h4_, h5_, h6_, h7_, h8_, h9_, h10_, h11_, h12_, h13_, h14_, h15_, h16_, h17_, eq_true h18_, h19_, h19_s, Fi_kidsOk_ans]
                                    · rcases bI h_ with ⟨h19_, h_⟩ | ⟨h19_, h_⟩
                                      · obtain ⟨r175, h20_, h_⟩ := bS_some h_
                                        have h20_f := Fi_kidsOk_c2_ok 26 _ h20_
                                        try simp [Fi_kidsOk_c2_ans] at h20_f
                                        obtain ⟨⟨r176, r177⟩, h21_, h_⟩ := bS_some h_
                                        try dsimp only at h_
                                        have h21_f := Fi_kidsOk_c1_3_ok a0_72 r175 _ h21_
                                        try simp [Fi_kidsOk_c1_3_ans] at h21_f
                                        cases h_
                                        simp (maxSteps := 2000000) (decide := true) [-getElem?_pos, ir52, h1_, h2_, h3_, h4_, h5_, h6_, h7_, h8_, h9_, h10_, h11_, h12_, h13_, h14_, h15_, h16_, h17_, h18_, eq_true h19_, h20_f, h21_f, Fi_kidsOk_ans]
                                      · rcases bI h_ with ⟨h20_, h_⟩ | ⟨h20_, h_⟩
                                        · rcases bI h_ with ⟨h21_, h_⟩ | ⟨h21_, h_⟩
                                          · have h21_s := h21_; try simp at h21_s
                                            obtain ⟨e18, h23_, h_⟩ := bS_some h_
                                            obtain ⟨h23_a, h23_b, h23_c, h23_d⟩ := r_Node_getI (o := false)  h23_
                                            try simp [-getElem?_pos] at h23_d
                                            try simp at h23_b
                                            try simp at h23_c
                                            try simp at h23_b; try simp at h23_c
                                            cases h_
                                            simp (maxSteps := 2000000) (decide := true) [-getElem?_pos, ir52, h1_, h2_, h3_, h4_, h5_, h6_, h7_, h8_, h9_, h10_, h11_, h12_, h13_, h14_, h15_, h16_, h17_, h18_, h19_, eq_true h20_, eq_true h21_, eq_true h21_s, h23_a, h23_b, h23_c, h23_d, Fi_kidsOk_ans]
                                          · have h21_s := h21_; try simp at h21_s
                                            cases h_
                                            simp (maxSteps := 2000000) (decide := true) [-getElem?_pos, ir52, h1_, h2_, h3_, h4_, h5_, h6_, h7_, h8_, h9_, h10_, h11_, h12_, h13_, h14_, h15_, h16_, h17_, h18_, h19_, eq_true h20_, h21_, h21_s, Fi_kidsOk_ans]
                                        · obtain ⟨r178, h21_, h_⟩ := bS_some h_
                                          have h21_f := Fi_within_ok a0_69 10 16 _ h21_
                                          try simp [Fi_within_ans] at h21_f
                                          rcases bI h_ with ⟨h22_, h_⟩ | ⟨h22_, h_⟩
                                          · cases h_
                                            simp (maxSteps := 2000000) (decide := true) [-getElem?_pos, ir52, h1_, h2_, h3_, h4_, h5_, h6_, h7_, h8_, h9_, h10_, h11_, h12_, h13_, h14_, h15_, h16_, h17_, h18_, h19_, h20_, h21_f, h22_, Fi_kidsOk_ans]
                                          · cases h_
                                            simp (maxSteps := 2000000) (decide := true) [-getElem?_pos, ir52, h1_, h2_, h3_, h4_, h5_, h6_, h7_, h8_, h9_, h10_, h11_, h12_, h13_, h14_, h15_, h16_, h17_, h18_, h19_, h20_, h21_f, h22_, Fi_kidsOk_ans]
/-- impl.letter -/
def Fi_letter (a0_114 : Int) : Option Bool :=
  if 97 ≤ a0_114 then
    if a0_114 ≤ 122 then
      some true
    else
    if 65 ≤ a0_114 then
      some (decide (a0_114 ≤ 90))
    else
      some false
  else
  if 65 ≤ a0_114 then
    some (decide (a0_114 ≤ 90))
  else
    some false
def Fi_letter_ans (a0_114 : Int) : Bool → Ans
  | q74 => .val (.sc (.bool q74)) []
theorem Fi_letter_ok (a0_114 : Int) (r_ : Bool) (h_ : Fi_letter a0_114 = some r_) : ev EE (.call 91 [.sc (.int .u8 a0_114)] []) = some (Fi_letter_ans a0_114 r_) := by
  rw [ev_eq]
  simp only [Fi_letter] at h_
  rcases bI h_ with ⟨h1_, h_⟩ | ⟨h1_, h_⟩
  · rcases bI h_ with ⟨h2_, h_⟩ | ⟨h2_, h_⟩
    · cases h_
      simp (maxSteps := 2000000) (decide := true) [-getElem?_pos, ir91, h1_, h2_, Fi_letter_ans]
    · rcases bI h_ with ⟨h3_, h_⟩ | ⟨h3_, h_⟩
      · cases h_
        simp (maxSteps := 2000000) (decide := true) [-getElem?_pos, ir91, h1_, h2_, h3_, Fi_letter_ans]
      · cases h_
        simp (maxSteps := 2000000) (decide := true) [-getElem?_pos, ir91, h1_, h2_, h3_, Fi_letter_ans]
  · rcases bI h_ with ⟨h2_, h_⟩ | ⟨h2_, h_⟩
    · cases h_
      simp (maxSteps := 2000000) (decide := true) [-getElem?_pos, ir91, h1_, h2_, Fi_letter_ans]
    · cases h_
      simp (maxSteps := 2000000) (decide := true) [-getElem?_pos, ir91, h1_, h2_, Fi_letter_ans]
/-- impl.digit -/
def Fi_digit (a0_117 : Int) : Option Bool :=
  if 48 ≤ a0_117 then
    some (decide (a0_117 ≤ 57))
  else
    some false
def Fi_digit_ans (a0_117 : Int) : Bool → Ans
  | q75 => .val (.sc (.bool q75)) []
theorem Fi_digit_ok (a0_117 : Int) (r_ : Bool) (h_ : Fi_digit a0_117 = some r_) : ev EE (.call 93 [.sc (.int .u8 a0_117)] []) = some (Fi_digit_ans a0_117 r_) := by
  rw [ev_eq]
  simp only [Fi_digit] at h_
  rcases bI h_ with ⟨h1_, h_⟩ | ⟨h1_, h_⟩
  · cases h_
    simp (maxSteps := 2000000) (decide := true) [-getElem?_pos, ir93, h1_, Fi_digit_ans]
  · cases h_
    simp (maxSteps := 2000000) (decide := true) [-getElem?_pos, ir93, h1_, Fi_digit_ans]
/-- impl.nameOk$1 -/
def Fi_nameOk_c1 (a0_116 : Int) : Option Bool :=
  bS (Fi_letter a0_116) fun r182 =>
  if r182 = true then
    some true
  else
  bS (Fi_digit a0_116) fun r183 =>
  some r183
def Fi_nameOk_c1_ans (a0_116 : Int) : Bool → Ans
  | q76 => .val (.sc (.bool q76)) []
theorem Fi_nameOk_c1_ok (a0_116 : Int) (r_ : Bool) (h_ : Fi_nameOk_c1 a0_116 = some r_) : ev EE (.call 92 [.sc (.int .u8 a0_116)] []) = some (Fi_nameOk_c1_ans a0_116 r_) := by
  rw [ev_eq]
  simp only [Fi_nameOk_c1] at h_
  obtain ⟨r182, h1_, h_⟩ := bS_some h_
  have h1_f := Fi_letter_ok a0_116 _ h1_
  try simp [Fi_letter_ans] at h1_f
  rcases bI h_ with ⟨h2_, h_⟩ | ⟨h2_, h_⟩
  · cases h_
    simp (maxSteps := 2000000) (decide := true) [-getElem?_pos, ir92, h1_f, h2_, Fi_nameOk_c1_ans]
  · obtain ⟨r183, h3_, h_⟩ := bS_some h_
    have h3_f := Fi_digit_ok a0_116 _ h3_
    try simp [Fi_digit_ans] at h3_f
    cases h_
    simp (maxSteps := 2000000) (decide := true) [-getElem?_pos, ir92, h1_f, h2_, h3_f, Fi_nameOk_c1_ans]
def Li_run_0 : Nat → ByteArray → Int → Option Int
  | 0, _, _ => none
  | n_ + 1, t0_14, t1_9 =>
  if t1_9 < (t0_14.size : Int) then
    bS (getB t0_14 t1_9) fun b14 =>
    bS (Fi_nameOk_c1 (b14.toNat : Int)) fun r184 =>
    if r184 = true then
      Li_run_0 n_ t0_14 (IntKind.i64.wrap (t1_9 + 1))
    else
      some t1_9
  else
    some t1_9
def Li_run_0_ans (t0_14 : ByteArray) (t1_9 : Int) : Int → Ans
  | t1_10 => .out (.exit 0) { np := 0, tm := [(1, .sc (.int .i64 t1_10))], ar := [], bx := [] }
theorem Li_run_0_ok : ∀ (n_ : Nat) (t0_14 : ByteArray) (t1_9 : Int) (r_ : Int), Li_run_0 n_ t0_14 t1_9 = some r_ → ev EE (.loop lp69_0 [0, 1, 2] [1, 6] { np := 0, tm := [(0, .sc (.string t0_14)), (1, .sc (.int .i64 t1_9)), (2, .fn 92 [])], ar := [], bx := [] }) = some (Li_run_0_ans t0_14 t1_9 r_) := by
  intro n_
  induction n_ with
  | zero => intro t0_14 t1_9 r_ h_; simp only [Li_run_0] at h_; cases h_
  | succ n_ ih_ =>
    intro t0_14 t1_9 r_ h_
    rw [ev_loop EE lp69_0.eq_1]
    simp only [Li_run_0] at h_
    rcases bI h_ with ⟨h1_, h_⟩ | ⟨h1_, h_⟩
    · have h1_s := h1_; try simp at h1_s
      obtain ⟨b14, h3_, h_⟩ := bS_some h_
      obtain ⟨h3_a, h3_b, h3_c, h3_d⟩ := getB_some h3_
      try simp [-getElem?_pos] at h3_d
      obtain ⟨r184, h7_, h_⟩ := bS_some h_
      have h7_f := Fi_nameOk_c1_ok (b14.toNat : Int) _ h7_
      try simp [Fi_nameOk_c1_ans] at h7_f
      rcases bI h_ with ⟨h8_, h_⟩ | ⟨h8_, h_⟩
      · have q_ := ih_ t0_14 (IntKind.i64.wrap (t1_9 + 1)) _ h_
        rcases r_ with t1_10
        all_goals (try simp [Li_run_0_ans] at q_)
        all_goals simp (maxSteps := 2000000) (decide := true) [-getElem?_pos, h1_, h1_s, h3_a, h3_b, h3_c, h3_d, h7_f, h8_, q_, Li_run_0_ans]
      · cases h_
        simp (maxSteps := 2000000) (decide := true) [-getElem?_pos, h1_, h1_s, h3_a, h3_b, h3_c, h3_d, h7_f, h8_, Li_run_0_ans]
    · have h1_s := h1_; try simp at h1_s
      cases h_
      simp (maxSteps := 2000000) (decide := true) [-getElem?_pos, h1_, h1_s, Li_run_0_ans]
/-- impl.run -/
def Fi_run (a0_115 : ByteArray) (a1_14 : Int) : Option Int :=
  bS (Li_run_0 FU a0_115 a1_14) fun r185 =>
  some r185
def Fi_run_ans (a0_115 : ByteArray) (a1_14 : Int) : Int → Ans
  | q77 => .val (.sc (.int .i64 q77)) []
theorem Fi_run_ok (a0_115 : ByteArray) (a1_14 : Int) (r_ : Int) (h_ : Fi_run a0_115 a1_14 = some r_) : ev EE (.call 69 [.sc (.string a0_115), .sc (.int .i64 a1_14), .fn 92 []] []) = some (Fi_run_ans a0_115 a1_14 r_) := by
  rw [ev_eq]
  simp only [Fi_run] at h_
  obtain ⟨r185, h1_, h_⟩ := bS_some h_
  have h1_f := Li_run_0_ok FU a0_115 a1_14 _ h1_
  try simp [Li_run_0_ans] at h1_f
  cases h_
  simp (maxSteps := 2000000) (decide := true) [-getElem?_pos, ir69, h1_f, Fi_run_ans]
/-- impl.nameOk -/
def Fi_nameOk (a0_113 : ByteArray) : Option Bool :=
  bS (Fi_within (a0_113.size : Int) 1 12) fun r180 =>
  if r180 = true then
    bS (getB a0_113 0) fun b13 =>
    bS (Fi_letter (b13.toNat : Int)) fun r181 =>
    if r181 = true then
      bS (Fi_run a0_113 0) fun r186 =>
      some (decide (r186 = (a0_113.size : Int)))
    else
      some false
  else
    some false
def Fi_nameOk_ans (a0_113 : ByteArray) : Bool → Ans
  | q78 => .val (.sc (.bool q78)) []
theorem Fi_nameOk_ok (a0_113 : ByteArray) (r_ : Bool) (h_ : Fi_nameOk a0_113 = some r_) : ev EE (.call 78 [.sc (.string a0_113)] []) = some (Fi_nameOk_ans a0_113 r_) := by
  rw [ev_eq]
  simp only [Fi_nameOk] at h_
  obtain ⟨r180, h1_, h_⟩ := bS_some h_
  have h1_f := Fi_within_ok (a0_113.size : Int) 1 12 _ h1_
  try simp [Fi_within_ans] at h1_f
  rcases bI h_ with ⟨h2_, h_⟩ | ⟨h2_, h_⟩
  · obtain ⟨b13, h3_, h_⟩ := bS_some h_
    obtain ⟨h3_a, h3_b, h3_c, h3_d⟩ := getB_some h3_
    try simp [-getElem?_pos] at h3_d
    try simp at h3_b
    try simp at h3_c
    try simp at h3_b; try simp at h3_c
    obtain ⟨r181, h7_, h_⟩ := bS_some h_
    have h7_f := Fi_letter_ok (b13.toNat : Int) _ h7_
    try simp [Fi_letter_ans] at h7_f
    rcases bI h_ with ⟨h8_, h_⟩ | ⟨h8_, h_⟩
    · obtain ⟨r186, h9_, h_⟩ := bS_some h_
      have h9_f := Fi_run_ok a0_113 0 _ h9_
      try simp [Fi_run_ans] at h9_f
      cases h_
      simp (maxSteps := 2000000) (decide := true) [-getElem?_pos, ir78, h1_f, h2_, h3_a, h3_b, h3_c, h3_d, h7_f, h8_, h9_f, Fi_nameOk_ans]
    · cases h_
      simp (maxSteps := 2000000) (decide := true) [-getElem?_pos, ir78, h1_f, h2_, h3_a, h3_b, h3_c, h3_d, h7_f, h8_, Fi_nameOk_ans]
  · cases h_
    simp (maxSteps := 2000000) (decide := true) [-getElem?_pos, ir78, h1_f, h2_, Fi_nameOk_ans]
end Go.Pv
