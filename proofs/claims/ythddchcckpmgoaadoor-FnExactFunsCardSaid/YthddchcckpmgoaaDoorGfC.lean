/- Proof: the functions as Lean functions, third part. No condition. -/
import Derived.Test.YthddchcckpmgoaaDoorGfB
set_option autoImplicit true
set_option relaxedAutoImplicit true
set_option linter.unusedSimpArgs false
set_option linter.unusedVariables false
namespace Go.Pv
set_option maxRecDepth 100000
set_option maxHeartbeats 40000000
set_option linter.unusedSimpArgs false
set_option linter.unusedVariables false
/-- spec.Funs -/
def Fs_Funs (a0_15 : Int) (a0_16 : ByteArray) (a0_17 : Int) (a0_18 : List T_Node) : Option (List T_Node) :=
  bS (Fs_NodeOk a0_15 a0_16 a0_17 a0_18) fun r129 =>
  if r129 = true then
    bS (Fs_l12Copy a0_15 a0_16 a0_17 a0_18) fun (r135, r136, r137, r138) =>
    bS (Fs_l14Funs a0_15 a0_16 a0_17 a0_18) fun r146 =>
    if lim (r146.length + 1) 56 = true then
    some ([(⟨r135, r136, r137, r138⟩ : T_Node)] ++ r146)
    else none
  else
    some []
def Fs_Funs_ans (a0_15 : Int) (a0_16 : ByteArray) (a0_17 : Int) (a0_18 : List T_Node) : (List T_Node) → Ans
  | q56 => .val (.ls true (r_Node true q56)) []
theorem Fs_Funs_ok (a0_15 : Int) (a0_16 : ByteArray) (a0_17 : Int) (a0_18 : List T_Node) (r_ : (List T_Node)) (h_ : Fs_Funs a0_15 a0_16 a0_17 a0_18 = some r_) : ev EE (.call 17 [.ag [.sc (.int .i64 a0_15), .sc (.string a0_16), .sc (.int .i64 a0_17), .ls false (r_Node false a0_18)]] []) = some (Fs_Funs_ans a0_15 a0_16 a0_17 a0_18 r_) := by
  rw [ev_eq]
  simp only [Fs_Funs] at h_
  obtain ⟨r129, h1_, h_⟩ := bS_some h_
  have h1_f := Fs_NodeOk_ok a0_15 a0_16 a0_17 a0_18 _ h1_
  try simp [Fs_NodeOk_ans] at h1_f
  rcases bI h_ with ⟨h2_, h_⟩ | ⟨h2_, h_⟩
  · obtain ⟨⟨r135, r136, r137, r138⟩, h3_, h_⟩ := bS_some h_
    try dsimp only at h_
    have h3_f := Fs_l12Copy_ok a0_15 a0_16 a0_17 a0_18 _ h3_
    try simp [Fs_l12Copy_ans] at h3_f
    obtain ⟨r146, h4_, h_⟩ := bS_some h_
    have h4_f := Fs_l14Funs_ok a0_15 a0_16 a0_17 a0_18 _ h4_
    try simp [Fs_l14Funs_ans] at h4_f
    obtain ⟨h5_, h_⟩ := bP h_
    cases h_
    simp (maxSteps := 2000000) (decide := true) [-getElem?_pos, ir17, h1_f, h2_, h3_f, h4_f, h5_, Fs_Funs_ans]
  · cases h_
    simp (maxSteps := 2000000) (decide := true) [-getElem?_pos, ir17, h1_f, h2_, Fs_Funs_ans]
/-- impl.within -/
def Fi_within (a0_100 : Int) (a1_13 : Int) (a2_2 : Int) : Option Bool :=
  if a1_13 ≤ a0_100 then
    some (decide (a0_100 ≤ a2_2))
  else
    some false
def Fi_within_ans (a0_100 : Int) (a1_13 : Int) (a2_2 : Int) : Bool → Ans
  | q57 => .val (.sc (.bool q57)) []
theorem Fi_within_ok (a0_100 : Int) (a1_13 : Int) (a2_2 : Int) (r_ : Bool) (h_ : Fi_within a0_100 a1_13 a2_2 = some r_) : ev EE (.call 67 [.sc (.int .i64 a0_100), .sc (.int .i64 a1_13), .sc (.int .i64 a2_2)] []) = some (Fi_within_ans a0_100 a1_13 a2_2 r_) := by
  rw [ev_eq]
  simp only [Fi_within] at h_
  rcases bI h_ with ⟨h1_, h_⟩ | ⟨h1_, h_⟩
  · cases h_
    simp (maxSteps := 2000000) (decide := true) [-getElem?_pos, ir67, h1_, Fi_within_ans]
  · cases h_
    simp (maxSteps := 2000000) (decide := true) [-getElem?_pos, ir67, h1_, Fi_within_ans]
/-- impl.isStatement -/
def Fi_isStatement (a0_96 : Int) (a0_97 : ByteArray) (a0_98 : Int) (a0_99 : List T_Node) : Option Bool :=
  bS (Fi_within a0_96 2 9) fun r148 =>
  some r148
def Fi_isStatement_ans (a0_96 : Int) (a0_97 : ByteArray) (a0_98 : Int) (a0_99 : List T_Node) : Bool → Ans
  | q58 => .val (.sc (.bool q58)) []
theorem Fi_isStatement_ok (a0_96 : Int) (a0_97 : ByteArray) (a0_98 : Int) (a0_99 : List T_Node) (r_ : Bool) (h_ : Fi_isStatement a0_96 a0_97 a0_98 a0_99 = some r_) : ev EE (.call 65 [.ag [.sc (.int .i64 a0_96), .sc (.string a0_97), .sc (.int .i64 a0_98), .ls false (r_Node false a0_99)]] []) = some (Fi_isStatement_ans a0_96 a0_97 a0_98 a0_99 r_) := by
  rw [ev_eq]
  simp only [Fi_isStatement] at h_
  obtain ⟨r148, h1_, h_⟩ := bS_some h_
  have h1_f := Fi_within_ok a0_96 2 9 _ h1_
  try simp [Fi_within_ans] at h1_f
  cases h_
  simp (maxSteps := 2000000) (decide := true) [-getElem?_pos, ir65, h1_f, Fi_isStatement_ans]
/-- impl.kidsOk$1$1 -/
def Fi_kidsOk_c1_c1 (a0_92 : Int) (a0_93 : ByteArray) (a0_94 : Int) (a0_95 : List T_Node) : Option Bool :=
  bS (Fi_isStatement a0_92 a0_93 a0_94 a0_95) fun r149 =>
  some (!r149)
def Fi_kidsOk_c1_c1_ans (a0_92 : Int) (a0_93 : ByteArray) (a0_94 : Int) (a0_95 : List T_Node) : Bool → Ans
  | q59 => .val (.sc (.bool q59)) [.b [.fn 65 []]]
theorem Fi_kidsOk_c1_c1_ok (a0_92 : Int) (a0_93 : ByteArray) (a0_94 : Int) (a0_95 : List T_Node) (r_ : Bool) (h_ : Fi_kidsOk_c1_c1 a0_92 a0_93 a0_94 a0_95 = some r_) : ev EE (.call 62 [.ag [.sc (.int .i64 a0_92), .sc (.string a0_93), .sc (.int .i64 a0_94), .ls false (r_Node false a0_95)], .bx 0 0] [.b [.fn 65 []]]) = some (Fi_kidsOk_c1_c1_ans a0_92 a0_93 a0_94 a0_95 r_) := by
  rw [ev_eq]
  simp only [Fi_kidsOk_c1_c1] at h_
  obtain ⟨r149, h1_, h_⟩ := bS_some h_
  have h1_f := Fi_isStatement_ok a0_92 a0_93 a0_94 a0_95 _ h1_
  try simp [Fi_isStatement_ans] at h1_f
  cases h_
  simp (maxSteps := 2000000) (decide := true) [-getElem?_pos, ir62, h1_f, Fi_kidsOk_c1_c1_ans]
def Lslices_IndexFunc_Node_0 : Nat → (List T_Node) → Int → Int → Option (Int ⊕ Unit)
  | 0, _, _, _ => none
  | n_ + 1, t0_11, t7_7, t8_3 =>
  if t8_3 < t7_7 then
    bS (getI t0_11 t8_3) fun e14 =>
    bS (Fi_kidsOk_c1_c1 e14.op_ e14.s_ e14.n_ e14.kids_) fun r150 =>
    if r150 = true then
      some (.inl t8_3)
    else
      Lslices_IndexFunc_Node_0 n_ t0_11 t7_7 (IntKind.i64.wrap (t8_3 + 1))
  else
    some (.inr ())
def Lslices_IndexFunc_Node_0_ans (t0_11 : List T_Node) (t7_7 : Int) (t8_3 : Int) : Int ⊕ Unit → Ans
  | .inl t4_18 => .out .ret { np := 1, tm := [(4, .sc (.int .i64 t4_18))], ar := [], bx := [(0, .b [.fn 65 []])] }
  | .inr _ => .out (.exit 0) { np := 1, tm := [], ar := [], bx := [(0, .b [.fn 65 []])] }
theorem Lslices_IndexFunc_Node_0_ok : ∀ (n_ : Nat) (t0_11 : List T_Node) (t7_7 : Int) (t8_3 : Int) (r_ : Int ⊕ Unit), Lslices_IndexFunc_Node_0 n_ t0_11 t7_7 t8_3 = some r_ → ev EE (.loop lp73_0 [0, 1, 7, 8] [4] { np := 1, tm := [(0, .ls false (r_Node false t0_11)), (1, .fn 62 [.bx 0 0]), (7, .sc (.int .i64 t7_7)), (8, .sc (.int .i64 t8_3))], ar := [], bx := [(0, .b [.fn 65 []])] }) = some (Lslices_IndexFunc_Node_0_ans t0_11 t7_7 t8_3 r_) := by
  intro n_
  induction n_ with
  | zero => intro t0_11 t7_7 t8_3 r_ h_; simp only [Lslices_IndexFunc_Node_0] at h_; cases h_
  | succ n_ ih_ =>
    intro t0_11 t7_7 t8_3 r_ h_
    rw [ev_loop EE lp73_0.eq_1]
    simp only [Lslices_IndexFunc_Node_0] at h_
    rcases bI h_ with ⟨h1_, h_⟩ | ⟨h1_, h_⟩
    · obtain ⟨e14, h2_, h_⟩ := bS_some h_
      obtain ⟨h2_a, h2_b, h2_c, h2_d⟩ := r_Node_getI (o := false)  h2_
      try simp [-getElem?_pos] at h2_d
      obtain ⟨r150, h6_, h_⟩ := bS_some h_
      have h6_f := Fi_kidsOk_c1_c1_ok e14.op_ e14.s_ e14.n_ e14.kids_ _ h6_
      try simp [Fi_kidsOk_c1_c1_ans] at h6_f
      rcases bI h_ with ⟨h7_, h_⟩ | ⟨h7_, h_⟩
      · cases h_
        simp (maxSteps := 2000000) (decide := true) [-getElem?_pos, h1_, h2_a, h2_b, h2_c, h2_d, h6_f, h7_, Lslices_IndexFunc_Node_0_ans]
      · have q_ := ih_ t0_11 t7_7 (IntKind.i64.wrap (t8_3 + 1)) _ h_
        rcases r_ with t4_18 | _
        all_goals (try simp [Lslices_IndexFunc_Node_0_ans] at q_)
        all_goals simp (maxSteps := 2000000) (decide := true) [-getElem?_pos, h1_, h2_a, h2_b, h2_c, h2_d, h6_f, h7_, q_, Lslices_IndexFunc_Node_0_ans]
    · cases h_
      simp (maxSteps := 2000000) (decide := true) [-getElem?_pos, h1_, Lslices_IndexFunc_Node_0_ans]
/-- impl.Node] -/
def Fslices_IndexFunc_Node (a0_91 : List T_Node) : Option Int :=
  bS (Lslices_IndexFunc_Node_0 FU a0_91 (a0_91.length : Int) 0) fun r_ => match r_ with
  | .inl r151 =>
    some r151
  | .inr () =>
    some (-1)
def Fslices_IndexFunc_Node_ans (a0_91 : List T_Node) : Int → Ans
  | q60 => .val (.sc (.int .i64 q60)) [.b [.fn 65 []]]
theorem Fslices_IndexFunc_Node_ok (a0_91 : List T_Node) (r_ : Int) (h_ : Fslices_IndexFunc_Node a0_91 = some r_) : ev EE (.call 73 [.ls false (r_Node false a0_91), .fn 62 [.bx 0 0]] [.b [.fn 65 []]]) = some (Fslices_IndexFunc_Node_ans a0_91 r_) := by
  rw [ev_eq]
  simp only [Fslices_IndexFunc_Node] at h_
  obtain ⟨r_0, h1_, h_⟩ := bS_some h_
  have h1_f := Lslices_IndexFunc_Node_0_ok FU a0_91 (a0_91.length : Int) 0 _ h1_
  rcases r_0 with r151 | _
  · try dsimp only at h_
    try simp [Lslices_IndexFunc_Node_0_ans] at h1_f
    cases h_
    simp (maxSteps := 2000000) (decide := true) [-getElem?_pos, ir73, h1_f, Fslices_IndexFunc_Node_ans]
  · try dsimp only at h_
    try simp [Lslices_IndexFunc_Node_0_ans] at h1_f
    cases h_
    simp (maxSteps := 2000000) (decide := true) [-getElem?_pos, ir73, h1_f, Fslices_IndexFunc_Node_ans]
/-- impl.Node] -/
def Fslices_ContainsFunc_Node (a0_90 : List T_Node) : Option Bool :=
  bS (Fslices_IndexFunc_Node a0_90) fun r152 =>
  some (decide (0 ≤ r152))
def Fslices_ContainsFunc_Node_ans (a0_90 : List T_Node) : Bool → Ans
  | q61 => .val (.sc (.bool q61)) [.b [.fn 65 []]]
theorem Fslices_ContainsFunc_Node_ok (a0_90 : List T_Node) (r_ : Bool) (h_ : Fslices_ContainsFunc_Node a0_90 = some r_) : ev EE (.call 54 [.ls false (r_Node false a0_90), .fn 62 [.bx 0 0]] [.b [.fn 65 []]]) = some (Fslices_ContainsFunc_Node_ans a0_90 r_) := by
  rw [ev_eq]
  simp only [Fslices_ContainsFunc_Node] at h_
  obtain ⟨r152, h1_, h_⟩ := bS_some h_
  have h1_f := Fslices_IndexFunc_Node_ok a0_90 _ h1_
  try simp [Fslices_IndexFunc_Node_ans] at h1_f
  cases h_
  simp (maxSteps := 2000000) (decide := true) [-getElem?_pos, ir54, h1_f, Fslices_ContainsFunc_Node_ans]
/-- impl.kidsOk$1 -/
def Fi_kidsOk_c1 (a0_89 : List T_Node) : Option Bool :=
  bS (Fslices_ContainsFunc_Node a0_89) fun r153 =>
  some (!r153)
def Fi_kidsOk_c1_ans (a0_89 : List T_Node) : Bool → Ans
  | q62 => .val (.sc (.bool q62)) []
theorem Fi_kidsOk_c1_ok (a0_89 : List T_Node) (r_ : Bool) (h_ : Fi_kidsOk_c1 a0_89 = some r_) : ev EE (.call 61 [.ls false (r_Node false a0_89), .fn 65 []] []) = some (Fi_kidsOk_c1_ans a0_89 r_) := by
  rw [ev_eq]
  simp only [Fi_kidsOk_c1] at h_
  obtain ⟨r153, h1_, h_⟩ := bS_some h_
  have h1_f := Fslices_ContainsFunc_Node_ok a0_89 _ h1_
  try simp [Fslices_ContainsFunc_Node_ans] at h1_f
  cases h_
  simp (maxSteps := 2000000) (decide := true) [-getElem?_pos, ir61, h1_f, Fi_kidsOk_c1_ans]
/-- impl.isExpr -/
def Fi_isExpr (a0_108 : Int) (a0_109 : ByteArray) (a0_110 : Int) (a0_111 : List T_Node) : Option Bool :=
  bS (Fi_within a0_108 10 27) fun r155 =>
  if r155 = true then
    some (!(decide (a0_108 = 26)))
  else
    some false
def Fi_isExpr_ans (a0_108 : Int) (a0_109 : ByteArray) (a0_110 : Int) (a0_111 : List T_Node) : Bool → Ans
  | q63 => .val (.sc (.bool q63)) []
theorem Fi_isExpr_ok (a0_108 : Int) (a0_109 : ByteArray) (a0_110 : Int) (a0_111 : List T_Node) (r_ : Bool) (h_ : Fi_isExpr a0_108 a0_109 a0_110 a0_111 = some r_) : ev EE (.call 66 [.ag [.sc (.int .i64 a0_108), .sc (.string a0_109), .sc (.int .i64 a0_110), .ls false (r_Node false a0_111)]] []) = some (Fi_isExpr_ans a0_108 a0_109 a0_110 a0_111 r_) := by
  rw [ev_eq]
  simp only [Fi_isExpr] at h_
  obtain ⟨r155, h1_, h_⟩ := bS_some h_
  have h1_f := Fi_within_ok a0_108 10 27 _ h1_
  try simp [Fi_within_ans] at h1_f
  rcases bI h_ with ⟨h2_, h_⟩ | ⟨h2_, h_⟩
  · cases h_
    simp (maxSteps := 2000000) (decide := true) [-getElem?_pos, ir66, h1_f, h2_, Fi_isExpr_ans]
  · cases h_
    simp (maxSteps := 2000000) (decide := true) [-getElem?_pos, ir66, h1_f, h2_, Fi_isExpr_ans]
/-- impl.kidsOk$1$1 -/
def Fi_kidsOk_c1_c1_2 (a0_104 : Int) (a0_105 : ByteArray) (a0_106 : Int) (a0_107 : List T_Node) : Option Bool :=
  bS (Fi_isExpr a0_104 a0_105 a0_106 a0_107) fun r156 =>
  some (!r156)
def Fi_kidsOk_c1_c1_2_ans (a0_104 : Int) (a0_105 : ByteArray) (a0_106 : Int) (a0_107 : List T_Node) : Bool → Ans
  | q64 => .val (.sc (.bool q64)) [.b [.fn 66 []]]
theorem Fi_kidsOk_c1_c1_2_ok (a0_104 : Int) (a0_105 : ByteArray) (a0_106 : Int) (a0_107 : List T_Node) (r_ : Bool) (h_ : Fi_kidsOk_c1_c1_2 a0_104 a0_105 a0_106 a0_107 = some r_) : ev EE (.call 62 [.ag [.sc (.int .i64 a0_104), .sc (.string a0_105), .sc (.int .i64 a0_106), .ls false (r_Node false a0_107)], .bx 0 0] [.b [.fn 66 []]]) = some (Fi_kidsOk_c1_c1_2_ans a0_104 a0_105 a0_106 a0_107 r_) := by
  rw [ev_eq]
  simp only [Fi_kidsOk_c1_c1_2] at h_
  obtain ⟨r156, h1_, h_⟩ := bS_some h_
  have h1_f := Fi_isExpr_ok a0_104 a0_105 a0_106 a0_107 _ h1_
  try simp [Fi_isExpr_ans] at h1_f
  cases h_
  simp (maxSteps := 2000000) (decide := true) [-getElem?_pos, ir62, h1_f, Fi_kidsOk_c1_c1_2_ans]
def Lslices_IndexFunc_Node_0_2 : Nat → (List T_Node) → Int → Int → Option (Int ⊕ Unit)
  | 0, _, _, _ => none
  | n_ + 1, t0_12, t7_8, t8_4 =>
  if t8_4 < t7_8 then
    bS (getI t0_12 t8_4) fun e15 =>
    bS (Fi_kidsOk_c1_c1_2 e15.op_ e15.s_ e15.n_ e15.kids_) fun r157 =>
    if r157 = true then
      some (.inl t8_4)
    else
      Lslices_IndexFunc_Node_0_2 n_ t0_12 t7_8 (IntKind.i64.wrap (t8_4 + 1))
  else
    some (.inr ())
def Lslices_IndexFunc_Node_0_2_ans (t0_12 : List T_Node) (t7_8 : Int) (t8_4 : Int) : Int ⊕ Unit → Ans
  | .inl t4_19 => .out .ret { np := 1, tm := [(4, .sc (.int .i64 t4_19))], ar := [], bx := [(0, .b [.fn 66 []])] }
  | .inr _ => .out (.exit 0) { np := 1, tm := [], ar := [], bx := [(0, .b [.fn 66 []])] }
theorem Lslices_IndexFunc_Node_0_2_ok : ∀ (n_ : Nat) (t0_12 : List T_Node) (t7_8 : Int) (t8_4 : Int) (r_ : Int ⊕ Unit), Lslices_IndexFunc_Node_0_2 n_ t0_12 t7_8 t8_4 = some r_ → ev EE (.loop lp73_0 [0, 1, 7, 8] [4] { np := 1, tm := [(0, .ls false (r_Node false t0_12)), (1, .fn 62 [.bx 0 0]), (7, .sc (.int .i64 t7_8)), (8, .sc (.int .i64 t8_4))], ar := [], bx := [(0, .b [.fn 66 []])] }) = some (Lslices_IndexFunc_Node_0_2_ans t0_12 t7_8 t8_4 r_) := by
  intro n_
  induction n_ with
  | zero => intro t0_12 t7_8 t8_4 r_ h_; simp only [Lslices_IndexFunc_Node_0_2] at h_; cases h_
  | succ n_ ih_ =>
    intro t0_12 t7_8 t8_4 r_ h_
    rw [ev_loop EE lp73_0.eq_1]
    simp only [Lslices_IndexFunc_Node_0_2] at h_
    rcases bI h_ with ⟨h1_, h_⟩ | ⟨h1_, h_⟩
    · obtain ⟨e15, h2_, h_⟩ := bS_some h_
      obtain ⟨h2_a, h2_b, h2_c, h2_d⟩ := r_Node_getI (o := false)  h2_
      try simp [-getElem?_pos] at h2_d
      obtain ⟨r157, h6_, h_⟩ := bS_some h_
      have h6_f := Fi_kidsOk_c1_c1_2_ok e15.op_ e15.s_ e15.n_ e15.kids_ _ h6_
      try simp [Fi_kidsOk_c1_c1_2_ans] at h6_f
      rcases bI h_ with ⟨h7_, h_⟩ | ⟨h7_, h_⟩
      · cases h_
        simp (maxSteps := 2000000) (decide := true) [-getElem?_pos, h1_, h2_a, h2_b, h2_c, h2_d, h6_f, h7_, Lslices_IndexFunc_Node_0_2_ans]
      · have q_ := ih_ t0_12 t7_8 (IntKind.i64.wrap (t8_4 + 1)) _ h_
        rcases r_ with t4_19 | _
        all_goals (try simp [Lslices_IndexFunc_Node_0_2_ans] at q_)
        all_goals simp (maxSteps := 2000000) (decide := true) [-getElem?_pos, h1_, h2_a, h2_b, h2_c, h2_d, h6_f, h7_, q_, Lslices_IndexFunc_Node_0_2_ans]
    · cases h_
      simp (maxSteps := 2000000) (decide := true) [-getElem?_pos, h1_, Lslices_IndexFunc_Node_0_2_ans]
/-- impl.Node] -/
def Fslices_IndexFunc_Node_2 (a0_103 : List T_Node) : Option Int :=
  bS (Lslices_IndexFunc_Node_0_2 FU a0_103 (a0_103.length : Int) 0) fun r_ => match r_ with
  | .inl r158 =>
    some r158
  | .inr () =>
    some (-1)
def Fslices_IndexFunc_Node_2_ans (a0_103 : List T_Node) : Int → Ans
  | q65 => .val (.sc (.int .i64 q65)) [.b [.fn 66 []]]
theorem Fslices_IndexFunc_Node_2_ok (a0_103 : List T_Node) (r_ : Int) (h_ : Fslices_IndexFunc_Node_2 a0_103 = some r_) : ev EE (.call 73 [.ls false (r_Node false a0_103), .fn 62 [.bx 0 0]] [.b [.fn 66 []]]) = some (Fslices_IndexFunc_Node_2_ans a0_103 r_) := by
  rw [ev_eq]
  simp only [Fslices_IndexFunc_Node_2] at h_
  obtain ⟨r_0, h1_, h_⟩ := bS_some h_
  have h1_f := Lslices_IndexFunc_Node_0_2_ok FU a0_103 (a0_103.length : Int) 0 _ h1_
  rcases r_0 with r158 | _
  · try dsimp only at h_
    try simp [Lslices_IndexFunc_Node_0_2_ans] at h1_f
    cases h_
    simp (maxSteps := 2000000) (decide := true) [-getElem?_pos, ir73, h1_f, Fslices_IndexFunc_Node_2_ans]
  · try dsimp only at h_
    try simp [Lslices_IndexFunc_Node_0_2_ans] at h1_f
    cases h_
    simp (maxSteps := 2000000) (decide := true) [-getElem?_pos, ir73, h1_f, Fslices_IndexFunc_Node_2_ans]
/-- impl.Node] -/
def Fslices_ContainsFunc_Node_2 (a0_102 : List T_Node) : Option Bool :=
  bS (Fslices_IndexFunc_Node_2 a0_102) fun r159 =>
  some (decide (0 ≤ r159))
def Fslices_ContainsFunc_Node_2_ans (a0_102 : List T_Node) : Bool → Ans
  | q66 => .val (.sc (.bool q66)) [.b [.fn 66 []]]
theorem Fslices_ContainsFunc_Node_2_ok (a0_102 : List T_Node) (r_ : Bool) (h_ : Fslices_ContainsFunc_Node_2 a0_102 = some r_) : ev EE (.call 54 [.ls false (r_Node false a0_102), .fn 62 [.bx 0 0]] [.b [.fn 66 []]]) = some (Fslices_ContainsFunc_Node_2_ans a0_102 r_) := by
  rw [ev_eq]
  simp only [Fslices_ContainsFunc_Node_2] at h_
  obtain ⟨r159, h1_, h_⟩ := bS_some h_
  have h1_f := Fslices_IndexFunc_Node_2_ok a0_102 _ h1_
  try simp [Fslices_IndexFunc_Node_2_ans] at h1_f
  cases h_
  simp (maxSteps := 2000000) (decide := true) [-getElem?_pos, ir54, h1_f, Fslices_ContainsFunc_Node_2_ans]
/-- impl.kidsOk$1 -/
def Fi_kidsOk_c1_2 (a0_101 : List T_Node) : Option Bool :=
  bS (Fslices_ContainsFunc_Node_2 a0_101) fun r160 =>
  some (!r160)
def Fi_kidsOk_c1_2_ans (a0_101 : List T_Node) : Bool → Ans
  | q67 => .val (.sc (.bool q67)) []
theorem Fi_kidsOk_c1_2_ok (a0_101 : List T_Node) (r_ : Bool) (h_ : Fi_kidsOk_c1_2 a0_101 = some r_) : ev EE (.call 61 [.ls false (r_Node false a0_101), .fn 66 []] []) = some (Fi_kidsOk_c1_2_ans a0_101 r_) := by
  rw [ev_eq]
  simp only [Fi_kidsOk_c1_2] at h_
  obtain ⟨r160, h1_, h_⟩ := bS_some h_
  have h1_f := Fslices_ContainsFunc_Node_2_ok a0_101 _ h1_
  try simp [Fslices_ContainsFunc_Node_2_ans] at h1_f
  cases h_
  simp (maxSteps := 2000000) (decide := true) [-getElem?_pos, ir61, h1_f, Fi_kidsOk_c1_2_ans]
/-- impl.kidsOk$2 -/
def Fi_kidsOk_c2 (a0_112 : Int) : Option Int :=
  some a0_112
def Fi_kidsOk_c2_ans (a0_112 : Int) : Int → Ans
  | q68 => .val (.fn 64 [.bx 0 0]) [.b [.sc (.int .i64 q68)]]
theorem Fi_kidsOk_c2_ok (a0_112 : Int) (r_ : Int) (h_ : Fi_kidsOk_c2 a0_112 = some r_) : ev EE (.call 63 [.sc (.int .i64 a0_112)] []) = some (Fi_kidsOk_c2_ans a0_112 r_) := by
  rw [ev_eq]
  simp only [Fi_kidsOk_c2] at h_
  cases h_
  simp (maxSteps := 2000000) (decide := true) [-getElem?_pos, ir63, Fi_kidsOk_c2_ans]
/-- impl.kidsOk$2$1 -/
def Fi_kidsOk_c2_c1 (a0_120 : Int) (a0_121 : ByteArray) (a0_122 : Int) (a0_123 : List T_Node) (x0_50 : Int) : Option (Bool × Int) :=
  some ((decide (a0_120 = x0_50)), x0_50)
def Fi_kidsOk_c2_c1_ans (a0_120 : Int) (a0_121 : ByteArray) (a0_122 : Int) (a0_123 : List T_Node) (x0_50 : Int) : (Bool × Int) → Ans
  | (q69, q70) => .val (.sc (.bool q69)) [.b [.sc (.int .i64 q70)]]
theorem Fi_kidsOk_c2_c1_ok (a0_120 : Int) (a0_121 : ByteArray) (a0_122 : Int) (a0_123 : List T_Node) (x0_50 : Int) (r_ : (Bool × Int)) (h_ : Fi_kidsOk_c2_c1 a0_120 a0_121 a0_122 a0_123 x0_50 = some r_) : ev EE (.call 64 [.ag [.sc (.int .i64 a0_120), .sc (.string a0_121), .sc (.int .i64 a0_122), .ls false (r_Node false a0_123)], .bx 0 0] [.b [.sc (.int .i64 x0_50)]]) = some (Fi_kidsOk_c2_c1_ans a0_120 a0_121 a0_122 a0_123 x0_50 r_) := by
  rw [ev_eq]
  simp only [Fi_kidsOk_c2_c1] at h_
  cases h_
  simp (maxSteps := 2000000) (decide := true) [-getElem?_pos, ir64, Fi_kidsOk_c2_c1_ans]
/-- impl.kidsOk$1$1 -/
def Fi_kidsOk_c1_c1_3 (a0_116 : Int) (a0_117 : ByteArray) (a0_118 : Int) (a0_119 : List T_Node) (x1_9 : Int) : Option (Bool × Int) :=
  bS (Fi_kidsOk_c2_c1 a0_116 a0_117 a0_118 a0_119 x1_9) fun (r178, r179) =>
  some ((!r178), r179)
def Fi_kidsOk_c1_c1_3_ans (a0_116 : Int) (a0_117 : ByteArray) (a0_118 : Int) (a0_119 : List T_Node) (x1_9 : Int) : (Bool × Int) → Ans
  | (q71, q72) => .val (.sc (.bool q71)) [.b [.fn 64 [.bx 1 0]], .b [.sc (.int .i64 q72)]]
theorem Fi_kidsOk_c1_c1_3_ok (a0_116 : Int) (a0_117 : ByteArray) (a0_118 : Int) (a0_119 : List T_Node) (x1_9 : Int) (r_ : (Bool × Int)) (h_ : Fi_kidsOk_c1_c1_3 a0_116 a0_117 a0_118 a0_119 x1_9 = some r_) : ev EE (.call 62 [.ag [.sc (.int .i64 a0_116), .sc (.string a0_117), .sc (.int .i64 a0_118), .ls false (r_Node false a0_119)], .bx 0 0] [.b [.fn 64 [.bx 1 0]], .b [.sc (.int .i64 x1_9)]]) = some (Fi_kidsOk_c1_c1_3_ans a0_116 a0_117 a0_118 a0_119 x1_9 r_) := by
  rw [ev_eq]
  simp only [Fi_kidsOk_c1_c1_3] at h_
  obtain ⟨⟨r178, r179⟩, h1_, h_⟩ := bS_some h_
  try dsimp only at h_
  have h1_f := Fi_kidsOk_c2_c1_ok a0_116 a0_117 a0_118 a0_119 x1_9 _ h1_
  try simp [Fi_kidsOk_c2_c1_ans] at h1_f
  cases h_
  simp (maxSteps := 2000000) (decide := true) [-getElem?_pos, ir62, h1_f, Fi_kidsOk_c1_c1_3_ans]
def Lslices_IndexFunc_Node_0_3 : Nat → (List T_Node) → Int → Int → Int → Option ((Int × Int) ⊕ Int)
  | 0, _, _, _, _ => none
  | n_ + 1, t0_13, t7_9, t8_5, x1_8 =>
  if t8_5 < t7_9 then
    bS (getI t0_13 t8_5) fun e17 =>
    bS (Fi_kidsOk_c1_c1_3 e17.op_ e17.s_ e17.n_ e17.kids_ x1_8) fun (r180, r181) =>
    if r180 = true then
      some (.inl (t8_5, r181))
    else
      Lslices_IndexFunc_Node_0_3 n_ t0_13 t7_9 (IntKind.i64.wrap (t8_5 + 1)) r181
  else
    some (.inr x1_8)
def Lslices_IndexFunc_Node_0_3_ans (t0_13 : List T_Node) (t7_9 : Int) (t8_5 : Int) (x1_8 : Int) : (Int × Int) ⊕ Int → Ans
  | .inl (t4_20, x1_10) => .out .ret { np := 2, tm := [(4, .sc (.int .i64 t4_20))], ar := [], bx := [(0, .b [.fn 64 [.bx 1 0]]), (1, .b [.sc (.int .i64 x1_10)])] }
  | .inr x1_11 => .out (.exit 0) { np := 2, tm := [], ar := [], bx := [(0, .b [.fn 64 [.bx 1 0]]), (1, .b [.sc (.int .i64 x1_11)])] }
theorem Lslices_IndexFunc_Node_0_3_ok : ∀ (n_ : Nat) (t0_13 : List T_Node) (t7_9 : Int) (t8_5 : Int) (x1_8 : Int) (r_ : (Int × Int) ⊕ Int), Lslices_IndexFunc_Node_0_3 n_ t0_13 t7_9 t8_5 x1_8 = some r_ → ev EE (.loop lp73_0 [0, 1, 7, 8] [4] { np := 2, tm := [(0, .ls false (r_Node false t0_13)), (1, .fn 62 [.bx 0 0]), (7, .sc (.int .i64 t7_9)), (8, .sc (.int .i64 t8_5))], ar := [], bx := [(0, .b [.fn 64 [.bx 1 0]]), (1, .b [.sc (.int .i64 x1_8)])] }) = some (Lslices_IndexFunc_Node_0_3_ans t0_13 t7_9 t8_5 x1_8 r_) := by
  intro n_
  induction n_ with
  | zero => intro t0_13 t7_9 t8_5 x1_8 r_ h_; simp only [Lslices_IndexFunc_Node_0_3] at h_; cases h_
  | succ n_ ih_ =>
    intro t0_13 t7_9 t8_5 x1_8 r_ h_
    rw [ev_loop EE lp73_0.eq_1]
    simp only [Lslices_IndexFunc_Node_0_3] at h_
    rcases bI h_ with ⟨h1_, h_⟩ | ⟨h1_, h_⟩
    · obtain ⟨e17, h2_, h_⟩ := bS_some h_
      obtain ⟨h2_a, h2_b, h2_c, h2_d⟩ := r_Node_getI (o := false)  h2_
      try simp [-getElem?_pos] at h2_d
      obtain ⟨⟨r180, r181⟩, h6_, h_⟩ := bS_some h_
      try dsimp only at h_
      have h6_f := Fi_kidsOk_c1_c1_3_ok e17.op_ e17.s_ e17.n_ e17.kids_ x1_8 _ h6_
      try simp [Fi_kidsOk_c1_c1_3_ans] at h6_f
      rcases bI h_ with ⟨h7_, h_⟩ | ⟨h7_, h_⟩
      · cases h_
        simp (maxSteps := 2000000) (decide := true) [-getElem?_pos, h1_, h2_a, h2_b, h2_c, h2_d, h6_f, h7_, Lslices_IndexFunc_Node_0_3_ans]
      · have q_ := ih_ t0_13 t7_9 (IntKind.i64.wrap (t8_5 + 1)) r181 _ h_
        rcases r_ with ⟨t4_20, x1_10⟩ | x1_11
        all_goals (try simp [Lslices_IndexFunc_Node_0_3_ans] at q_)
        all_goals simp (maxSteps := 2000000) (decide := true) [-getElem?_pos, h1_, h2_a, h2_b, h2_c, h2_d, h6_f, h7_, q_, Lslices_IndexFunc_Node_0_3_ans]
    · cases h_
      simp (maxSteps := 2000000) (decide := true) [-getElem?_pos, h1_, Lslices_IndexFunc_Node_0_3_ans]
/-- impl.Node] -/
def Fslices_IndexFunc_Node_3 (a0_115 : List T_Node) (x1_7 : Int) : Option (Int × Int) :=
  bS (Lslices_IndexFunc_Node_0_3 FU a0_115 (a0_115.length : Int) 0 x1_7) fun r_ => match r_ with
  | .inl (r182, r183) =>
    some (r182, r183)
  | .inr r184 =>
    some ((-1), r184)
def Fslices_IndexFunc_Node_3_ans (a0_115 : List T_Node) (x1_7 : Int) : (Int × Int) → Ans
  | (q73, q74) => .val (.sc (.int .i64 q73)) [.b [.fn 64 [.bx 1 0]], .b [.sc (.int .i64 q74)]]
theorem Fslices_IndexFunc_Node_3_ok (a0_115 : List T_Node) (x1_7 : Int) (r_ : (Int × Int)) (h_ : Fslices_IndexFunc_Node_3 a0_115 x1_7 = some r_) : ev EE (.call 73 [.ls false (r_Node false a0_115), .fn 62 [.bx 0 0]] [.b [.fn 64 [.bx 1 0]], .b [.sc (.int .i64 x1_7)]]) = some (Fslices_IndexFunc_Node_3_ans a0_115 x1_7 r_) := by
  rw [ev_eq]
  simp only [Fslices_IndexFunc_Node_3] at h_
  obtain ⟨r_0, h1_, h_⟩ := bS_some h_
  have h1_f := Lslices_IndexFunc_Node_0_3_ok FU a0_115 (a0_115.length : Int) 0 x1_7 _ h1_
  rcases r_0 with ⟨r182, r183⟩ | r184
  · try dsimp only at h_
    try simp [Lslices_IndexFunc_Node_0_3_ans] at h1_f
    cases h_
    simp (maxSteps := 2000000) (decide := true) [-getElem?_pos, ir73, h1_f, Fslices_IndexFunc_Node_3_ans]
  · try dsimp only at h_
    try simp [Lslices_IndexFunc_Node_0_3_ans] at h1_f
    cases h_
    simp (maxSteps := 2000000) (decide := true) [-getElem?_pos, ir73, h1_f, Fslices_IndexFunc_Node_3_ans]
/-- impl.Node] -/
def Fslices_ContainsFunc_Node_3 (a0_114 : List T_Node) (x1_6 : Int) : Option (Bool × Int) :=
  bS (Fslices_IndexFunc_Node_3 a0_114 x1_6) fun (r185, r186) =>
  some ((decide (0 ≤ r185)), r186)
def Fslices_ContainsFunc_Node_3_ans (a0_114 : List T_Node) (x1_6 : Int) : (Bool × Int) → Ans
  | (q75, q76) => .val (.sc (.bool q75)) [.b [.fn 64 [.bx 1 0]], .b [.sc (.int .i64 q76)]]
theorem Fslices_ContainsFunc_Node_3_ok (a0_114 : List T_Node) (x1_6 : Int) (r_ : (Bool × Int)) (h_ : Fslices_ContainsFunc_Node_3 a0_114 x1_6 = some r_) : ev EE (.call 54 [.ls false (r_Node false a0_114), .fn 62 [.bx 0 0]] [.b [.fn 64 [.bx 1 0]], .b [.sc (.int .i64 x1_6)]]) = some (Fslices_ContainsFunc_Node_3_ans a0_114 x1_6 r_) := by
  rw [ev_eq]
  simp only [Fslices_ContainsFunc_Node_3] at h_
  obtain ⟨⟨r185, r186⟩, h1_, h_⟩ := bS_some h_
  try dsimp only at h_
  have h1_f := Fslices_IndexFunc_Node_3_ok a0_114 x1_6 _ h1_
  try simp [Fslices_IndexFunc_Node_3_ans] at h1_f
  cases h_
  simp (maxSteps := 2000000) (decide := true) [-getElem?_pos, ir54, h1_f, Fslices_ContainsFunc_Node_3_ans]
/-- impl.kidsOk$1 -/
def Fi_kidsOk_c1_3 (a0_113 : List T_Node) (x0_49 : Int) : Option (Bool × Int) :=
  bS (Fslices_ContainsFunc_Node_3 a0_113 x0_49) fun (r187, r188) =>
  some ((!r187), r188)
def Fi_kidsOk_c1_3_ans (a0_113 : List T_Node) (x0_49 : Int) : (Bool × Int) → Ans
  | (q77, q78) => .val (.sc (.bool q77)) [.b [.sc (.int .i64 q78)]]
theorem Fi_kidsOk_c1_3_ok (a0_113 : List T_Node) (x0_49 : Int) (r_ : (Bool × Int)) (h_ : Fi_kidsOk_c1_3 a0_113 x0_49 = some r_) : ev EE (.call 61 [.ls false (r_Node false a0_113), .fn 64 [.bx 0 0]] [.b [.sc (.int .i64 x0_49)]]) = some (Fi_kidsOk_c1_3_ans a0_113 x0_49 r_) := by
  rw [ev_eq]
  simp only [Fi_kidsOk_c1_3] at h_
  obtain ⟨⟨r187, r188⟩, h1_, h_⟩ := bS_some h_
  try dsimp only at h_
  have h1_f := Fslices_ContainsFunc_Node_3_ok a0_113 x0_49 _ h1_
  try simp [Fslices_ContainsFunc_Node_3_ans] at h1_f
  cases h_
  simp (maxSteps := 2000000) (decide := true) [-getElem?_pos, ir61, h1_f, Fi_kidsOk_c1_3_ans]
/-- impl.kidsOk -/
def Fi_kidsOk (a0_85 : Int) (a0_86 : ByteArray) (a0_87 : Int) (a0_88 : List T_Node) : Option Bool :=
  if a0_85 = 1 then
    bS (Fi_kidsOk_c1 a0_88) fun r154 =>
    some r154
  else
  if a0_85 = 2 then
    if (a0_88.length : Int) = 1 then
      bS (Fi_kidsOk_c1_2 a0_88) fun r161 =>
      some r161
    else
      some false
  else
  if a0_85 = 3 then
    if (a0_88.length : Int) = 1 then
      bS (Fi_kidsOk_c1_2 a0_88) fun r162 =>
      some r162
    else
      some false
  else
  if a0_85 = 7 then
    if (a0_88.length : Int) = 1 then
      bS (Fi_kidsOk_c1_2 a0_88) fun r163 =>
      some r163
    else
      some false
  else
  if a0_85 = 8 then
    if (a0_88.length : Int) = 1 then
      bS (Fi_kidsOk_c1_2 a0_88) fun r164 =>
      some r164
    else
      some false
  else
  if a0_85 = 9 then
    if (a0_88.length : Int) = 1 then
      bS (Fi_kidsOk_c1_2 a0_88) fun r165 =>
      some r165
    else
      some false
  else
  if a0_85 = 17 then
    if (a0_88.length : Int) = 1 then
      bS (Fi_kidsOk_c1_2 a0_88) fun r166 =>
      some r166
    else
      some false
  else
  if a0_85 = 24 then
    if (a0_88.length : Int) = 1 then
      bS (Fi_kidsOk_c1_2 a0_88) fun r167 =>
      some r167
    else
      some false
  else
  if a0_85 = 26 then
    if (a0_88.length : Int) = 1 then
      bS (Fi_kidsOk_c1_2 a0_88) fun r168 =>
      some r168
    else
      some false
  else
  if a0_85 = 4 then
    if (a0_88.length : Int) = 2 then
      bS (Fi_kidsOk_c1_2 a0_88) fun r169 =>
      some r169
    else
      some false
  else
  if a0_85 = 19 then
    if (a0_88.length : Int) = 2 then
      bS (Fi_kidsOk_c1_2 a0_88) fun r170 =>
      some r170
    else
      some false
  else
  if a0_85 = 20 then
    if (a0_88.length : Int) = 2 then
      bS (Fi_kidsOk_c1_2 a0_88) fun r171 =>
      some r171
    else
      some false
  else
  if a0_85 = 21 then
    if (a0_88.length : Int) = 2 then
      bS (Fi_kidsOk_c1_2 a0_88) fun r172 =>
      some r172
    else
      some false
  else
  if a0_85 = 22 then
    if (a0_88.length : Int) = 2 then
      bS (Fi_kidsOk_c1_2 a0_88) fun r173 =>
      some r173
    else
      some false
  else
  if a0_85 = 23 then
    if (a0_88.length : Int) = 2 then
      bS (Fi_kidsOk_c1_2 a0_88) fun r174 =>
      some r174
    else
      some false
  else
  if a0_85 = 5 then
    bS (Fi_within (a0_88.length : Int) 2 3) fun r175 =>
    if r175 = true then
      bS (getI a0_88 0) fun e16 =>
      bS (Fi_isExpr e16.op_ e16.s_ e16.n_ e16.kids_) fun r176 =>
      if r176 = true then
        if 1 ≤ a0_88.length ∧ a0_88.length ≤ a0_88.length ∧ a0_88.length ≤ a0_88.length then
        bS (Fi_kidsOk_c2 1) fun r177 =>
        bS (Fi_kidsOk_c1_3 (List.take (a0_88.length - 1) (List.drop 1 a0_88)) r177) fun (r189, r190) =>
        some r189
        else none
      else
        some false
    else
      some false
  else
  if a0_85 = 6 then
    if (a0_88.length : Int) = 2 then
      bS (getI a0_88 0) fun e18 =>
      bS (Fi_isExpr e18.op_ e18.s_ e18.n_ e18.kids_) fun r191 =>
      if r191 = true then
        bS (getI a0_88 1) fun e19 =>
        some (decide (e19.op_ = 1))
      else
        some false
    else
      some false
  else
  if a0_85 = 18 then
    if 1 ≤ (a0_88.length : Int) then
      bS (Fi_kidsOk_c1_2 a0_88) fun r192 =>
      some r192
    else
      some false
  else
  if a0_85 = 25 then
    bS (Fi_kidsOk_c2 26) fun r193 =>
    bS (Fi_kidsOk_c1_3 a0_88 r193) fun (r194, r195) =>
    some r194
  else
  if a0_85 = 27 then
    if (a0_88.length : Int) = 1 then
      bS (getI a0_88 0) fun e20 =>
      some (decide (e20.op_ = 1))
    else
      some false
  else
  bS (Fi_within a0_85 10 16) fun r196 =>
  if r196 = true then
    some (decide ((a0_88.length : Int) = 0))
  else
    some false
def Fi_kidsOk_ans (a0_85 : Int) (a0_86 : ByteArray) (a0_87 : Int) (a0_88 : List T_Node) : Bool → Ans
  | q79 => .val (.sc (.bool q79)) []
theorem Fi_kidsOk_ok (a0_85 : Int) (a0_86 : ByteArray) (a0_87 : Int) (a0_88 : List T_Node) (r_ : Bool) (h_ : Fi_kidsOk a0_85 a0_86 a0_87 a0_88 = some r_) : ev EE (.call 52 [.ag [.sc (.int .i64 a0_85), .sc (.string a0_86), .sc (.int .i64 a0_87), .ls false (r_Node false a0_88)]] []) = some (Fi_kidsOk_ans a0_85 a0_86 a0_87 a0_88 r_) := by
  rw [ev_eq]
  simp only [Fi_kidsOk] at h_
  rcases bI h_ with ⟨h1_, h_⟩ | ⟨h1_, h_⟩
  · obtain ⟨r154, h2_, h_⟩ := bS_some h_
    have h2_f := Fi_kidsOk_c1_ok a0_88 _ h2_
    try simp [Fi_kidsOk_c1_ans] at h2_f
    cases h_
    simp (maxSteps := 2000000) (decide := true) [-getElem?_pos, ir52, eq_true h1_, h2_f, Fi_kidsOk_ans]
  · rcases bI h_ with ⟨h2_, h_⟩ | ⟨h2_, h_⟩
    · rcases bI h_ with ⟨h3_, h_⟩ | ⟨h3_, h_⟩
      · have h3_s := h3_; try simp at h3_s
        obtain ⟨r161, h5_, h_⟩ := bS_some h_
        have h5_f := Fi_kidsOk_c1_2_ok a0_88 _ h5_
        try simp [Fi_kidsOk_c1_2_ans] at h5_f
        cases h_
        simp (maxSteps := 2000000) (decide := true) [-getElem?_pos, ir52, h1_, eq_true h2_, eq_true h3_, eq_true h3_s, h5_f, Fi_kidsOk_ans]
      · have h3_s := h3_; try simp at h3_s
        cases h_
        simp (maxSteps := 2000000) (decide := true) [-getElem?_pos, ir52, h1_, eq_true h2_, h3_, h3_s, Fi_kidsOk_ans]
    · rcases bI h_ with ⟨h3_, h_⟩ | ⟨h3_, h_⟩
      · rcases bI h_ with ⟨h4_, h_⟩ | ⟨h4_, h_⟩
        · have h4_s := h4_; try simp at h4_s
          obtain ⟨r162, h6_, h_⟩ := bS_some h_
          have h6_f := Fi_kidsOk_c1_2_ok a0_88 _ h6_
          try simp [Fi_kidsOk_c1_2_ans] at h6_f
          cases h_
          simp (maxSteps := 2000000) (decide := true) [-getElem?_pos, ir52, h1_, h2_, eq_true h3_, eq_true h4_, eq_true h4_s, h6_f, Fi_kidsOk_ans]
        · have h4_s := h4_; try simp at h4_s
          cases h_
          simp (maxSteps := 2000000) (decide := true) [-getElem?_pos, ir52, h1_, h2_, eq_true h3_, h4_, h4_s, Fi_kidsOk_ans]
      · rcases bI h_ with ⟨h4_, h_⟩ | ⟨h4_, h_⟩
        · rcases bI h_ with ⟨h5_, h_⟩ | ⟨h5_, h_⟩
          · have h5_s := h5_; try simp at h5_s
            obtain ⟨r163, h7_, h_⟩ := bS_some h_
            have h7_f := Fi_kidsOk_c1_2_ok a0_88 _ h7_
            try simp [Fi_kidsOk_c1_2_ans] at h7_f
            cases h_
            simp (maxSteps := 2000000) (decide := true) [-getElem?_pos, ir52, h1_, h2_, h3_, eq_true h4_, eq_true h5_, eq_true h5_s, h7_f, Fi_kidsOk_ans]
          · have h5_s := h5_; try simp at h5_s
            cases h_
            simp (maxSteps := 2000000) (decide := true) [-getElem?_pos, ir52, h1_, h2_, h3_, eq_true h4_, h5_, h5_s, Fi_kidsOk_ans]
        · rcases bI h_ with ⟨h5_, h_⟩ | ⟨h5_, h_⟩
          · rcases bI h_ with ⟨h6_, h_⟩ | ⟨h6_, h_⟩
            · have h6_s := h6_; try simp at h6_s
              obtain ⟨r164, h8_, h_⟩ := bS_some h_
              have h8_f := Fi_kidsOk_c1_2_ok a0_88 _ h8_
              try simp [Fi_kidsOk_c1_2_ans] at h8_f
              cases h_
              simp (maxSteps := 2000000) (decide := true) [-getElem?_pos, ir52, h1_, h2_, h3_, h4_, eq_true h5_, eq_true h6_, eq_true h6_s, h8_f, Fi_kidsOk_ans]
            · have h6_s := h6_; try simp at h6_s
              cases h_
              simp (maxSteps := 2000000) (decide := true) [-getElem?_pos, ir52, h1_, h2_, h3_, h4_, eq_true h5_, h6_, h6_s, Fi_kidsOk_ans]
          · rcases bI h_ with ⟨h6_, h_⟩ | ⟨h6_, h_⟩
            · rcases bI h_ with ⟨h7_, h_⟩ | ⟨h7_, h_⟩
              · have h7_s := h7_; try simp at h7_s
                obtain ⟨r165, h9_, h_⟩ := bS_some h_
                have h9_f := Fi_kidsOk_c1_2_ok a0_88 _ h9_
                try simp [Fi_kidsOk_c1_2_ans] at h9_f
                cases h_
                simp (maxSteps := 2000000) (decide := true) [-getElem?_pos, ir52, h1_, h2_, h3_, h4_, h5_, eq_true h6_, eq_true h7_, eq_true h7_s, h9_f, Fi_kidsOk_ans]
              · have h7_s := h7_; try simp at h7_s
                cases h_
                simp (maxSteps := 2000000) (decide := true) [-getElem?_pos, ir52, h1_, h2_, h3_, h4_, h5_, eq_true h6_, h7_, h7_s, Fi_kidsOk_ans]
            · rcases bI h_ with ⟨h7_, h_⟩ | ⟨h7_, h_⟩
              · rcases bI h_ with ⟨h8_, h_⟩ | ⟨h8_, h_⟩
                · have h8_s := h8_; try simp at h8_s
                  obtain ⟨r166, h10_, h_⟩ := bS_some h_
                  have h10_f := Fi_kidsOk_c1_2_ok a0_88 _ h10_
                  try simp [Fi_kidsOk_c1_2_ans] at h10_f
                  cases h_
                  simp (maxSteps := 2000000) (decide := true) [-getElem?_pos, ir52, h1_, h2_, h3_, h4_, h5_, h6_, eq_true h7_, eq_true h8_, eq_true h8_s, h10_f, Fi_kidsOk_ans]
                · have h8_s := h8_; try simp at h8_s
                  cases h_
                  simp (maxSteps := 2000000) (decide := true) [-getElem?_pos, ir52, h1_, h2_, h3_, h4_, h5_, h6_, eq_true h7_, h8_, h8_s, Fi_kidsOk_ans]
              · rcases bI h_ with ⟨h8_, h_⟩ | ⟨h8_, h_⟩
                · rcases bI h_ with ⟨h9_, h_⟩ | ⟨h9_, h_⟩
                  · have h9_s := h9_; try simp at h9_s
                    obtain ⟨r167, h11_, h_⟩ := bS_some h_
                    have h11_f := Fi_kidsOk_c1_2_ok a0_88 _ h11_
                    try simp [Fi_kidsOk_c1_2_ans] at h11_f
                    cases h_
                    simp (maxSteps := 2000000) (decide := true) [-getElem?_pos, ir52, h1_, h2_, h3_, h4_, h5_, h6_, h7_, eq_true h8_, eq_true h9_, eq_true h9_s, h11_f, Fi_kidsOk_ans]
                  · have h9_s := h9_; try simp at h9_s
                    cases h_
                    simp (maxSteps := 2000000) (decide := true) [-getElem?_pos, ir52, h1_, h2_, h3_, h4_, h5_, h6_, h7_, eq_true h8_, h9_, h9_s, Fi_kidsOk_ans]
                · rcases bI h_ with ⟨h9_, h_⟩ | ⟨h9_, h_⟩
                  · rcases bI h_ with ⟨h10_, h_⟩ | ⟨h10_, h_⟩
                    · have h10_s := h10_; try simp at h10_s
                      obtain ⟨r168, h12_, h_⟩ := bS_some h_
                      have h12_f := Fi_kidsOk_c1_2_ok a0_88 _ h12_
                      try simp [Fi_kidsOk_c1_2_ans] at h12_f
                      cases h_
                      simp (maxSteps := 2000000) (decide := true) [-getElem?_pos, ir52, h1_, h2_, h3_, h4_, h5_, h6_, h7_, h8_, eq_true h9_, eq_true h10_, eq_true h10_s, h12_f, Fi_kidsOk_ans]
                    · have h10_s := h10_; try simp at h10_s
                      cases h_
                      simp (maxSteps := 2000000) (decide := true) [-getElem?_pos, ir52, h1_, h2_, h3_, h4_, h5_, h6_, h7_, h8_, eq_true h9_, h10_, h10_s, Fi_kidsOk_ans]
                  · rcases bI h_ with ⟨h10_, h_⟩ | ⟨h10_, h_⟩
                    · rcases bI h_ with ⟨h11_, h_⟩ | ⟨h11_, h_⟩
                      · have h11_s := h11_; try simp at h11_s
                        obtain ⟨r169, h13_, h_⟩ := bS_some h_
                        have h13_f := Fi_kidsOk_c1_2_ok a0_88 _ h13_
                        try simp [Fi_kidsOk_c1_2_ans] at h13_f
                        cases h_
                        simp (maxSteps := 2000000) (decide := true) [-getElem?_pos, ir52, h1_, h2_, h3_, h4_, h5_, h6_, h7_, h8_, h9_, eq_true h10_, eq_true h11_, eq_true h11_s, h13_f, Fi_kidsOk_ans]
                      · have h11_s := h11_; try simp at h11_s
                        cases h_
                        simp (maxSteps := 2000000) (decide := true) [-getElem?_pos, ir52, h1_, h2_, h3_, h4_, h5_, h6_, h7_, h8_, h9_, eq_true h10_, h11_, h11_s, Fi_kidsOk_ans]
                    · rcases bI h_ with ⟨h11_, h_⟩ | ⟨h11_, h_⟩
                      · rcases bI h_ with ⟨h12_, h_⟩ | ⟨h12_, h_⟩
                        · have h12_s := h12_; try simp at h12_s
                          obtain ⟨r170, h14_, h_⟩ := bS_some h_
                          have h14_f := Fi_kidsOk_c1_2_ok a0_88 _ h14_
                          try simp [Fi_kidsOk_c1_2_ans] at h14_f
                          cases h_
                          simp (maxSteps := 2000000) (decide := true) [-getElem?_pos, ir52, h1_, h2_, h3_, h4_, h5_, h6_, h7_, h8_, h9_, h10_, eq_true h11_, eq_true h12_, eq_true h12_s, h14_f, Fi_kidsOk_ans]
                        · have h12_s := h12_; try simp at h12_s
                          cases h_
                          simp (maxSteps := 2000000) (decide := true) [-getElem?_pos, ir52, h1_, h2_, h3_, h4_, h5_, h6_, h7_, h8_, h9_, h10_, eq_true h11_, h12_, h12_s, Fi_kidsOk_ans]
                      · rcases bI h_ with ⟨h12_, h_⟩ | ⟨h12_, h_⟩
                        · rcases bI h_ with ⟨h13_, h_⟩ | ⟨h13_, h_⟩
                          · have h13_s := h13_; try simp at h13_s
                            obtain ⟨r171, h15_, h_⟩ := bS_some h_
                            have h15_f := Fi_kidsOk_c1_2_ok a0_88 _ h15_
                            try simp [Fi_kidsOk_c1_2_ans] at h15_f
                            cases h_
                            simp (maxSteps := 2000000) (decide := true) [-getElem?_pos, ir52, h1_, h2_, h3_, h4_, h5_, h6_, h7_, h8_, h9_, h10_, h11_, eq_true h12_, eq_true h13_, eq_true h13_s, h15_f, Fi_kidsOk_ans]
                          · have h13_s := h13_; try simp at h13_s
                            cases h_
                            simp (maxSteps := 2000000) (decide := true) [-getElem?_pos, ir52, h1_, h2_, h3_, h4_, h5_, h6_, h7_, h8_, h9_, h10_, h11_, eq_true h12_, h13_, h13_s, Fi_kidsOk_ans]
                        · rcases bI h_ with ⟨h13_, h_⟩ | ⟨h13_, h_⟩
                          · rcases bI h_ with ⟨h14_, h_⟩ | ⟨h14_, h_⟩
                            · have h14_s := h14_; try simp at h14_s
                              obtain ⟨r172, h16_, h_⟩ := bS_some h_
                              have h16_f := Fi_kidsOk_c1_2_ok a0_88 _ h16_
                              try simp [Fi_kidsOk_c1_2_ans] at h16_f
                              cases h_
                              simp (maxSteps := 2000000) (decide := true) [-getElem?_pos, ir52, h1_, h2_, h3_, h4_, h5_, h6_, h7_, h8_, h9_, h10_, h11_, h12_, eq_true h13_, eq_true h14_, eq_true h14_s, h16_f, Fi_kidsOk_ans]
                            · have h14_s := h14_; try simp at h14_s
                              cases h_
                              simp (maxSteps := 2000000) (decide := true) [-getElem?_pos, ir52, h1_, h2_, h3_, h4_, h5_, h6_, h7_, h8_, h9_, h10_, h11_, h12_, eq_true h13_, h14_, h14_s, Fi_kidsOk_ans]
                          · rcases bI h_ with ⟨h14_, h_⟩ | ⟨h14_, h_⟩
                            · rcases bI h_ with ⟨h15_, h_⟩ | ⟨h15_, h_⟩
                              · have h15_s := h15_; try simp at h15_s
                                obtain ⟨r173, h17_, h_⟩ := bS_some h_
                                have h17_f := Fi_kidsOk_c1_2_ok a0_88 _ h17_
                                try simp [Fi_kidsOk_c1_2_ans] at h17_f
                                cases h_
                                simp (maxSteps := 2000000) (decide := true) [-getElem?_pos, ir52, h1_, h2_, h3_, h4_, h5_, h6_, h7_, h8_, h9_, h10_, h11_, h12_, h13_, eq_true h14_, eq_true h15_, eq_true h15_s, h17_f, Fi_kidsOk_ans]
                              · have h15_s := h15_; try simp at h15_s
                                cases h_
                                simp (maxSteps := 2000000) (decide := true) [-getElem?_pos, ir52, h1_, h2_, h3_, h4_, h5_, h6_, h7_, h8_, h9_, h10_, h11_, h12_, h13_, eq_true h14_, h15_, h15_s, Fi_kidsOk_ans]
                            · rcases bI h_ with ⟨h15_, h_⟩ | ⟨h15_, h_⟩
                              · rcases bI h_ with ⟨h16_, h_⟩ | ⟨h16_, h_⟩
                                · have h16_s := h16_; try simp at h16_s
                                  obtain ⟨r174, h18_, h_⟩ := bS_some h_
                                  have h18_f := Fi_kidsOk_c1_2_ok a0_88 _ h18_
                                  try simp [Fi_kidsOk_c1_2_ans] at h18_f
                                  cases h_
                                  simp (maxSteps := 2000000) (decide := true) [-getElem?_pos, ir52, h1_, h2_, h3_, h4_, h5_, h6_, h7_, h8_, h9_, h10_, h11_, h12_, h13_, h14_, eq_true h15_, eq_true h16_, eq_true h16_s, h18_f, Fi_kidsOk_ans]
                                · have h16_s := h16_; try simp at h16_s
                                  cases h_
                                  simp (maxSteps := 2000000) (decide := true) [-getElem?_pos, ir52, h1_, h2_, h3_, h4_, h5_, h6_, h7_, h8_, h9_, h10_, h11_, h12_, h13_, h14_, eq_true h15_, h16_, h16_s, Fi_kidsOk_ans]
                              · rcases bI h_ with ⟨h16_, h_⟩ | ⟨h16_, h_⟩
                                · obtain ⟨r175, h17_, h_⟩ := bS_some h_
                                  have h17_f := Fi_within_ok (a0_88.length : Int) 2 3 _ h17_
                                  try simp [Fi_within_ans] at h17_f
                                  rcases bI h_ with ⟨h18_, h_⟩ | ⟨h18_, h_⟩
                                  · obtain ⟨e16, h19_, h_⟩ := bS_some h_
                                    obtain ⟨h19_a, h19_b, h19_c, h19_d⟩ := r_Node_getI (o := false)  h19_
                                    try simp [-getElem?_pos] at h19_d
                                    try simp at h19_b
                                    try simp at h19_c
                                    try simp at h19_b; try simp at h19_c
                                    obtain ⟨r176, h23_, h_⟩ := bS_some h_
                                    have h23_f := Fi_isExpr_ok e16.op_ e16.s_ e16.n_ e16.kids_ _ h23_
                                    try simp [Fi_isExpr_ans] at h23_f
                                    rcases bI h_ with ⟨h24_, h_⟩ | ⟨h24_, h_⟩
                                    · obtain ⟨h25_, h_⟩ := bP h_
                                      obtain ⟨r177, h26_, h_⟩ := bS_some h_
                                      have h26_f := Fi_kidsOk_c2_ok 1 _ h26_
                                      try simp [Fi_kidsOk_c2_ans] at h26_f
                                      obtain ⟨⟨r189, r190⟩, h27_, h_⟩ := bS_some h_
                                      try dsimp only at h_
                                      have h27_f := Fi_kidsOk_c1_3_ok (List.take (a0_88.length - 1) (List.drop 1 a0_88)) r177 _ h27_
                                      try simp [Fi_kidsOk_c1_3_ans] at h27_f
                                      cases h_
                                      simp (maxSteps := 2000000) (decide := true) [-getElem?_pos, ir52, h1_, h2_, h3_, h4_, h5_, h6_, h7_, h8_, h9_, h10_, h11_, h12_, h13_, h14_, h15_, eq_true h16_, h17_f, h18_, h19_a, h19_b, h19_c, h19_d, h23_f, h24_, h25_, h26_f, h27_f, Fi_kidsOk_ans]
                                    · cases h_
                                      simp (maxSteps := 2000000) (decide := true) [-getElem?_pos, ir52, h1_, h2_, h3_, h4_, h5_, h6_, h7_, h8_, h9_, h10_, h11_, h12_, h13_, h14_, h15_, eq_true h16_, h17_f, h18_, h19_a, h19_b, h19_c, h19_d, h23_f, h24_, Fi_kidsOk_ans]
                                  · cases h_
                                    simp (maxSteps := 2000000) (decide := true) [-getElem?_pos, ir52, h1_, h2_, h3_, h4_, h5_, h6_, h7_, h8_, h9_, h10_, h11_, h12_, h13_, h14_, h15_, eq_true h16_, h17_f, h18_, Fi_kidsOk_ans]
                                · rcases bI h_ with ⟨h17_, h_⟩ | ⟨h17_, h_⟩
                                  · rcases bI h_ with ⟨h18_, h_⟩ | ⟨h18_, h_⟩
                                    · have h18_s := h18_; try simp at h18_s
                                      obtain ⟨e18, h20_, h_⟩ := bS_some h_
                                      obtain ⟨h20_a, h20_b, h20_c, h20_d⟩ := r_Node_getI (o := false)  h20_
                                      try simp [-getElem?_pos] at h20_d
                                      try simp at h20_b
                                      try simp at h20_c
                                      try simp at h20_b; try simp at h20_c
                                      obtain ⟨r191, h24_, h_⟩ := bS_some h_
                                      have h24_f := Fi_isExpr_ok e18.op_ e18.s_ e18.n_ e18.kids_ _ h24_
                                      try simp [Fi_isExpr_ans] at h24_f
                                      rcases bI h_ with ⟨h25_, h_⟩ | ⟨h25_, h_⟩
                                      · obtain ⟨e19, h26_, h_⟩ := bS_some h_
                                        obtain ⟨h26_a, h26_b, h26_c, h26_d⟩ := r_Node_getI (o := false)  h26_
                                        try simp [-getElem?_pos] at h26_d
                                        try simp at h26_b
                                        try simp at h26_c
                                        try simp at h26_b; try simp at h26_c
                                        cases h_
                                        simp (maxSteps := 2000000) (decide := true) [-getElem?_pos, ir52, h1_, h2_, h3_, h4_, h5_, h6_, h7_, h8_, h9_, h10_, h11_, h12_, h13_, h14_, h15_, h16_, eq_true h17_, eq_true h18_, eq_true h18_s, h20_a, h20_b, h20_c, h20_d, h24_f, h25_, h26_a, h26_b, h26_c, h26_d, Fi_kidsOk_ans]
                                      · cases h_
                                        simp (maxSteps := 2000000) (decide := true) [-getElem?_pos, ir52, h1_, h2_, h3_, h4_, h5_, h6_, h7_, h8_, h9_, h10_, h11_, h12_, h13_, h14_, h15_, h16_, eq_true h17_, eq_true h18_, eq_true h18_s, h20_a, h20_b, h20_c, h20_d, h24_f, h25_, Fi_kidsOk_ans]
                                    · have h18_s := h18_; try simp at h18_s
                                      cases h_
                                      simp (maxSteps := 2000000) (decide := true) [-getElem?_pos, ir52, h1_, h2_, h3_, h4_, h5_, h6_, h7_, h8_, h9_, h10_, h11_, h12_, h13_, h14_, h15_, h16_, eq_true h17_, h18_, h18_s, Fi_kidsOk_ans]
                                  · rcases bI h_ with ⟨h18_, h_⟩ | ⟨h18_, h_⟩
                                    · rcases bI h_ with ⟨h19_, h_⟩ | ⟨h19_, h_⟩
                                      · have h19_s := h19_; try simp at h19_s
                                        obtain ⟨r192, h21_, h_⟩ := bS_some h_
                                        have h21_f := Fi_kidsOk_c1_2_ok a0_88 _ h21_
                                        try simp [Fi_kidsOk_c1_2_ans] at h21_f
                                        cases h_
                                        simp (maxSteps := 2000000) (decide := true) [-getElem?_pos, ir52, h1_, h2_, h3_, h4_, h5_, h6_, h7_, h8_, h9_, h10_, h11_, h12_, h13_, h14_, h15_, h16_, h17_, eq_true h18_, h19_, h19_s, h21_f, Fi_kidsOk_ans]
                                      · have h19_s := h19_; try simp at h19_s
                                        cases h_
                                        simp (maxSteps := 2000000) (decide := true) [-getElem?_pos, ir52, h1_, h2_, h3_, h4_, h5_, h6_, h7_, h8_, h9_, h10_, h11_, h12_, h13_, h14_, h15_, h16_, h17_, eq_true h18_, h19_, h19_s, Fi_kidsOk_ans]
                                    · rcases bI h_ with ⟨h19_, h_⟩ | ⟨h19_, h_⟩
                                      · obtain ⟨r193, h20_, h_⟩ := bS_some h_
                                        have h20_f := Fi_kidsOk_c2_ok 26 _ h20_
                                        try simp [Fi_kidsOk_c2_ans] at h20_f
                                        obtain ⟨⟨r194, r195⟩, h21_, h_⟩ := bS_some h_
                                        try dsimp only at h_
                                        have h21_f := Fi_kidsOk_c1_3_ok a0_88 r193 _ h21_
                                        try simp [Fi_kidsOk_c1_3_ans] at h21_f
                                        cases h_
                                        simp (maxSteps := 2000000) (decide := true) [-getElem?_pos, ir52, h1_, h2_, h3_, h4_, h5_, h6_, h7_, h8_, h9_, h10_, h11_, h12_, h13_, h14_, h15_, h16_, h17_, h18_, eq_true h19_, h20_f, h21_f, Fi_kidsOk_ans]
                                      · rcases bI h_ with ⟨h20_, h_⟩ | ⟨h20_, h_⟩
                                        · rcases bI h_ with ⟨h21_, h_⟩ | ⟨h21_, h_⟩
                                          · have h21_s := h21_; try simp at h21_s
                                            obtain ⟨e20, h23_, h_⟩ := bS_some h_
                                            obtain ⟨h23_a, h23_b, h23_c, h23_d⟩ := r_Node_getI (o := false)  h23_
                                            try simp [-getElem?_pos] at h23_d
                                            try simp at h23_b
                                            try simp at h23_c
                                            try simp at h23_b; try simp at h23_c
                                            cases h_
                                            simp (maxSteps := 2000000) (decide := true) [-getElem?_pos, ir52, h1_, h2_, h3_, h4_, h5_, h6_, h7_, h8_, h9_, h10_, h11_, h12_, h13_, h14_, h15_, h16_, h17_, h18_, h19_, eq_true h20_, eq_true h21_, eq_true h21_s, h23_a, h23_b, h23_c, h23_d, Fi_kidsOk_ans]
                                          · have h21_s := h21_; try simp at h21_s
                                            cases h_
                                            simp (maxSteps := 2000000) (decide := true) [-getElem?_pos, ir52, h1_, h2_, h3_, h4_, h5_, h6_, h7_, h8_, h9_, h10_, h11_, h12_, h13_, h14_, h15_, h16_, h17_, h18_, h19_, eq_true h20_, h21_, h21_s, Fi_kidsOk_ans]
                                        · obtain ⟨r196, h21_, h_⟩ := bS_some h_
                                          have h21_f := Fi_within_ok a0_85 10 16 _ h21_
                                          try simp [Fi_within_ans] at h21_f
                                          rcases bI h_ with ⟨h22_, h_⟩ | ⟨h22_, h_⟩
                                          · cases h_
                                            simp (maxSteps := 2000000) (decide := true) [-getElem?_pos, ir52, h1_, h2_, h3_, h4_, h5_, h6_, h7_, h8_, h9_, h10_, h11_, h12_, h13_, h14_, h15_, h16_, h17_, h18_, h19_, h20_, h21_f, h22_, Fi_kidsOk_ans]
                                          · cases h_
                                            simp (maxSteps := 2000000) (decide := true) [-getElem?_pos, ir52, h1_, h2_, h3_, h4_, h5_, h6_, h7_, h8_, h9_, h10_, h11_, h12_, h13_, h14_, h15_, h16_, h17_, h18_, h19_, h20_, h21_f, h22_, Fi_kidsOk_ans]
end Go.Pv

namespace Go.Pv
set_option maxRecDepth 100000
set_option maxHeartbeats 40000000
set_option linter.unusedSimpArgs false
set_option linter.unusedVariables false
/-- impl.letter -/
def Fi_letter (a0_130 : Int) : Option Bool :=
  if 97 ≤ a0_130 then
    if a0_130 ≤ 122 then
      some true
    else
    if 65 ≤ a0_130 then
      some (decide (a0_130 ≤ 90))
    else
      some false
  else
  if 65 ≤ a0_130 then
    some (decide (a0_130 ≤ 90))
  else
    some false
def Fi_letter_ans (a0_130 : Int) : Bool → Ans
  | q80 => .val (.sc (.bool q80)) []
theorem Fi_letter_ok (a0_130 : Int) (r_ : Bool) (h_ : Fi_letter a0_130 = some r_) : ev EE (.call 91 [.sc (.int .u8 a0_130)] []) = some (Fi_letter_ans a0_130 r_) := by
  rw [ev_eq]
  simp only [Fi_letter] at h_
  rcases bI h_ with ⟨h1_, h_⟩ | ⟨h1_, h_⟩
  · rcases bI h_ with ⟨h2_, h_⟩ | ⟨h2_, h_⟩
    · cases h_
      simp (maxSteps := 2000000) (decide := true) [-getElem?_pos, ir91, h1_, h2_, Fi_letter_ans]
    · rcases bI h_ with ⟨h3_, h_⟩ | ⟨h3_, h_⟩
      · cases h_
        simp (maxSteps := 2000000) (decide := true) [-getElem?_pos, ir91, h1_, h2_, h3_, Fi_letter_ans]
      · cases h_
        simp (maxSteps := 2000000) (decide := true) [-getElem?_pos, ir91, h1_, h2_, h3_, Fi_letter_ans]
  · rcases bI h_ with ⟨h2_, h_⟩ | ⟨h2_, h_⟩
    · cases h_
      simp (maxSteps := 2000000) (decide := true) [-getElem?_pos, ir91, h1_, h2_, Fi_letter_ans]
    · cases h_
      simp (maxSteps := 2000000) (decide := true) [-getElem?_pos, ir91, h1_, h2_, Fi_letter_ans]
/-- impl.digit -/
def Fi_digit (a0_133 : Int) : Option Bool :=
  if 48 ≤ a0_133 then
    some (decide (a0_133 ≤ 57))
  else
    some false
def Fi_digit_ans (a0_133 : Int) : Bool → Ans
  | q81 => .val (.sc (.bool q81)) []
theorem Fi_digit_ok (a0_133 : Int) (r_ : Bool) (h_ : Fi_digit a0_133 = some r_) : ev EE (.call 93 [.sc (.int .u8 a0_133)] []) = some (Fi_digit_ans a0_133 r_) := by
  rw [ev_eq]
  simp only [Fi_digit] at h_
  rcases bI h_ with ⟨h1_, h_⟩ | ⟨h1_, h_⟩
  · cases h_
    simp (maxSteps := 2000000) (decide := true) [-getElem?_pos, ir93, h1_, Fi_digit_ans]
  · cases h_
    simp (maxSteps := 2000000) (decide := true) [-getElem?_pos, ir93, h1_, Fi_digit_ans]
/-- impl.nameOk$1 -/
def Fi_nameOk_c1 (a0_132 : Int) : Option Bool :=
  bS (Fi_letter a0_132) fun r200 =>
  if r200 = true then
    some true
  else
  bS (Fi_digit a0_132) fun r201 =>
  some r201
def Fi_nameOk_c1_ans (a0_132 : Int) : Bool → Ans
  | q82 => .val (.sc (.bool q82)) []
theorem Fi_nameOk_c1_ok (a0_132 : Int) (r_ : Bool) (h_ : Fi_nameOk_c1 a0_132 = some r_) : ev EE (.call 92 [.sc (.int .u8 a0_132)] []) = some (Fi_nameOk_c1_ans a0_132 r_) := by
  rw [ev_eq]
  simp only [Fi_nameOk_c1] at h_
  obtain ⟨r200, h1_, h_⟩ := bS_some h_
  have h1_f := Fi_letter_ok a0_132 _ h1_
  try simp [Fi_letter_ans] at h1_f
  rcases bI h_ with ⟨h2_, h_⟩ | ⟨h2_, h_⟩
  · cases h_
    simp (maxSteps := 2000000) (decide := true) [-getElem?_pos, ir92, h1_f, h2_, Fi_nameOk_c1_ans]
  · obtain ⟨r201, h3_, h_⟩ := bS_some h_
    have h3_f := Fi_digit_ok a0_132 _ h3_
    try simp [Fi_digit_ans] at h3_f
    cases h_
    simp (maxSteps := 2000000) (decide := true) [-getElem?_pos, ir92, h1_f, h2_, h3_f, Fi_nameOk_c1_ans]
def Li_run_0 : Nat → ByteArray → Int → Option Int
  | 0, _, _ => none
  | n_ + 1, t0_14, t1_9 =>
  if t1_9 < (t0_14.size : Int) then
    bS (getB t0_14 t1_9) fun b14 =>
    bS (Fi_nameOk_c1 (b14.toNat : Int)) fun r202 =>
    if r202 = true then
      Li_run_0 n_ t0_14 (IntKind.i64.wrap (t1_9 + 1))
    else
      some t1_9
  else
    some t1_9
def Li_run_0_ans (t0_14 : ByteArray) (t1_9 : Int) : Int → Ans
  | t1_10 => .out (.exit 0) { np := 0, tm := [(1, .sc (.int .i64 t1_10))], ar := [], bx := [] }
theorem Li_run_0_ok : ∀ (n_ : Nat) (t0_14 : ByteArray) (t1_9 : Int) (r_ : Int), Li_run_0 n_ t0_14 t1_9 = some r_ → ev EE (.loop lp69_0 [0, 1, 2] [1, 6] { np := 0, tm := [(0, .sc (.string t0_14)), (1, .sc (.int .i64 t1_9)), (2, .fn 92 [])], ar := [], bx := [] }) = some (Li_run_0_ans t0_14 t1_9 r_) := by
  intro n_
  induction n_ with
  | zero => intro t0_14 t1_9 r_ h_; simp only [Li_run_0] at h_; cases h_
  | succ n_ ih_ =>
    intro t0_14 t1_9 r_ h_
    rw [ev_loop EE lp69_0.eq_1]
    simp only [Li_run_0] at h_
    rcases bI h_ with ⟨h1_, h_⟩ | ⟨h1_, h_⟩
    · have h1_s := h1_; try simp at h1_s
      obtain ⟨b14, h3_, h_⟩ := bS_some h_
      obtain ⟨h3_a, h3_b, h3_c, h3_d⟩ := getB_some h3_
      try simp [-getElem?_pos] at h3_d
      obtain ⟨r202, h7_, h_⟩ := bS_some h_
      have h7_f := Fi_nameOk_c1_ok (b14.toNat : Int) _ h7_
      try simp [Fi_nameOk_c1_ans] at h7_f
      rcases bI h_ with ⟨h8_, h_⟩ | ⟨h8_, h_⟩
      · have q_ := ih_ t0_14 (IntKind.i64.wrap (t1_9 + 1)) _ h_
        rcases r_ with t1_10
        all_goals (try simp [Li_run_0_ans] at q_)
        all_goals simp (maxSteps := 2000000) (decide := true) [-getElem?_pos, h1_, h1_s, h3_a, h3_b, h3_c, h3_d, h7_f, h8_, q_, Li_run_0_ans]
      · cases h_
        simp (maxSteps := 2000000) (decide := true) [-getElem?_pos, h1_, h1_s, h3_a, h3_b, h3_c, h3_d, h7_f, h8_, Li_run_0_ans]
    · have h1_s := h1_; try simp at h1_s
      cases h_
      simp (maxSteps := 2000000) (decide := true) [-getElem?_pos, h1_, h1_s, Li_run_0_ans]
/-- impl.run -/
def Fi_run (a0_131 : ByteArray) (a1_14 : Int) : Option Int :=
  bS (Li_run_0 FU a0_131 a1_14) fun r203 =>
  some r203
def Fi_run_ans (a0_131 : ByteArray) (a1_14 : Int) : Int → Ans
  | q83 => .val (.sc (.int .i64 q83)) []
theorem Fi_run_ok (a0_131 : ByteArray) (a1_14 : Int) (r_ : Int) (h_ : Fi_run a0_131 a1_14 = some r_) : ev EE (.call 69 [.sc (.string a0_131), .sc (.int .i64 a1_14), .fn 92 []] []) = some (Fi_run_ans a0_131 a1_14 r_) := by
  rw [ev_eq]
  simp only [Fi_run] at h_
  obtain ⟨r203, h1_, h_⟩ := bS_some h_
  have h1_f := Li_run_0_ok FU a0_131 a1_14 _ h1_
  try simp [Li_run_0_ans] at h1_f
  cases h_
  simp (maxSteps := 2000000) (decide := true) [-getElem?_pos, ir69, h1_f, Fi_run_ans]
/-- impl.nameOk -/
def Fi_nameOk (a0_129 : ByteArray) : Option Bool :=
  bS (Fi_within (a0_129.size : Int) 1 12) fun r198 =>
  if r198 = true then
    bS (getB a0_129 0) fun b13 =>
    bS (Fi_letter (b13.toNat : Int)) fun r199 =>
    if r199 = true then
      bS (Fi_run a0_129 0) fun r204 =>
      some (decide (r204 = (a0_129.size : Int)))
    else
      some false
  else
    some false
def Fi_nameOk_ans (a0_129 : ByteArray) : Bool → Ans
  | q84 => .val (.sc (.bool q84)) []
theorem Fi_nameOk_ok (a0_129 : ByteArray) (r_ : Bool) (h_ : Fi_nameOk a0_129 = some r_) : ev EE (.call 78 [.sc (.string a0_129)] []) = some (Fi_nameOk_ans a0_129 r_) := by
  rw [ev_eq]
  simp only [Fi_nameOk] at h_
  obtain ⟨r198, h1_, h_⟩ := bS_some h_
  have h1_f := Fi_within_ok (a0_129.size : Int) 1 12 _ h1_
  try simp [Fi_within_ans] at h1_f
  rcases bI h_ with ⟨h2_, h_⟩ | ⟨h2_, h_⟩
  · obtain ⟨b13, h3_, h_⟩ := bS_some h_
    obtain ⟨h3_a, h3_b, h3_c, h3_d⟩ := getB_some h3_
    try simp [-getElem?_pos] at h3_d
    try simp at h3_b
    try simp at h3_c
    try simp at h3_b; try simp at h3_c
    obtain ⟨r199, h7_, h_⟩ := bS_some h_
    have h7_f := Fi_letter_ok (b13.toNat : Int) _ h7_
    try simp [Fi_letter_ans] at h7_f
    rcases bI h_ with ⟨h8_, h_⟩ | ⟨h8_, h_⟩
    · obtain ⟨r204, h9_, h_⟩ := bS_some h_
      have h9_f := Fi_run_ok a0_129 0 _ h9_
      try simp [Fi_run_ans] at h9_f
      cases h_
      simp (maxSteps := 2000000) (decide := true) [-getElem?_pos, ir78, h1_f, h2_, h3_a, h3_b, h3_c, h3_d, h7_f, h8_, h9_f, Fi_nameOk_ans]
    · cases h_
      simp (maxSteps := 2000000) (decide := true) [-getElem?_pos, ir78, h1_f, h2_, h3_a, h3_b, h3_c, h3_d, h7_f, h8_, Fi_nameOk_ans]
  · cases h_
    simp (maxSteps := 2000000) (decide := true) [-getElem?_pos, ir78, h1_f, h2_, Fi_nameOk_ans]
def Lslices_Index_string_0 : Nat → (List ByteArray) → ByteArray → Int → Int → Option (Int ⊕ Unit)
  | 0, _, _, _, _ => none
  | n_ + 1, t0_15, t1_11, t7_10, t8_6 =>
  if t8_6 < t7_10 then
    bS (getI t0_15 t8_6) fun e21 =>
    if t1_11 = e21 then
      some (.inl t8_6)
    else
      Lslices_Index_string_0 n_ t0_15 t1_11 t7_10 (IntKind.i64.wrap (t8_6 + 1))
  else
    some (.inr ())
def Lslices_Index_string_0_ans (t0_15 : List ByteArray) (t1_11 : ByteArray) (t7_10 : Int) (t8_6 : Int) : Int ⊕ Unit → Ans
  | .inl t4_21 => .out .ret { np := 0, tm := [(4, .sc (.int .i64 t4_21))], ar := [], bx := [] }
  | .inr _ => .out (.exit 0) { np := 0, tm := [], ar := [], bx := [] }
theorem Lslices_Index_string_0_ok : ∀ (n_ : Nat) (t0_15 : List ByteArray) (t1_11 : ByteArray) (t7_10 : Int) (t8_6 : Int) (r_ : Int ⊕ Unit), Lslices_Index_string_0 n_ t0_15 t1_11 t7_10 t8_6 = some r_ → ev EE (.loop lp44_0 [0, 1, 7, 8] [4] { np := 0, tm := [(0, .ls false (strs t0_15)), (1, .sc (.string t1_11)), (7, .sc (.int .i64 t7_10)), (8, .sc (.int .i64 t8_6))], ar := [], bx := [] }) = some (Lslices_Index_string_0_ans t0_15 t1_11 t7_10 t8_6 r_) := by
  intro n_
  induction n_ with
  | zero => intro t0_15 t1_11 t7_10 t8_6 r_ h_; simp only [Lslices_Index_string_0] at h_; cases h_
  | succ n_ ih_ =>
    intro t0_15 t1_11 t7_10 t8_6 r_ h_
    rw [ev_loop EE lp44_0.eq_1]
    simp only [Lslices_Index_string_0] at h_
    rcases bI h_ with ⟨h1_, h_⟩ | ⟨h1_, h_⟩
    · obtain ⟨e21, h2_, h_⟩ := bS_some h_
      obtain ⟨h2_a, h2_b, h2_c, h2_d⟩ := strs_getI  h2_
      try simp [-getElem?_pos] at h2_d
      rcases bI h_ with ⟨h6_, h_⟩ | ⟨h6_, h_⟩
      · cases h_
        simp (maxSteps := 2000000) (decide := true) [-getElem?_pos, h1_, h2_a, h2_b, h2_c, h2_d, eq_true h6_, Lslices_Index_string_0_ans]
      · have q_ := ih_ t0_15 t1_11 t7_10 (IntKind.i64.wrap (t8_6 + 1)) _ h_
        rcases r_ with t4_21 | _
        all_goals (try simp [Lslices_Index_string_0_ans] at q_)
        all_goals simp (maxSteps := 2000000) (decide := true) [-getElem?_pos, h1_, h2_a, h2_b, h2_c, h2_d, h6_, q_, Lslices_Index_string_0_ans]
    · cases h_
      simp (maxSteps := 2000000) (decide := true) [-getElem?_pos, h1_, Lslices_Index_string_0_ans]
/-- slices.Index[[]string,string] -/
def Fslices_Index_string (a0_136 : List ByteArray) (a1_16 : ByteArray) : Option Int :=
  bS (Lslices_Index_string_0 FU a0_136 a1_16 (a0_136.length : Int) 0) fun r_ => match r_ with
  | .inl r206 =>
    some r206
  | .inr () =>
    some (-1)
def Fslices_Index_string_ans (a0_136 : List ByteArray) (a1_16 : ByteArray) : Int → Ans
  | q85 => .val (.sc (.int .i64 q85)) []
theorem Fslices_Index_string_ok (a0_136 : List ByteArray) (a1_16 : ByteArray) (r_ : Int) (h_ : Fslices_Index_string a0_136 a1_16 = some r_) : ev EE (.call 44 [.ls false (strs a0_136), .sc (.string a1_16)] []) = some (Fslices_Index_string_ans a0_136 a1_16 r_) := by
  rw [ev_eq]
  simp only [Fslices_Index_string] at h_
  obtain ⟨r_0, h1_, h_⟩ := bS_some h_
  have h1_f := Lslices_Index_string_0_ok FU a0_136 a1_16 (a0_136.length : Int) 0 _ h1_
  rcases r_0 with r206 | _
  · try dsimp only at h_
    try simp [Lslices_Index_string_0_ans] at h1_f
    cases h_
    simp (maxSteps := 2000000) (decide := true) [-getElem?_pos, ir44, h1_f, Fslices_Index_string_ans]
  · try dsimp only at h_
    try simp [Lslices_Index_string_0_ans] at h1_f
    cases h_
    simp (maxSteps := 2000000) (decide := true) [-getElem?_pos, ir44, h1_f, Fslices_Index_string_ans]
/-- slices.Contains[[]string,string] -/
def Fslices_Contains_string (a0_135 : List ByteArray) (a1_15 : ByteArray) : Option Bool :=
  bS (Fslices_Index_string a0_135 a1_15) fun r207 =>
  some (decide (0 ≤ r207))
def Fslices_Contains_string_ans (a0_135 : List ByteArray) (a1_15 : ByteArray) : Bool → Ans
  | q86 => .val (.sc (.bool q86)) []
theorem Fslices_Contains_string_ok (a0_135 : List ByteArray) (a1_15 : ByteArray) (r_ : Bool) (h_ : Fslices_Contains_string a0_135 a1_15 = some r_) : ev EE (.call 27 [.ls false (strs a0_135), .sc (.string a1_15)] []) = some (Fslices_Contains_string_ans a0_135 a1_15 r_) := by
  rw [ev_eq]
  simp only [Fslices_Contains_string] at h_
  obtain ⟨r207, h1_, h_⟩ := bS_some h_
  have h1_f := Fslices_Index_string_ok a0_135 a1_15 _ h1_
  try simp [Fslices_Index_string_ans] at h1_f
  cases h_
  simp (maxSteps := 2000000) (decide := true) [-getElem?_pos, ir27, h1_f, Fslices_Contains_string_ans]
/-- impl.isWord -/
def Fi_isWord (a0_134 : ByteArray) : Option Bool :=
  bS (Fslices_Contains_string ([(⟨#[108, 101, 116]⟩ : ByteArray), (⟨#[105, 102]⟩ : ByteArray), (⟨#[101, 108, 115, 101]⟩ : ByteArray), (⟨#[119, 104, 105, 108, 101]⟩ : ByteArray), (⟨#[114, 101, 116, 117, 114, 110]⟩ : ByteArray), (⟨#[112, 114, 105, 110, 116]⟩ : ByteArray), (⟨#[102, 117, 110, 99, 116, 105, 111, 110]⟩ : ByteArray), (⟨#[116, 114, 117, 101]⟩ : ByteArray), (⟨#[102, 97, 108, 115, 101]⟩ : ByteArray), (⟨#[110, 117, 108, 108]⟩ : ByteArray), (⟨#[117, 110, 100, 101, 102, 105, 110, 101, 100]⟩ : ByteArray), (⟨#[112, 114, 111, 116, 111]⟩ : ByteArray)]) a0_134) fun r208 =>
  some r208
def Fi_isWord_ans (a0_134 : ByteArray) : Bool → Ans
  | q87 => .val (.sc (.bool q87)) []
theorem Fi_isWord_ok (a0_134 : ByteArray) (r_ : Bool) (h_ : Fi_isWord a0_134 = some r_) : ev EE (.call 79 [.sc (.string a0_134)] []) = some (Fi_isWord_ans a0_134 r_) := by
  rw [ev_eq]
  simp only [Fi_isWord] at h_
  obtain ⟨r208, h1_, h_⟩ := bS_some h_
  have h1_f := Fslices_Contains_string_ok ([(⟨#[108, 101, 116]⟩ : ByteArray), (⟨#[105, 102]⟩ : ByteArray), (⟨#[101, 108, 115, 101]⟩ : ByteArray), (⟨#[119, 104, 105, 108, 101]⟩ : ByteArray), (⟨#[114, 101, 116, 117, 114, 110]⟩ : ByteArray), (⟨#[112, 114, 105, 110, 116]⟩ : ByteArray), (⟨#[102, 117, 110, 99, 116, 105, 111, 110]⟩ : ByteArray), (⟨#[116, 114, 117, 101]⟩ : ByteArray), (⟨#[102, 97, 108, 115, 101]⟩ : ByteArray), (⟨#[110, 117, 108, 108]⟩ : ByteArray), (⟨#[117, 110, 100, 101, 102, 105, 110, 101, 100]⟩ : ByteArray), (⟨#[112, 114, 111, 116, 111]⟩ : ByteArray)]) a0_134 _ h1_
  try simp [Fslices_Contains_string_ans] at h1_f
  cases h_
  simp (maxSteps := 2000000) (decide := true) [-getElem?_pos, ir79, h1_f, Fi_isWord_ans]
/-- impl.properName -/
def Fi_properName (a0_128 : ByteArray) : Option Bool :=
  bS (Fi_nameOk a0_128) fun r205 =>
  if r205 = true then
    bS (Fi_isWord a0_128) fun r209 =>
    some (!r209)
  else
    some false
def Fi_properName_ans (a0_128 : ByteArray) : Bool → Ans
  | q88 => .val (.sc (.bool q88)) []
theorem Fi_properName_ok (a0_128 : ByteArray) (r_ : Bool) (h_ : Fi_properName a0_128 = some r_) : ev EE (.call 68 [.sc (.string a0_128)] []) = some (Fi_properName_ans a0_128 r_) := by
  rw [ev_eq]
  simp only [Fi_properName] at h_
  obtain ⟨r205, h1_, h_⟩ := bS_some h_
  have h1_f := Fi_nameOk_ok a0_128 _ h1_
  try simp [Fi_nameOk_ans] at h1_f
  rcases bI h_ with ⟨h2_, h_⟩ | ⟨h2_, h_⟩
  · obtain ⟨r209, h3_, h_⟩ := bS_some h_
    have h3_f := Fi_isWord_ok a0_128 _ h3_
    try simp [Fi_isWord_ans] at h3_f
    cases h_
    simp (maxSteps := 2000000) (decide := true) [-getElem?_pos, ir68, h1_f, h2_, h3_f, Fi_properName_ans]
  · cases h_
    simp (maxSteps := 2000000) (decide := true) [-getElem?_pos, ir68, h1_f, h2_, Fi_properName_ans]
/-- impl.textByte -/
def Fi_textByte (a0_138 : Int) : Option Bool :=
  if 32 ≤ a0_138 then
    if a0_138 ≤ 126 then
      some (!(decide (a0_138 = 34)))
    else
      some false
  else
    some false
def Fi_textByte_ans (a0_138 : Int) : Bool → Ans
  | q89 => .val (.sc (.bool q89)) []
theorem Fi_textByte_ok (a0_138 : Int) (r_ : Bool) (h_ : Fi_textByte a0_138 = some r_) : ev EE (.call 70 [.sc (.int .u8 a0_138)] []) = some (Fi_textByte_ans a0_138 r_) := by
  rw [ev_eq]
  simp only [Fi_textByte] at h_
  rcases bI h_ with ⟨h1_, h_⟩ | ⟨h1_, h_⟩
  · rcases bI h_ with ⟨h2_, h_⟩ | ⟨h2_, h_⟩
    · cases h_
      simp (maxSteps := 2000000) (decide := true) [-getElem?_pos, ir70, h1_, h2_, Fi_textByte_ans]
    · cases h_
      simp (maxSteps := 2000000) (decide := true) [-getElem?_pos, ir70, h1_, h2_, Fi_textByte_ans]
  · cases h_
    simp (maxSteps := 2000000) (decide := true) [-getElem?_pos, ir70, h1_, Fi_textByte_ans]
def Li_run_0_2 : Nat → ByteArray → Int → Option Int
  | 0, _, _ => none
  | n_ + 1, t0_16, t1_12 =>
  if t1_12 < (t0_16.size : Int) then
    bS (getB t0_16 t1_12) fun b15 =>
    bS (Fi_textByte (b15.toNat : Int)) fun r224 =>
    if r224 = true then
      Li_run_0_2 n_ t0_16 (IntKind.i64.wrap (t1_12 + 1))
    else
      some t1_12
  else
    some t1_12
def Li_run_0_2_ans (t0_16 : ByteArray) (t1_12 : Int) : Int → Ans
  | t1_13 => .out (.exit 0) { np := 0, tm := [(1, .sc (.int .i64 t1_13))], ar := [], bx := [] }
theorem Li_run_0_2_ok : ∀ (n_ : Nat) (t0_16 : ByteArray) (t1_12 : Int) (r_ : Int), Li_run_0_2 n_ t0_16 t1_12 = some r_ → ev EE (.loop lp69_0 [0, 1, 2] [1, 6] { np := 0, tm := [(0, .sc (.string t0_16)), (1, .sc (.int .i64 t1_12)), (2, .fn 70 [])], ar := [], bx := [] }) = some (Li_run_0_2_ans t0_16 t1_12 r_) := by
  intro n_
  induction n_ with
  | zero => intro t0_16 t1_12 r_ h_; simp only [Li_run_0_2] at h_; cases h_
  | succ n_ ih_ =>
    intro t0_16 t1_12 r_ h_
    rw [ev_loop EE lp69_0.eq_1]
    simp only [Li_run_0_2] at h_
    rcases bI h_ with ⟨h1_, h_⟩ | ⟨h1_, h_⟩
    · have h1_s := h1_; try simp at h1_s
      obtain ⟨b15, h3_, h_⟩ := bS_some h_
      obtain ⟨h3_a, h3_b, h3_c, h3_d⟩ := getB_some h3_
      try simp [-getElem?_pos] at h3_d
      obtain ⟨r224, h7_, h_⟩ := bS_some h_
      have h7_f := Fi_textByte_ok (b15.toNat : Int) _ h7_
      try simp [Fi_textByte_ans] at h7_f
      rcases bI h_ with ⟨h8_, h_⟩ | ⟨h8_, h_⟩
      · have q_ := ih_ t0_16 (IntKind.i64.wrap (t1_12 + 1)) _ h_
        rcases r_ with t1_13
        all_goals (try simp [Li_run_0_2_ans] at q_)
        all_goals simp (maxSteps := 2000000) (decide := true) [-getElem?_pos, h1_, h1_s, h3_a, h3_b, h3_c, h3_d, h7_f, h8_, q_, Li_run_0_2_ans]
      · cases h_
        simp (maxSteps := 2000000) (decide := true) [-getElem?_pos, h1_, h1_s, h3_a, h3_b, h3_c, h3_d, h7_f, h8_, Li_run_0_2_ans]
    · have h1_s := h1_; try simp at h1_s
      cases h_
      simp (maxSteps := 2000000) (decide := true) [-getElem?_pos, h1_, h1_s, Li_run_0_2_ans]
/-- impl.run -/
def Fi_run_2 (a0_137 : ByteArray) (a1_17 : Int) : Option Int :=
  bS (Li_run_0_2 FU a0_137 a1_17) fun r225 =>
  some r225
def Fi_run_2_ans (a0_137 : ByteArray) (a1_17 : Int) : Int → Ans
  | q90 => .val (.sc (.int .i64 q90)) []
theorem Fi_run_2_ok (a0_137 : ByteArray) (a1_17 : Int) (r_ : Int) (h_ : Fi_run_2 a0_137 a1_17 = some r_) : ev EE (.call 69 [.sc (.string a0_137), .sc (.int .i64 a1_17), .fn 70 []] []) = some (Fi_run_2_ans a0_137 a1_17 r_) := by
  rw [ev_eq]
  simp only [Fi_run_2] at h_
  obtain ⟨r225, h1_, h_⟩ := bS_some h_
  have h1_f := Li_run_0_2_ok FU a0_137 a1_17 _ h1_
  try simp [Li_run_0_2_ans] at h1_f
  cases h_
  simp (maxSteps := 2000000) (decide := true) [-getElem?_pos, ir69, h1_f, Fi_run_2_ans]
/-- impl.namesOf -/
def Fi_namesOf (a0_139 : Int) (a0_140 : ByteArray) (a0_141 : Int) (a0_142 : List T_Node) : Option (List ByteArray) :=
  if a0_140 = (⟨#[]⟩ : ByteArray) then
    some []
  else
  bS (Fstrings_Split a0_140 (⟨#[32]⟩ : ByteArray)) fun r228 =>
  some r228
def Fi_namesOf_ans (a0_139 : Int) (a0_140 : ByteArray) (a0_141 : Int) (a0_142 : List T_Node) : (List ByteArray) → Ans
  | q92 => .val (.ls true (strs q92)) []
theorem Fi_namesOf_ok (a0_139 : Int) (a0_140 : ByteArray) (a0_141 : Int) (a0_142 : List T_Node) (r_ : (List ByteArray)) (h_ : Fi_namesOf a0_139 a0_140 a0_141 a0_142 = some r_) : ev EE (.call 28 [.ag [.sc (.int .i64 a0_139), .sc (.string a0_140), .sc (.int .i64 a0_141), .ls false (r_Node false a0_142)]] []) = some (Fi_namesOf_ans a0_139 a0_140 a0_141 a0_142 r_) := by
  rw [ev_eq]
  simp only [Fi_namesOf] at h_
  rcases bI h_ with ⟨h1_, h_⟩ | ⟨h1_, h_⟩
  · cases h_
    simp (maxSteps := 2000000) (decide := true) [-getElem?_pos, ir28, eq_true h1_, Fi_namesOf_ans]
  · obtain ⟨r228, h2_, h_⟩ := bS_some h_
    have h2_f := Fstrings_Split_ok a0_140 (⟨#[32]⟩ : ByteArray) _ h2_
    try simp [Fstrings_Split_ans] at h2_f
    cases h_
    simp (maxSteps := 2000000) (decide := true) [-getElem?_pos, ir28, h1_, h2_f, Fi_namesOf_ans]
/-- impl.fieldsOk$1 -/
def Fi_fieldsOk_c1 (a0_145 : ByteArray) : Option Bool :=
  bS (Fi_properName a0_145) fun r230 =>
  some (!r230)
def Fi_fieldsOk_c1_ans (a0_145 : ByteArray) : Bool → Ans
  | q93 => .val (.sc (.bool q93)) []
theorem Fi_fieldsOk_c1_ok (a0_145 : ByteArray) (r_ : Bool) (h_ : Fi_fieldsOk_c1 a0_145 = some r_) : ev EE (.call 72 [.sc (.string a0_145)] []) = some (Fi_fieldsOk_c1_ans a0_145 r_) := by
  rw [ev_eq]
  simp only [Fi_fieldsOk_c1] at h_
  obtain ⟨r230, h1_, h_⟩ := bS_some h_
  have h1_f := Fi_properName_ok a0_145 _ h1_
  try simp [Fi_properName_ans] at h1_f
  cases h_
  simp (maxSteps := 2000000) (decide := true) [-getElem?_pos, ir72, h1_f, Fi_fieldsOk_c1_ans]
def Lslices_IndexFunc_string_0 : Nat → (List ByteArray) → Int → Int → Option (Int ⊕ Unit)
  | 0, _, _, _ => none
  | n_ + 1, t0_17, t7_11, t8_7 =>
  if t8_7 < t7_11 then
    bS (getI t0_17 t8_7) fun e22 =>
    bS (Fi_fieldsOk_c1 e22) fun r231 =>
    if r231 = true then
      some (.inl t8_7)
    else
      Lslices_IndexFunc_string_0 n_ t0_17 t7_11 (IntKind.i64.wrap (t8_7 + 1))
  else
    some (.inr ())
def Lslices_IndexFunc_string_0_ans (t0_17 : List ByteArray) (t7_11 : Int) (t8_7 : Int) : Int ⊕ Unit → Ans
  | .inl t4_22 => .out .ret { np := 0, tm := [(4, .sc (.int .i64 t4_22))], ar := [], bx := [] }
  | .inr _ => .out (.exit 0) { np := 0, tm := [], ar := [], bx := [] }
theorem Lslices_IndexFunc_string_0_ok : ∀ (n_ : Nat) (t0_17 : List ByteArray) (t7_11 : Int) (t8_7 : Int) (r_ : Int ⊕ Unit), Lslices_IndexFunc_string_0 n_ t0_17 t7_11 t8_7 = some r_ → ev EE (.loop lp80_0 [0, 1, 7, 8] [4] { np := 0, tm := [(0, .ls false (strs t0_17)), (1, .fn 72 []), (7, .sc (.int .i64 t7_11)), (8, .sc (.int .i64 t8_7))], ar := [], bx := [] }) = some (Lslices_IndexFunc_string_0_ans t0_17 t7_11 t8_7 r_) := by
  intro n_
  induction n_ with
  | zero => intro t0_17 t7_11 t8_7 r_ h_; simp only [Lslices_IndexFunc_string_0] at h_; cases h_
  | succ n_ ih_ =>
    intro t0_17 t7_11 t8_7 r_ h_
    rw [ev_loop EE lp80_0.eq_1]
    simp only [Lslices_IndexFunc_string_0] at h_
    rcases bI h_ with ⟨h1_, h_⟩ | ⟨h1_, h_⟩
    · obtain ⟨e22, h2_, h_⟩ := bS_some h_
      obtain ⟨h2_a, h2_b, h2_c, h2_d⟩ := strs_getI  h2_
      try simp [-getElem?_pos] at h2_d
      obtain ⟨r231, h6_, h_⟩ := bS_some h_
      have h6_f := Fi_fieldsOk_c1_ok e22 _ h6_
      try simp [Fi_fieldsOk_c1_ans] at h6_f
      rcases bI h_ with ⟨h7_, h_⟩ | ⟨h7_, h_⟩
      · cases h_
        simp (maxSteps := 2000000) (decide := true) [-getElem?_pos, h1_, h2_a, h2_b, h2_c, h2_d, h6_f, h7_, Lslices_IndexFunc_string_0_ans]
      · have q_ := ih_ t0_17 t7_11 (IntKind.i64.wrap (t8_7 + 1)) _ h_
        rcases r_ with t4_22 | _
        all_goals (try simp [Lslices_IndexFunc_string_0_ans] at q_)
        all_goals simp (maxSteps := 2000000) (decide := true) [-getElem?_pos, h1_, h2_a, h2_b, h2_c, h2_d, h6_f, h7_, q_, Lslices_IndexFunc_string_0_ans]
    · cases h_
      simp (maxSteps := 2000000) (decide := true) [-getElem?_pos, h1_, Lslices_IndexFunc_string_0_ans]
/-- slices.IndexFunc[[]string,string] -/
def Fslices_IndexFunc_string (a0_144 : List ByteArray) : Option Int :=
  bS (Lslices_IndexFunc_string_0 FU a0_144 (a0_144.length : Int) 0) fun r_ => match r_ with
  | .inl r232 =>
    some r232
  | .inr () =>
    some (-1)
def Fslices_IndexFunc_string_ans (a0_144 : List ByteArray) : Int → Ans
  | q94 => .val (.sc (.int .i64 q94)) []
theorem Fslices_IndexFunc_string_ok (a0_144 : List ByteArray) (r_ : Int) (h_ : Fslices_IndexFunc_string a0_144 = some r_) : ev EE (.call 80 [.ls false (strs a0_144), .fn 72 []] []) = some (Fslices_IndexFunc_string_ans a0_144 r_) := by
  rw [ev_eq]
  simp only [Fslices_IndexFunc_string] at h_
  obtain ⟨r_0, h1_, h_⟩ := bS_some h_
  have h1_f := Lslices_IndexFunc_string_0_ok FU a0_144 (a0_144.length : Int) 0 _ h1_
  rcases r_0 with r232 | _
  · try dsimp only at h_
    try simp [Lslices_IndexFunc_string_0_ans] at h1_f
    cases h_
    simp (maxSteps := 2000000) (decide := true) [-getElem?_pos, ir80, h1_f, Fslices_IndexFunc_string_ans]
  · try dsimp only at h_
    try simp [Lslices_IndexFunc_string_0_ans] at h1_f
    cases h_
    simp (maxSteps := 2000000) (decide := true) [-getElem?_pos, ir80, h1_f, Fslices_IndexFunc_string_ans]
/-- slices.ContainsFunc[[]string,string] -/
def Fslices_ContainsFunc_string (a0_143 : List ByteArray) : Option Bool :=
  bS (Fslices_IndexFunc_string a0_143) fun r233 =>
  some (decide (0 ≤ r233))
def Fslices_ContainsFunc_string_ans (a0_143 : List ByteArray) : Bool → Ans
  | q95 => .val (.sc (.bool q95)) []
theorem Fslices_ContainsFunc_string_ok (a0_143 : List ByteArray) (r_ : Bool) (h_ : Fslices_ContainsFunc_string a0_143 = some r_) : ev EE (.call 71 [.ls false (strs a0_143), .fn 72 []] []) = some (Fslices_ContainsFunc_string_ans a0_143 r_) := by
  rw [ev_eq]
  simp only [Fslices_ContainsFunc_string] at h_
  obtain ⟨r233, h1_, h_⟩ := bS_some h_
  have h1_f := Fslices_IndexFunc_string_ok a0_143 _ h1_
  try simp [Fslices_IndexFunc_string_ans] at h1_f
  cases h_
  simp (maxSteps := 2000000) (decide := true) [-getElem?_pos, ir71, h1_f, Fslices_ContainsFunc_string_ans]
/-- impl.fieldsOk -/
def Fi_fieldsOk (a0_124 : Int) (a0_125 : ByteArray) (a0_126 : Int) (a0_127 : List T_Node) : Option Bool :=
  if a0_124 = 2 then
    bS (Fi_properName a0_125) fun r210 =>
    if r210 = true then
      if a0_124 = 10 then
        bS (Fi_within a0_126 (-2147483647) 2147483647) fun r211 =>
        if r211 = true then
          some true
        else
          some (decide (a0_126 = 0))
      else
        some (decide (a0_126 = 0))
    else
      some false
  else
  if a0_124 = 3 then
    bS (Fi_properName a0_125) fun r212 =>
    if r212 = true then
      if a0_124 = 10 then
        bS (Fi_within a0_126 (-2147483647) 2147483647) fun r213 =>
        if r213 = true then
          some true
        else
          some (decide (a0_126 = 0))
      else
        some (decide (a0_126 = 0))
    else
      some false
  else
  if a0_124 = 16 then
    bS (Fi_properName a0_125) fun r214 =>
    if r214 = true then
      if a0_124 = 10 then
        bS (Fi_within a0_126 (-2147483647) 2147483647) fun r215 =>
        if r215 = true then
          some true
        else
          some (decide (a0_126 = 0))
      else
        some (decide (a0_126 = 0))
    else
      some false
  else
  if a0_124 = 26 then
    bS (Fi_properName a0_125) fun r216 =>
    if r216 = true then
      if a0_124 = 10 then
        bS (Fi_within a0_126 (-2147483647) 2147483647) fun r217 =>
        if r217 = true then
          some true
        else
          some (decide (a0_126 = 0))
      else
        some (decide (a0_126 = 0))
    else
      some false
  else
  if a0_124 = 4 then
    bS (Fi_properName a0_125) fun r218 =>
    if r218 = true then
      if a0_124 = 10 then
        bS (Fi_within a0_126 (-2147483647) 2147483647) fun r219 =>
        if r219 = true then
          some true
        else
          some (decide (a0_126 = 0))
      else
        some (decide (a0_126 = 0))
    else
    if a0_125 = (⟨#[112, 114, 111, 116, 111]⟩ : ByteArray) then
      if a0_124 = 10 then
        bS (Fi_within a0_126 (-2147483647) 2147483647) fun r220 =>
        if r220 = true then
          some true
        else
          some (decide (a0_126 = 0))
      else
        some (decide (a0_126 = 0))
    else
      some false
  else
  if a0_124 = 17 then
    bS (Fi_properName a0_125) fun r221 =>
    if r221 = true then
      if a0_124 = 10 then
        bS (Fi_within a0_126 (-2147483647) 2147483647) fun r222 =>
        if r222 = true then
          some true
        else
          some (decide (a0_126 = 0))
      else
        some (decide (a0_126 = 0))
    else
    if a0_125 = (⟨#[112, 114, 111, 116, 111]⟩ : ByteArray) then
      if a0_124 = 10 then
        bS (Fi_within a0_126 (-2147483647) 2147483647) fun r223 =>
        if r223 = true then
          some true
        else
          some (decide (a0_126 = 0))
      else
        some (decide (a0_126 = 0))
    else
      some false
  else
  if a0_124 = 11 then
    if (a0_125.size : Int) ≤ 30 then
      bS (Fi_run_2 a0_125 0) fun r226 =>
      if r226 = (a0_125.size : Int) then
        if a0_124 = 10 then
          bS (Fi_within a0_126 (-2147483647) 2147483647) fun r227 =>
          if r227 = true then
            some true
          else
            some (decide (a0_126 = 0))
        else
          some (decide (a0_126 = 0))
      else
        some false
    else
      some false
  else
  if a0_124 = 27 then
    bS (Fi_namesOf a0_124 a0_125 a0_126 a0_127) fun r229 =>
    bS (Fslices_ContainsFunc_string r229) fun r234 =>
    if r234 = true then
      some false
    else
    if a0_124 = 10 then
      bS (Fi_within a0_126 (-2147483647) 2147483647) fun r235 =>
      if r235 = true then
        some true
      else
        some (decide (a0_126 = 0))
    else
      some (decide (a0_126 = 0))
  else
  if a0_125 = (⟨#[]⟩ : ByteArray) then
    if a0_124 = 10 then
      bS (Fi_within a0_126 (-2147483647) 2147483647) fun r236 =>
      if r236 = true then
        some true
      else
        some (decide (a0_126 = 0))
    else
      some (decide (a0_126 = 0))
  else
    some false
def Fi_fieldsOk_ans (a0_124 : Int) (a0_125 : ByteArray) (a0_126 : Int) (a0_127 : List T_Node) : Bool → Ans
  | q96 => .val (.sc (.bool q96)) []
theorem Fi_fieldsOk_ok (a0_124 : Int) (a0_125 : ByteArray) (a0_126 : Int) (a0_127 : List T_Node) (r_ : Bool) (h_ : Fi_fieldsOk a0_124 a0_125 a0_126 a0_127 = some r_) : ev EE (.call 53 [.ag [.sc (.int .i64 a0_124), .sc (.string a0_125), .sc (.int .i64 a0_126), .ls false (r_Node false a0_127)]] []) = some (Fi_fieldsOk_ans a0_124 a0_125 a0_126 a0_127 r_) := by
  rw [ev_eq]
  simp only [Fi_fieldsOk] at h_
  rcases bI h_ with ⟨h1_, h_⟩ | ⟨h1_, h_⟩
  · obtain ⟨r210, h2_, h_⟩ := bS_some h_
    have h2_f := Fi_properName_ok a0_125 _ h2_
    try simp [Fi_properName_ans] at h2_f
    rcases bI h_ with ⟨h3_, h_⟩ | ⟨h3_, h_⟩
    · rcases bI h_ with ⟨h4_, h_⟩ | ⟨h4_, h_⟩
      · obtain ⟨r211, h5_, h_⟩ := bS_some h_
        have h5_f := Fi_within_ok a0_126 (-2147483647) 2147483647 _ h5_
        try simp [Fi_within_ans] at h5_f
        rcases bI h_ with ⟨h6_, h_⟩ | ⟨h6_, h_⟩
        · cases h_
          simp (maxSteps := 2000000) (decide := true) [-getElem?_pos, ir53, eq_true h1_, h2_f, h3_, eq_true h4_, h5_f, h6_, Fi_fieldsOk_ans]
        · cases h_
          simp (maxSteps := 2000000) (decide := true) [-getElem?_pos, ir53, eq_true h1_, h2_f, h3_, eq_true h4_, h5_f, h6_, Fi_fieldsOk_ans]
      · cases h_
        simp (maxSteps := 2000000) (decide := true) [-getElem?_pos, ir53, eq_true h1_, h2_f, h3_, h4_, Fi_fieldsOk_ans]
    · cases h_
      simp (maxSteps := 2000000) (decide := true) [-getElem?_pos, ir53, eq_true h1_, h2_f, h3_, Fi_fieldsOk_ans]
  · rcases bI h_ with ⟨h2_, h_⟩ | ⟨h2_, h_⟩
    · obtain ⟨r212, h3_, h_⟩ := bS_some h_
      have h3_f := Fi_properName_ok a0_125 _ h3_
      try simp [Fi_properName_ans] at h3_f
      rcases bI h_ with ⟨h4_, h_⟩ | ⟨h4_, h_⟩
      · rcases bI h_ with ⟨h5_, h_⟩ | ⟨h5_, h_⟩
        · obtain ⟨r213, h6_, h_⟩ := bS_some h_
          have h6_f := Fi_within_ok a0_126 (-2147483647) 2147483647 _ h6_
          try simp [Fi_within_ans] at h6_f
          rcases bI h_ with ⟨h7_, h_⟩ | ⟨h7_, h_⟩
          · cases h_
            simp (maxSteps := 2000000) (decide := true) [-getElem?_pos, ir53, h1_, eq_true h2_, h3_f, h4_, eq_true h5_, h6_f, h7_, Fi_fieldsOk_ans]
          · cases h_
            simp (maxSteps := 2000000) (decide := true) [-getElem?_pos, ir53, h1_, eq_true h2_, h3_f, h4_, eq_true h5_, h6_f, h7_, Fi_fieldsOk_ans]
        · cases h_
          simp (maxSteps := 2000000) (decide := true) [-getElem?_pos, ir53, h1_, eq_true h2_, h3_f, h4_, h5_, Fi_fieldsOk_ans]
      · cases h_
        simp (maxSteps := 2000000) (decide := true) [-getElem?_pos, ir53, h1_, eq_true h2_, h3_f, h4_, Fi_fieldsOk_ans]
    · rcases bI h_ with ⟨h3_, h_⟩ | ⟨h3_, h_⟩
      · obtain ⟨r214, h4_, h_⟩ := bS_some h_
        have h4_f := Fi_properName_ok a0_125 _ h4_
        try simp [Fi_properName_ans] at h4_f
        rcases bI h_ with ⟨h5_, h_⟩ | ⟨h5_, h_⟩
        · rcases bI h_ with ⟨h6_, h_⟩ | ⟨h6_, h_⟩
          · obtain ⟨r215, h7_, h_⟩ := bS_some h_
            have h7_f := Fi_within_ok a0_126 (-2147483647) 2147483647 _ h7_
            try simp [Fi_within_ans] at h7_f
            rcases bI h_ with ⟨h8_, h_⟩ | ⟨h8_, h_⟩
            · cases h_
              simp (maxSteps := 2000000) (decide := true) [-getElem?_pos, ir53, h1_, h2_, eq_true h3_, h4_f, h5_, eq_true h6_, h7_f, h8_, Fi_fieldsOk_ans]
            · cases h_
              simp (maxSteps := 2000000) (decide := true) [-getElem?_pos, ir53, h1_, h2_, eq_true h3_, h4_f, h5_, eq_true h6_, h7_f, h8_, Fi_fieldsOk_ans]
          · cases h_
            simp (maxSteps := 2000000) (decide := true) [-getElem?_pos, ir53, h1_, h2_, eq_true h3_, h4_f, h5_, h6_, Fi_fieldsOk_ans]
        · cases h_
          simp (maxSteps := 2000000) (decide := true) [-getElem?_pos, ir53, h1_, h2_, eq_true h3_, h4_f, h5_, Fi_fieldsOk_ans]
      · rcases bI h_ with ⟨h4_, h_⟩ | ⟨h4_, h_⟩
        · obtain ⟨r216, h5_, h_⟩ := bS_some h_
          have h5_f := Fi_properName_ok a0_125 _ h5_
          try simp [Fi_properName_ans] at h5_f
          rcases bI h_ with ⟨h6_, h_⟩ | ⟨h6_, h_⟩
          · rcases bI h_ with ⟨h7_, h_⟩ | ⟨h7_, h_⟩
            · obtain ⟨r217, h8_, h_⟩ := bS_some h_
              have h8_f := Fi_within_ok a0_126 (-2147483647) 2147483647 _ h8_
              try simp [Fi_within_ans] at h8_f
              rcases bI h_ with ⟨h9_, h_⟩ | ⟨h9_, h_⟩
              · cases h_
                simp (maxSteps := 2000000) (decide := true) [-getElem?_pos, ir53, h1_, h2_, h3_, eq_true h4_, h5_f, h6_, eq_true h7_, h8_f, h9_, Fi_fieldsOk_ans]
              · cases h_
                simp (maxSteps := 2000000) (decide := true) [-getElem?_pos, ir53, h1_, h2_, h3_, eq_true h4_, h5_f, h6_, eq_true h7_, h8_f, h9_, Fi_fieldsOk_ans]
            · cases h_
              simp (maxSteps := 2000000) (decide := true) [-getElem?_pos, ir53, h1_, h2_, h3_, eq_true h4_, h5_f, h6_, h7_, Fi_fieldsOk_ans]
          · cases h_
            simp (maxSteps := 2000000) (decide := true) [-getElem?_pos, ir53, h1_, h2_, h3_, eq_true h4_, h5_f, h6_, Fi_fieldsOk_ans]
        · rcases bI h_ with ⟨h5_, h_⟩ | ⟨h5_, h_⟩
          · obtain ⟨r218, h6_, h_⟩ := bS_some h_
            have h6_f := Fi_properName_ok a0_125 _ h6_
            try simp [Fi_properName_ans] at h6_f
            rcases bI h_ with ⟨h7_, h_⟩ | ⟨h7_, h_⟩
            · rcases bI h_ with ⟨h8_, h_⟩ | ⟨h8_, h_⟩
              · obtain ⟨r219, h9_, h_⟩ := bS_some h_
                have h9_f := Fi_within_ok a0_126 (-2147483647) 2147483647 _ h9_
                try simp [Fi_within_ans] at h9_f
                rcases bI h_ with ⟨h10_, h_⟩ | ⟨h10_, h_⟩
                · cases h_
                  simp (maxSteps := 2000000) (decide := true) [-getElem?_pos, ir53, h1_, h2_, h3_, h4_, eq_true h5_, h6_f, h7_, eq_true h8_, h9_f, h10_, Fi_fieldsOk_ans]
                · cases h_
                  simp (maxSteps := 2000000) (decide := true) [-getElem?_pos, ir53, h1_, h2_, h3_, h4_, eq_true h5_, h6_f, h7_, eq_true h8_, h9_f, h10_, Fi_fieldsOk_ans]
              · cases h_
                simp (maxSteps := 2000000) (decide := true) [-getElem?_pos, ir53, h1_, h2_, h3_, h4_, eq_true h5_, h6_f, h7_, h8_, Fi_fieldsOk_ans]
            · rcases bI h_ with ⟨h8_, h_⟩ | ⟨h8_, h_⟩
              · rcases bI h_ with ⟨h9_, h_⟩ | ⟨h9_, h_⟩
                · obtain ⟨r220, h10_, h_⟩ := bS_some h_
                  have h10_f := Fi_within_ok a0_126 (-2147483647) 2147483647 _ h10_
                  try simp [Fi_within_ans] at h10_f
                  rcases bI h_ with ⟨h11_, h_⟩ | ⟨h11_, h_⟩
                  · cases h_
                    simp (maxSteps := 2000000) (decide := true) [-getElem?_pos, ir53, h1_, h2_, h3_, h4_, eq_true h5_, h6_f, h7_, eq_true h8_, eq_true h9_, h10_f, h11_, Fi_fieldsOk_ans]
                  · cases h_
                    simp (maxSteps := 2000000) (decide := true) [-getElem?_pos, ir53, h1_, h2_, h3_, h4_, eq_true h5_, h6_f, h7_, eq_true h8_, eq_true h9_, h10_f, h11_, Fi_fieldsOk_ans]
                · cases h_
                  simp (maxSteps := 2000000) (decide := true) [-getElem?_pos, ir53, h1_, h2_, h3_, h4_, eq_true h5_, h6_f, h7_, eq_true h8_, h9_, Fi_fieldsOk_ans]
              · cases h_
                simp (maxSteps := 2000000) (decide := true) [-getElem?_pos, ir53, h1_, h2_, h3_, h4_, eq_true h5_, h6_f, h7_, h8_, Fi_fieldsOk_ans]
          · rcases bI h_ with ⟨h6_, h_⟩ | ⟨h6_, h_⟩
            · obtain ⟨r221, h7_, h_⟩ := bS_some h_
              have h7_f := Fi_properName_ok a0_125 _ h7_
              try simp [Fi_properName_ans] at h7_f
              rcases bI h_ with ⟨h8_, h_⟩ | ⟨h8_, h_⟩
              · rcases bI h_ with ⟨h9_, h_⟩ | ⟨h9_, h_⟩
                · obtain ⟨r222, h10_, h_⟩ := bS_some h_
                  have h10_f := Fi_within_ok a0_126 (-2147483647) 2147483647 _ h10_
                  try simp [Fi_within_ans] at h10_f
                  rcases bI h_ with ⟨h11_, h_⟩ | ⟨h11_, h_⟩
                  · cases h_
                    simp (maxSteps := 2000000) (decide := true) [-getElem?_pos, ir53, h1_, h2_, h3_, h4_, h5_, eq_true h6_, h7_f, h8_, eq_true h9_, h10_f, h11_, Fi_fieldsOk_ans]
                  · cases h_
                    simp (maxSteps := 2000000) (decide := true) [-getElem?_pos, ir53, h1_, h2_, h3_, h4_, h5_, eq_true h6_, h7_f, h8_, eq_true h9_, h10_f, h11_, Fi_fieldsOk_ans]
                · cases h_
                  simp (maxSteps := 2000000) (decide := true) [-getElem?_pos, ir53, h1_, h2_, h3_, h4_, h5_, eq_true h6_, h7_f, h8_, h9_, Fi_fieldsOk_ans]
              · rcases bI h_ with ⟨h9_, h_⟩ | ⟨h9_, h_⟩
                · rcases bI h_ with ⟨h10_, h_⟩ | ⟨h10_, h_⟩
                  · obtain ⟨r223, h11_, h_⟩ := bS_some h_
                    have h11_f := Fi_within_ok a0_126 (-2147483647) 2147483647 _ h11_
                    try simp [Fi_within_ans] at h11_f
                    rcases bI h_ with ⟨h12_, h_⟩ | ⟨h12_, h_⟩
                    · cases h_
                      simp (maxSteps := 2000000) (decide := true) [-getElem?_pos, ir53, h1_, h2_, h3_, h4_, h5_, eq_true h6_, h7_f, h8_, eq_true h9_, eq_true h10_, h11_f, h12_, Fi_fieldsOk_ans]
                    · cases h_
                      simp (maxSteps := 2000000) (decide := true) [-getElem?_pos, ir53, h1_, h2_, h3_, h4_, h5_, eq_true h6_, h7_f, h8_, eq_true h9_, eq_true h10_, h11_f, h12_, Fi_fieldsOk_ans]
                  · cases h_
                    simp (maxSteps := 2000000) (decide := true) [-getElem?_pos, ir53, h1_, h2_, h3_, h4_, h5_, eq_true h6_, h7_f, h8_, eq_true h9_, h10_, Fi_fieldsOk_ans]
                · cases h_
                  simp (maxSteps := 2000000) (decide := true) [-getElem?_pos, ir53, h1_, h2_, h3_, h4_, h5_, eq_true h6_, h7_f, h8_, h9_, Fi_fieldsOk_ans]
            · rcases bI h_ with ⟨h7_, h_⟩ | ⟨h7_, h_⟩
              · rcases bI h_ with ⟨h8_, h_⟩ | ⟨h8_, h_⟩
                · have h8_s := h8_; try simp at h8_s
                  obtain ⟨r226, h10_, h_⟩ := bS_some h_
                  have h10_f := Fi_run_2_ok a0_125 0 _ h10_
                  try simp [Fi_run_2_ans] at h10_f
                  rcases bI h_ with ⟨h11_, h_⟩ | ⟨h11_, h_⟩
                  · have h11_s := h11_; try simp at h11_s
                    rcases bI h_ with ⟨h13_, h_⟩ | ⟨h13_, h_⟩
                    · obtain ⟨r227, h14_, h_⟩ := bS_some h_
                      have h14_f := Fi_within_ok a0_126 (-2147483647) 2147483647 _ h14_
                      try simp [Fi_within_ans] at h14_f
                      rcases bI h_ with ⟨h15_, h_⟩ | ⟨h15_, h_⟩
                      · cases h_
                        simp (maxSteps := 2000000) (decide := true) [-getElem?_pos, ir53, h1_, h2_, h3_, h4_, h5_, h6_, eq_true h7_, h8_, h8_s, h10_f, eq_true h11_, eq_true h11_s, eq_true h13_, h14_f, h15_, Fi_fieldsOk_ans]
                      · cases h_
                        simp (maxSteps := 2000000) (decide := true) [-getElem?_pos, ir53, h1_, h2_, h3_, h4_, h5_, h6_, eq_true h7_, h8_, h8_s, h10_f, eq_true h11_, eq_true h11_s, eq_true h13_, h14_f, h15_, Fi_fieldsOk_ans]
                    · cases h_
                      simp (maxSteps := 2000000) (decide := true) [-getElem?_pos, ir53, h1_, h2_, h3_, h4_, h5_, h6_, eq_true h7_, h8_, h8_s, h10_f, eq_true h11_, eq_true h11_s, h13_, Fi_fieldsOk_ans]
                  · have h11_s := h11_; try simp at h11_s
                    cases h_
                    simp (maxSteps := 2000000) (decide := true) [-getElem?_pos, ir53, h1_, h2_, h3_, h4_, h5_, h6_, eq_true h7_, h8_, h8_s, h10_f, h11_, h11_s, Fi_fieldsOk_ans]
                · have h8_s := h8_; try simp at h8_s
                  cases h_
                  simp (maxSteps := 2000000) (decide := true) [-getElem?_pos, ir53, h1_, h2_, h3_, h4_, h5_, h6_, eq_true h7_, h8_, h8_s, Fi_fieldsOk_ans]
              · rcases bI h_ with ⟨h8_, h_⟩ | ⟨h8_, h_⟩
                · obtain ⟨r229, h9_, h_⟩ := bS_some h_
                  have h9_f := Fi_namesOf_ok a0_124 a0_125 a0_126 a0_127 _ h9_
                  try simp [Fi_namesOf_ans] at h9_f
                  obtain ⟨r234, h10_, h_⟩ := bS_some h_
                  have h10_f := Fslices_ContainsFunc_string_ok r229 _ h10_
                  try simp [Fslices_ContainsFunc_string_ans] at h10_f
                  rcases bI h_ with ⟨h11_, h_⟩ | ⟨h11_, h_⟩
                  · cases h_
                    simp (maxSteps := 2000000) (decide := true) [-getElem?_pos, ir53, h1_, h2_, h3_, h4_, h5_, h6_, h7_, eq_true h8_, h9_f, h10_f, h11_, Fi_fieldsOk_ans]
                  · rcases bI h_ with ⟨h12_, h_⟩ | ⟨h12_, h_⟩
                    · obtain ⟨r235, h13_, h_⟩ := bS_some h_
                      have h13_f := Fi_within_ok a0_126 (-2147483647) 2147483647 _ h13_
                      try simp [Fi_within_ans] at h13_f
                      rcases bI h_ with ⟨h14_, h_⟩ | ⟨h14_, h_⟩
                      · cases h_
                        simp (maxSteps := 2000000) (decide := true) [-getElem?_pos, ir53, h1_, h2_, h3_, h4_, h5_, h6_, h7_, eq_true h8_, h9_f, h10_f, h11_, eq_true h12_, h13_f, h14_, Fi_fieldsOk_ans]
                      · cases h_
                        simp (maxSteps := 2000000) (decide := true) [-getElem?_pos, ir53, h1_, h2_, h3_, h4_, h5_, h6_, h7_, eq_true h8_, h9_f, h10_f, h11_, eq_true h12_, h13_f, h14_, Fi_fieldsOk_ans]
                    · cases h_
                      simp (maxSteps := 2000000) (decide := true) [-getElem?_pos, ir53, h1_, h2_, h3_, h4_, h5_, h6_, h7_, eq_true h8_, h9_f, h10_f, h11_, h12_, Fi_fieldsOk_ans]
                · rcases bI h_ with ⟨h9_, h_⟩ | ⟨h9_, h_⟩
                  · rcases bI h_ with ⟨h10_, h_⟩ | ⟨h10_, h_⟩
                    · obtain ⟨r236, h11_, h_⟩ := bS_some h_
                      have h11_f := Fi_within_ok a0_126 (-2147483647) 2147483647 _ h11_
                      try simp [Fi_within_ans] at h11_f
                      rcases bI h_ with ⟨h12_, h_⟩ | ⟨h12_, h_⟩
                      · cases h_
                        simp (maxSteps := 2000000) (decide := true) [-getElem?_pos, ir53, h1_, h2_, h3_, h4_, h5_, h6_, h7_, h8_, eq_true h9_, eq_true h10_, h11_f, h12_, Fi_fieldsOk_ans]
                      · cases h_
                        simp (maxSteps := 2000000) (decide := true) [-getElem?_pos, ir53, h1_, h2_, h3_, h4_, h5_, h6_, h7_, h8_, eq_true h9_, eq_true h10_, h11_f, h12_, Fi_fieldsOk_ans]
                    · cases h_
                      simp (maxSteps := 2000000) (decide := true) [-getElem?_pos, ir53, h1_, h2_, h3_, h4_, h5_, h6_, h7_, h8_, eq_true h9_, h10_, Fi_fieldsOk_ans]
                  · cases h_
                    simp (maxSteps := 2000000) (decide := true) [-getElem?_pos, ir53, h1_, h2_, h3_, h4_, h5_, h6_, h7_, h8_, h9_, Fi_fieldsOk_ans]
end Go.Pv
