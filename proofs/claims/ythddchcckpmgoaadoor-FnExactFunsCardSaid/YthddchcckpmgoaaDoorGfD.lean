/- Proof: the functions as Lean functions, fourth part. No condition. -/
import Derived.Test.YthddchcckpmgoaaDoorGfC
set_option autoImplicit true
set_option relaxedAutoImplicit true
set_option linter.unusedSimpArgs false
set_option linter.unusedVariables false
namespace Go.Pv
set_option maxRecDepth 100000
set_option maxHeartbeats 40000000
set_option linter.unusedSimpArgs false
set_option linter.unusedVariables false
def Fi_allOk_ans (a0_81 : Int) (a0_82 : ByteArray) (a0_83 : Int) (a0_84 : List T_Node) : Bool → Ans
  | q97 => .val (.sc (.bool q97)) []
def Pi_allOk (Ri_allOk : Int → ByteArray → Int → (List T_Node) → Option Bool) : Prop := ∀ (a0_81 : Int) (a0_82 : ByteArray) (a0_83 : Int) (a0_84 : List T_Node) (r_ : Bool), Ri_allOk a0_81 a0_82 a0_83 a0_84 = some r_ → ev EE (.call 35 [.ag [.sc (.int .i64 a0_81), .sc (.string a0_82), .sc (.int .i64 a0_83), .ls false (r_Node false a0_84)]] []) = some (Fi_allOk_ans a0_81 a0_82 a0_83 a0_84 r_)
/-- impl.allOk$1 -/
def Fi_allOk_c1 (Ri_allOk : Int → ByteArray → Int → (List T_Node) → Option Bool) (a0_148 : Int) (a0_149 : ByteArray) (a0_150 : Int) (a0_151 : List T_Node) : Option Bool :=
  bS (Ri_allOk a0_148 a0_149 a0_150 a0_151) fun r238 =>
  some (!r238)
def Fi_allOk_c1_ans (a0_148 : Int) (a0_149 : ByteArray) (a0_150 : Int) (a0_151 : List T_Node) : Bool → Ans
  | q98 => .val (.sc (.bool q98)) []
theorem Fi_allOk_c1_ok (Ri_allOk : Int → ByteArray → Int → (List T_Node) → Option Bool) (hRi_allOk : Pi_allOk Ri_allOk) (a0_148 : Int) (a0_149 : ByteArray) (a0_150 : Int) (a0_151 : List T_Node) (r_ : Bool) (h_ : Fi_allOk_c1 Ri_allOk a0_148 a0_149 a0_150 a0_151 = some r_) : ev EE (.call 55 [.ag [.sc (.int .i64 a0_148), .sc (.string a0_149), .sc (.int .i64 a0_150), .ls false (r_Node false a0_151)]] []) = some (Fi_allOk_c1_ans a0_148 a0_149 a0_150 a0_151 r_) := by
  rw [ev_eq]
  simp only [Fi_allOk_c1] at h_
  obtain ⟨r238, h1_, h_⟩ := bS_some h_
  have h1_f := hRi_allOk a0_148 a0_149 a0_150 a0_151 _ h1_
  try simp [Fi_allOk_ans] at h1_f
  cases h_
  simp (maxSteps := 2000000) (decide := true) [-getElem?_pos, ir55, h1_f, Fi_allOk_c1_ans]
def Lslices_IndexFunc_Node_0_4 (Ri_allOk : Int → ByteArray → Int → (List T_Node) → Option Bool) : Nat → (List T_Node) → Int → Int → Option (Int ⊕ Unit)
  | 0, _, _, _ => none
  | n_ + 1, t0_18, t7_12, t8_8 =>
  if t8_8 < t7_12 then
    bS (getI t0_18 t8_8) fun e23 =>
    bS (Fi_allOk_c1 Ri_allOk e23.op_ e23.s_ e23.n_ e23.kids_) fun r239 =>
    if r239 = true then
      some (.inl t8_8)
    else
      Lslices_IndexFunc_Node_0_4 Ri_allOk n_ t0_18 t7_12 (IntKind.i64.wrap (t8_8 + 1))
  else
    some (.inr ())
def Lslices_IndexFunc_Node_0_4_ans (t0_18 : List T_Node) (t7_12 : Int) (t8_8 : Int) : Int ⊕ Unit → Ans
  | .inl t4_23 => .out .ret { np := 0, tm := [(4, .sc (.int .i64 t4_23))], ar := [], bx := [] }
  | .inr _ => .out (.exit 0) { np := 0, tm := [], ar := [], bx := [] }
theorem Lslices_IndexFunc_Node_0_4_ok (Ri_allOk : Int → ByteArray → Int → (List T_Node) → Option Bool) (hRi_allOk : Pi_allOk Ri_allOk) : ∀ (n_ : Nat) (t0_18 : List T_Node) (t7_12 : Int) (t8_8 : Int) (r_ : Int ⊕ Unit), Lslices_IndexFunc_Node_0_4 Ri_allOk n_ t0_18 t7_12 t8_8 = some r_ → ev EE (.loop lp73_0 [0, 1, 7, 8] [4] { np := 0, tm := [(0, .ls false (r_Node false t0_18)), (1, .fn 55 []), (7, .sc (.int .i64 t7_12)), (8, .sc (.int .i64 t8_8))], ar := [], bx := [] }) = some (Lslices_IndexFunc_Node_0_4_ans t0_18 t7_12 t8_8 r_) := by
  intro n_
  induction n_ with
  | zero => intro t0_18 t7_12 t8_8 r_ h_; simp only [Lslices_IndexFunc_Node_0_4] at h_; cases h_
  | succ n_ ih_ =>
    intro t0_18 t7_12 t8_8 r_ h_
    rw [ev_loop EE lp73_0.eq_1]
    simp only [Lslices_IndexFunc_Node_0_4] at h_
    rcases bI h_ with ⟨h1_, h_⟩ | ⟨h1_, h_⟩
    · obtain ⟨e23, h2_, h_⟩ := bS_some h_
      obtain ⟨h2_a, h2_b, h2_c, h2_d⟩ := r_Node_getI (o := false)  h2_
      try simp [-getElem?_pos] at h2_d
      obtain ⟨r239, h6_, h_⟩ := bS_some h_
      have h6_f := Fi_allOk_c1_ok Ri_allOk hRi_allOk e23.op_ e23.s_ e23.n_ e23.kids_ _ h6_
      try simp [Fi_allOk_c1_ans] at h6_f
      rcases bI h_ with ⟨h7_, h_⟩ | ⟨h7_, h_⟩
      · cases h_
        simp (maxSteps := 2000000) (decide := true) [-getElem?_pos, h1_, h2_a, h2_b, h2_c, h2_d, h6_f, h7_, Lslices_IndexFunc_Node_0_4_ans]
      · have q_ := ih_ t0_18 t7_12 (IntKind.i64.wrap (t8_8 + 1)) _ h_
        rcases r_ with t4_23 | _
        all_goals (try simp [Lslices_IndexFunc_Node_0_4_ans] at q_)
        all_goals simp (maxSteps := 2000000) (decide := true) [-getElem?_pos, h1_, h2_a, h2_b, h2_c, h2_d, h6_f, h7_, q_, Lslices_IndexFunc_Node_0_4_ans]
    · cases h_
      simp (maxSteps := 2000000) (decide := true) [-getElem?_pos, h1_, Lslices_IndexFunc_Node_0_4_ans]
/-- impl.Node] -/
def Fslices_IndexFunc_Node_4 (Ri_allOk : Int → ByteArray → Int → (List T_Node) → Option Bool) (a0_147 : List T_Node) : Option Int :=
  bS (Lslices_IndexFunc_Node_0_4 Ri_allOk FU a0_147 (a0_147.length : Int) 0) fun r_ => match r_ with
  | .inl r240 =>
    some r240
  | .inr () =>
    some (-1)
def Fslices_IndexFunc_Node_4_ans (a0_147 : List T_Node) : Int → Ans
  | q99 => .val (.sc (.int .i64 q99)) []
theorem Fslices_IndexFunc_Node_4_ok (Ri_allOk : Int → ByteArray → Int → (List T_Node) → Option Bool) (hRi_allOk : Pi_allOk Ri_allOk) (a0_147 : List T_Node) (r_ : Int) (h_ : Fslices_IndexFunc_Node_4 Ri_allOk a0_147 = some r_) : ev EE (.call 73 [.ls false (r_Node false a0_147), .fn 55 []] []) = some (Fslices_IndexFunc_Node_4_ans a0_147 r_) := by
  rw [ev_eq]
  simp only [Fslices_IndexFunc_Node_4] at h_
  obtain ⟨r_0, h1_, h_⟩ := bS_some h_
  have h1_f := Lslices_IndexFunc_Node_0_4_ok Ri_allOk hRi_allOk FU a0_147 (a0_147.length : Int) 0 _ h1_
  rcases r_0 with r240 | _
  · try dsimp only at h_
    try simp [Lslices_IndexFunc_Node_0_4_ans] at h1_f
    cases h_
    simp (maxSteps := 2000000) (decide := true) [-getElem?_pos, ir73, h1_f, Fslices_IndexFunc_Node_4_ans]
  · try dsimp only at h_
    try simp [Lslices_IndexFunc_Node_0_4_ans] at h1_f
    cases h_
    simp (maxSteps := 2000000) (decide := true) [-getElem?_pos, ir73, h1_f, Fslices_IndexFunc_Node_4_ans]
/-- impl.Node] -/
def Fslices_ContainsFunc_Node_4 (Ri_allOk : Int → ByteArray → Int → (List T_Node) → Option Bool) (a0_146 : List T_Node) : Option Bool :=
  bS (Fslices_IndexFunc_Node_4 Ri_allOk a0_146) fun r241 =>
  some (decide (0 ≤ r241))
def Fslices_ContainsFunc_Node_4_ans (a0_146 : List T_Node) : Bool → Ans
  | q100 => .val (.sc (.bool q100)) []
theorem Fslices_ContainsFunc_Node_4_ok (Ri_allOk : Int → ByteArray → Int → (List T_Node) → Option Bool) (hRi_allOk : Pi_allOk Ri_allOk) (a0_146 : List T_Node) (r_ : Bool) (h_ : Fslices_ContainsFunc_Node_4 Ri_allOk a0_146 = some r_) : ev EE (.call 54 [.ls false (r_Node false a0_146), .fn 55 []] []) = some (Fslices_ContainsFunc_Node_4_ans a0_146 r_) := by
  rw [ev_eq]
  simp only [Fslices_ContainsFunc_Node_4] at h_
  obtain ⟨r241, h1_, h_⟩ := bS_some h_
  have h1_f := Fslices_IndexFunc_Node_4_ok Ri_allOk hRi_allOk a0_146 _ h1_
  try simp [Fslices_IndexFunc_Node_4_ans] at h1_f
  cases h_
  simp (maxSteps := 2000000) (decide := true) [-getElem?_pos, ir54, h1_f, Fslices_ContainsFunc_Node_4_ans]
/-- impl.allOk -/
def Si_allOk (Ri_allOk : Int → ByteArray → Int → (List T_Node) → Option Bool) (a0_81 : Int) (a0_82 : ByteArray) (a0_83 : Int) (a0_84 : List T_Node) : Option Bool :=
  bS (Fi_kidsOk a0_81 a0_82 a0_83 a0_84) fun r197 =>
  if r197 = true then
    bS (Fi_fieldsOk a0_81 a0_82 a0_83 a0_84) fun r237 =>
    if r237 = true then
      bS (Fslices_ContainsFunc_Node_4 Ri_allOk a0_84) fun r242 =>
      some (!r242)
    else
      some false
  else
    some false
theorem Si_allOk_ok (Ri_allOk : Int → ByteArray → Int → (List T_Node) → Option Bool) (hRi_allOk : Pi_allOk Ri_allOk) (a0_81 : Int) (a0_82 : ByteArray) (a0_83 : Int) (a0_84 : List T_Node) (r_ : Bool) (h_ : Si_allOk Ri_allOk a0_81 a0_82 a0_83 a0_84 = some r_) : ev EE (.call 35 [.ag [.sc (.int .i64 a0_81), .sc (.string a0_82), .sc (.int .i64 a0_83), .ls false (r_Node false a0_84)]] []) = some (Fi_allOk_ans a0_81 a0_82 a0_83 a0_84 r_) := by
  rw [ev_eq]
  simp only [Si_allOk] at h_
  obtain ⟨r197, h1_, h_⟩ := bS_some h_
  have h1_f := Fi_kidsOk_ok a0_81 a0_82 a0_83 a0_84 _ h1_
  try simp [Fi_kidsOk_ans] at h1_f
  rcases bI h_ with ⟨h2_, h_⟩ | ⟨h2_, h_⟩
  · obtain ⟨r237, h3_, h_⟩ := bS_some h_
    have h3_f := Fi_fieldsOk_ok a0_81 a0_82 a0_83 a0_84 _ h3_
    try simp [Fi_fieldsOk_ans] at h3_f
    rcases bI h_ with ⟨h4_, h_⟩ | ⟨h4_, h_⟩
    · obtain ⟨r242, h5_, h_⟩ := bS_some h_
      have h5_f := Fslices_ContainsFunc_Node_4_ok Ri_allOk hRi_allOk a0_84 _ h5_
      try simp [Fslices_ContainsFunc_Node_4_ans] at h5_f
      cases h_
      simp (maxSteps := 2000000) (decide := true) [-getElem?_pos, ir35, h1_f, h2_, h3_f, h4_, h5_f, Fi_allOk_ans]
    · cases h_
      simp (maxSteps := 2000000) (decide := true) [-getElem?_pos, ir35, h1_f, h2_, h3_f, h4_, Fi_allOk_ans]
  · cases h_
    simp (maxSteps := 2000000) (decide := true) [-getElem?_pos, ir35, h1_f, h2_, Fi_allOk_ans]
def Fi_allOkn : Nat → Int → ByteArray → Int → (List T_Node) → Option Bool
  | 0 => fun _ _ _ _ => none
  | n_ + 1 => Si_allOk (Fi_allOkn n_)
def Fi_allOk (a0_81 : Int) (a0_82 : ByteArray) (a0_83 : Int) (a0_84 : List T_Node) : Option Bool := Fi_allOkn FU a0_81 a0_82 a0_83 a0_84
theorem Fi_allOkn_ok : ∀ (n_ : Nat) (a0_81 : Int) (a0_82 : ByteArray) (a0_83 : Int) (a0_84 : List T_Node) (r_ : Bool), Fi_allOkn n_ a0_81 a0_82 a0_83 a0_84 = some r_ → ev EE (.call 35 [.ag [.sc (.int .i64 a0_81), .sc (.string a0_82), .sc (.int .i64 a0_83), .ls false (r_Node false a0_84)]] []) = some (Fi_allOk_ans a0_81 a0_82 a0_83 a0_84 r_) := by
  intro n_
  induction n_ with
  | zero => intro a0_81 a0_82 a0_83 a0_84 r_ h_; cases h_
  | succ n_ ih_ => intro a0_81 a0_82 a0_83 a0_84 r_ h_; exact Si_allOk_ok (Fi_allOkn n_) ih_ a0_81 a0_82 a0_83 a0_84 r_ h_
theorem Fi_allOk_ok (a0_81 : Int) (a0_82 : ByteArray) (a0_83 : Int) (a0_84 : List T_Node) (r_ : Bool) (h_ : Fi_allOk a0_81 a0_82 a0_83 a0_84 = some r_) : ev EE (.call 35 [.ag [.sc (.int .i64 a0_81), .sc (.string a0_82), .sc (.int .i64 a0_83), .ls false (r_Node false a0_84)]] []) = some (Fi_allOk_ans a0_81 a0_82 a0_83 a0_84 r_) := Fi_allOkn_ok FU a0_81 a0_82 a0_83 a0_84 r_ h_
def Fi_Size_ans (a0_152 : Int) (a0_153 : ByteArray) (a0_154 : Int) (a0_155 : List T_Node) : Int → Ans
  | q101 => .val (.sc (.int .i64 q101)) []
def Pi_Size (Ri_Size : Int → ByteArray → Int → (List T_Node) → Option Int) : Prop := ∀ (a0_152 : Int) (a0_153 : ByteArray) (a0_154 : Int) (a0_155 : List T_Node) (r_ : Int), Ri_Size a0_152 a0_153 a0_154 a0_155 = some r_ → ev EE (.call 36 [.ag [.sc (.int .i64 a0_152), .sc (.string a0_153), .sc (.int .i64 a0_154), .ls false (r_Node false a0_155)]] []) = some (Fi_Size_ans a0_152 a0_153 a0_154 a0_155 r_)
def Li_Size_0 (Ri_Size : Int → ByteArray → Int → (List T_Node) → Option Int) : Nat → Int → (List T_Node) → Int → Int → Option Int
  | 0, _, _, _, _ => none
  | n_ + 1, t3_16, t7_13, t8_9, t9_1 =>
  if t9_1 < t8_9 then
    bS (getI t7_13 t9_1) fun e24 =>
    bS (Ri_Size e24.op_ e24.s_ e24.n_ e24.kids_) fun r244 =>
    Li_Size_0 Ri_Size n_ (IntKind.i64.wrap (t3_16 + r244)) t7_13 t8_9 (IntKind.i64.wrap (t9_1 + 1))
  else
    some t3_16
def Li_Size_0_ans (t3_16 : Int) (t7_13 : List T_Node) (t8_9 : Int) (t9_1 : Int) : Int → Ans
  | t3_17 => .out (.exit 0) { np := 0, tm := [(3, .sc (.int .i64 t3_17))], ar := [], bx := [] }
theorem Li_Size_0_ok (Ri_Size : Int → ByteArray → Int → (List T_Node) → Option Int) (hRi_Size : Pi_Size Ri_Size) : ∀ (n_ : Nat) (t3_16 : Int) (t7_13 : List T_Node) (t8_9 : Int) (t9_1 : Int) (r_ : Int), Li_Size_0 Ri_Size n_ t3_16 t7_13 t8_9 t9_1 = some r_ → ev EE (.loop lp36_0 [3, 7, 8, 9] [2, 3] { np := 0, tm := [(3, .sc (.int .i64 t3_16)), (7, .ls false (r_Node false t7_13)), (8, .sc (.int .i64 t8_9)), (9, .sc (.int .i64 t9_1))], ar := [], bx := [] }) = some (Li_Size_0_ans t3_16 t7_13 t8_9 t9_1 r_) := by
  intro n_
  induction n_ with
  | zero => intro t3_16 t7_13 t8_9 t9_1 r_ h_; simp only [Li_Size_0] at h_; cases h_
  | succ n_ ih_ =>
    intro t3_16 t7_13 t8_9 t9_1 r_ h_
    rw [ev_loop EE lp36_0.eq_1]
    simp only [Li_Size_0] at h_
    rcases bI h_ with ⟨h1_, h_⟩ | ⟨h1_, h_⟩
    · obtain ⟨e24, h2_, h_⟩ := bS_some h_
      obtain ⟨h2_a, h2_b, h2_c, h2_d⟩ := r_Node_getI (o := false)  h2_
      try simp [-getElem?_pos] at h2_d
      obtain ⟨r244, h6_, h_⟩ := bS_some h_
      have h6_f := hRi_Size e24.op_ e24.s_ e24.n_ e24.kids_ _ h6_
      try simp [Fi_Size_ans] at h6_f
      have q_ := ih_ (IntKind.i64.wrap (t3_16 + r244)) t7_13 t8_9 (IntKind.i64.wrap (t9_1 + 1)) _ h_
      rcases r_ with t3_17
      all_goals (try simp [Li_Size_0_ans] at q_)
      all_goals simp (maxSteps := 2000000) (decide := true) [-getElem?_pos, h1_, h2_a, h2_b, h2_c, h2_d, h6_f, q_, Li_Size_0_ans]
    · cases h_
      simp (maxSteps := 2000000) (decide := true) [-getElem?_pos, h1_, Li_Size_0_ans]
/-- impl.Size -/
def Si_Size (Ri_Size : Int → ByteArray → Int → (List T_Node) → Option Int) (a0_152 : Int) (a0_153 : ByteArray) (a0_154 : Int) (a0_155 : List T_Node) : Option Int :=
  bS (Li_Size_0 Ri_Size FU 1 a0_155 (a0_155.length : Int) 0) fun r245 =>
  some r245
theorem Si_Size_ok (Ri_Size : Int → ByteArray → Int → (List T_Node) → Option Int) (hRi_Size : Pi_Size Ri_Size) (a0_152 : Int) (a0_153 : ByteArray) (a0_154 : Int) (a0_155 : List T_Node) (r_ : Int) (h_ : Si_Size Ri_Size a0_152 a0_153 a0_154 a0_155 = some r_) : ev EE (.call 36 [.ag [.sc (.int .i64 a0_152), .sc (.string a0_153), .sc (.int .i64 a0_154), .ls false (r_Node false a0_155)]] []) = some (Fi_Size_ans a0_152 a0_153 a0_154 a0_155 r_) := by
  rw [ev_eq]
  simp only [Si_Size] at h_
  obtain ⟨r245, h1_, h_⟩ := bS_some h_
  have h1_f := Li_Size_0_ok Ri_Size hRi_Size FU 1 a0_155 (a0_155.length : Int) 0 _ h1_
  try simp [Li_Size_0_ans] at h1_f
  cases h_
  simp (maxSteps := 2000000) (decide := true) [-getElem?_pos, ir36, h1_f, Fi_Size_ans]
def Fi_Sizen : Nat → Int → ByteArray → Int → (List T_Node) → Option Int
  | 0 => fun _ _ _ _ => none
  | n_ + 1 => Si_Size (Fi_Sizen n_)
def Fi_Size (a0_152 : Int) (a0_153 : ByteArray) (a0_154 : Int) (a0_155 : List T_Node) : Option Int := Fi_Sizen FU a0_152 a0_153 a0_154 a0_155
theorem Fi_Sizen_ok : ∀ (n_ : Nat) (a0_152 : Int) (a0_153 : ByteArray) (a0_154 : Int) (a0_155 : List T_Node) (r_ : Int), Fi_Sizen n_ a0_152 a0_153 a0_154 a0_155 = some r_ → ev EE (.call 36 [.ag [.sc (.int .i64 a0_152), .sc (.string a0_153), .sc (.int .i64 a0_154), .ls false (r_Node false a0_155)]] []) = some (Fi_Size_ans a0_152 a0_153 a0_154 a0_155 r_) := by
  intro n_
  induction n_ with
  | zero => intro a0_152 a0_153 a0_154 a0_155 r_ h_; cases h_
  | succ n_ ih_ => intro a0_152 a0_153 a0_154 a0_155 r_ h_; exact Si_Size_ok (Fi_Sizen n_) ih_ a0_152 a0_153 a0_154 a0_155 r_ h_
theorem Fi_Size_ok (a0_152 : Int) (a0_153 : ByteArray) (a0_154 : Int) (a0_155 : List T_Node) (r_ : Int) (h_ : Fi_Size a0_152 a0_153 a0_154 a0_155 = some r_) : ev EE (.call 36 [.ag [.sc (.int .i64 a0_152), .sc (.string a0_153), .sc (.int .i64 a0_154), .ls false (r_Node false a0_155)]] []) = some (Fi_Size_ans a0_152 a0_153 a0_154 a0_155 r_) := Fi_Sizen_ok FU a0_152 a0_153 a0_154 a0_155 r_ h_
def Fi_Deep_ans (a0_156 : Int) (a0_157 : ByteArray) (a0_158 : Int) (a0_159 : List T_Node) : Int → Ans
  | q102 => .val (.sc (.int .i64 q102)) []
def Pi_Deep (Ri_Deep : Int → ByteArray → Int → (List T_Node) → Option Int) : Prop := ∀ (a0_156 : Int) (a0_157 : ByteArray) (a0_158 : Int) (a0_159 : List T_Node) (r_ : Int), Ri_Deep a0_156 a0_157 a0_158 a0_159 = some r_ → ev EE (.call 37 [.ag [.sc (.int .i64 a0_156), .sc (.string a0_157), .sc (.int .i64 a0_158), .ls false (r_Node false a0_159)]] []) = some (Fi_Deep_ans a0_156 a0_157 a0_158 a0_159 r_)
def Li_Deep_0 (Ri_Deep : Int → ByteArray → Int → (List T_Node) → Option Int) : Nat → Int → (List T_Node) → Int → Int → Option Int
  | 0, _, _, _, _ => none
  | n_ + 1, t3_18, t7_14, t8_10, t9_2 =>
  if t9_2 < t8_10 then
    bS (getI t7_14 t9_2) fun e25 =>
    bS (Ri_Deep e25.op_ e25.s_ e25.n_ e25.kids_) fun r247 =>
    if t3_18 < r247 then
      Li_Deep_0 Ri_Deep n_ r247 t7_14 t8_10 (IntKind.i64.wrap (t9_2 + 1))
    else
      Li_Deep_0 Ri_Deep n_ t3_18 t7_14 t8_10 (IntKind.i64.wrap (t9_2 + 1))
  else
    some t3_18
def Li_Deep_0_ans (t3_18 : Int) (t7_14 : List T_Node) (t8_10 : Int) (t9_2 : Int) : Int → Ans
  | t3_19 => .out (.exit 0) { np := 0, tm := [(3, .sc (.int .i64 t3_19))], ar := [], bx := [] }
theorem Li_Deep_0_ok (Ri_Deep : Int → ByteArray → Int → (List T_Node) → Option Int) (hRi_Deep : Pi_Deep Ri_Deep) : ∀ (n_ : Nat) (t3_18 : Int) (t7_14 : List T_Node) (t8_10 : Int) (t9_2 : Int) (r_ : Int), Li_Deep_0 Ri_Deep n_ t3_18 t7_14 t8_10 t9_2 = some r_ → ev EE (.loop lp37_0 [3, 7, 8, 9] [2, 3] { np := 0, tm := [(3, .sc (.int .i64 t3_18)), (7, .ls false (r_Node false t7_14)), (8, .sc (.int .i64 t8_10)), (9, .sc (.int .i64 t9_2))], ar := [], bx := [] }) = some (Li_Deep_0_ans t3_18 t7_14 t8_10 t9_2 r_) := by
  intro n_
  induction n_ with
  | zero => intro t3_18 t7_14 t8_10 t9_2 r_ h_; simp only [Li_Deep_0] at h_; cases h_
  | succ n_ ih_ =>
    intro t3_18 t7_14 t8_10 t9_2 r_ h_
    rw [ev_loop EE lp37_0.eq_1]
    simp only [Li_Deep_0] at h_
    rcases bI h_ with ⟨h1_, h_⟩ | ⟨h1_, h_⟩
    · obtain ⟨e25, h2_, h_⟩ := bS_some h_
      obtain ⟨h2_a, h2_b, h2_c, h2_d⟩ := r_Node_getI (o := false)  h2_
      try simp [-getElem?_pos] at h2_d
      obtain ⟨r247, h6_, h_⟩ := bS_some h_
      have h6_f := hRi_Deep e25.op_ e25.s_ e25.n_ e25.kids_ _ h6_
      try simp [Fi_Deep_ans] at h6_f
      rcases bI h_ with ⟨h7_, h_⟩ | ⟨h7_, h_⟩
      · have q_ := ih_ r247 t7_14 t8_10 (IntKind.i64.wrap (t9_2 + 1)) _ h_
        rcases r_ with t3_19
        all_goals (try simp [Li_Deep_0_ans] at q_)
        all_goals simp (maxSteps := 2000000) (decide := true) [-getElem?_pos, h1_, h2_a, h2_b, h2_c, h2_d, h6_f, h7_, q_, Li_Deep_0_ans]
      · have q_ := ih_ t3_18 t7_14 t8_10 (IntKind.i64.wrap (t9_2 + 1)) _ h_
        rcases r_ with t3_19
        all_goals (try simp [Li_Deep_0_ans] at q_)
        all_goals simp (maxSteps := 2000000) (decide := true) [-getElem?_pos, h1_, h2_a, h2_b, h2_c, h2_d, h6_f, h7_, q_, Li_Deep_0_ans]
    · cases h_
      simp (maxSteps := 2000000) (decide := true) [-getElem?_pos, h1_, Li_Deep_0_ans]
/-- impl.Deep -/
def Si_Deep (Ri_Deep : Int → ByteArray → Int → (List T_Node) → Option Int) (a0_156 : Int) (a0_157 : ByteArray) (a0_158 : Int) (a0_159 : List T_Node) : Option Int :=
  bS (Li_Deep_0 Ri_Deep FU 0 a0_159 (a0_159.length : Int) 0) fun r248 =>
  some (IntKind.i64.wrap (r248 + 1))
theorem Si_Deep_ok (Ri_Deep : Int → ByteArray → Int → (List T_Node) → Option Int) (hRi_Deep : Pi_Deep Ri_Deep) (a0_156 : Int) (a0_157 : ByteArray) (a0_158 : Int) (a0_159 : List T_Node) (r_ : Int) (h_ : Si_Deep Ri_Deep a0_156 a0_157 a0_158 a0_159 = some r_) : ev EE (.call 37 [.ag [.sc (.int .i64 a0_156), .sc (.string a0_157), .sc (.int .i64 a0_158), .ls false (r_Node false a0_159)]] []) = some (Fi_Deep_ans a0_156 a0_157 a0_158 a0_159 r_) := by
  rw [ev_eq]
  simp only [Si_Deep] at h_
  obtain ⟨r248, h1_, h_⟩ := bS_some h_
  have h1_f := Li_Deep_0_ok Ri_Deep hRi_Deep FU 0 a0_159 (a0_159.length : Int) 0 _ h1_
  try simp [Li_Deep_0_ans] at h1_f
  cases h_
  simp (maxSteps := 2000000) (decide := true) [-getElem?_pos, ir37, h1_f, Fi_Deep_ans]
def Fi_Deepn : Nat → Int → ByteArray → Int → (List T_Node) → Option Int
  | 0 => fun _ _ _ _ => none
  | n_ + 1 => Si_Deep (Fi_Deepn n_)
def Fi_Deep (a0_156 : Int) (a0_157 : ByteArray) (a0_158 : Int) (a0_159 : List T_Node) : Option Int := Fi_Deepn FU a0_156 a0_157 a0_158 a0_159
theorem Fi_Deepn_ok : ∀ (n_ : Nat) (a0_156 : Int) (a0_157 : ByteArray) (a0_158 : Int) (a0_159 : List T_Node) (r_ : Int), Fi_Deepn n_ a0_156 a0_157 a0_158 a0_159 = some r_ → ev EE (.call 37 [.ag [.sc (.int .i64 a0_156), .sc (.string a0_157), .sc (.int .i64 a0_158), .ls false (r_Node false a0_159)]] []) = some (Fi_Deep_ans a0_156 a0_157 a0_158 a0_159 r_) := by
  intro n_
  induction n_ with
  | zero => intro a0_156 a0_157 a0_158 a0_159 r_ h_; cases h_
  | succ n_ ih_ => intro a0_156 a0_157 a0_158 a0_159 r_ h_; exact Si_Deep_ok (Fi_Deepn n_) ih_ a0_156 a0_157 a0_158 a0_159 r_ h_
theorem Fi_Deep_ok (a0_156 : Int) (a0_157 : ByteArray) (a0_158 : Int) (a0_159 : List T_Node) (r_ : Int) (h_ : Fi_Deep a0_156 a0_157 a0_158 a0_159 = some r_) : ev EE (.call 37 [.ag [.sc (.int .i64 a0_156), .sc (.string a0_157), .sc (.int .i64 a0_158), .ls false (r_Node false a0_159)]] []) = some (Fi_Deep_ans a0_156 a0_157 a0_158 a0_159 r_) := Fi_Deepn_ok FU a0_156 a0_157 a0_158 a0_159 r_ h_
/-- impl.NodeOk -/
def Fi_NodeOk (a0_77 : Int) (a0_78 : ByteArray) (a0_79 : Int) (a0_80 : List T_Node) : Option Bool :=
  if a0_77 = 1 then
    bS (Fi_allOk a0_77 a0_78 a0_79 a0_80) fun r243 =>
    if r243 = true then
      bS (Fi_Size a0_77 a0_78 a0_79 a0_80) fun r246 =>
      if r246 ≤ 200 then
        bS (Fi_Deep a0_77 a0_78 a0_79 a0_80) fun r249 =>
        some (decide (r249 ≤ 20))
      else
        some false
    else
      some false
  else
    some false
def Fi_NodeOk_ans (a0_77 : Int) (a0_78 : ByteArray) (a0_79 : Int) (a0_80 : List T_Node) : Bool → Ans
  | q103 => .val (.sc (.bool q103)) []
theorem Fi_NodeOk_ok (a0_77 : Int) (a0_78 : ByteArray) (a0_79 : Int) (a0_80 : List T_Node) (r_ : Bool) (h_ : Fi_NodeOk a0_77 a0_78 a0_79 a0_80 = some r_) : ev EE (.call 16 [.ag [.sc (.int .i64 a0_77), .sc (.string a0_78), .sc (.int .i64 a0_79), .ls false (r_Node false a0_80)]] []) = some (Fi_NodeOk_ans a0_77 a0_78 a0_79 a0_80 r_) := by
  rw [ev_eq]
  simp only [Fi_NodeOk] at h_
  rcases bI h_ with ⟨h1_, h_⟩ | ⟨h1_, h_⟩
  · obtain ⟨r243, h2_, h_⟩ := bS_some h_
    have h2_f := Fi_allOk_ok a0_77 a0_78 a0_79 a0_80 _ h2_
    try simp [Fi_allOk_ans] at h2_f
    rcases bI h_ with ⟨h3_, h_⟩ | ⟨h3_, h_⟩
    · obtain ⟨r246, h4_, h_⟩ := bS_some h_
      have h4_f := Fi_Size_ok a0_77 a0_78 a0_79 a0_80 _ h4_
      try simp [Fi_Size_ans] at h4_f
      rcases bI h_ with ⟨h5_, h_⟩ | ⟨h5_, h_⟩
      · obtain ⟨r249, h6_, h_⟩ := bS_some h_
        have h6_f := Fi_Deep_ok a0_77 a0_78 a0_79 a0_80 _ h6_
        try simp [Fi_Deep_ans] at h6_f
        cases h_
        simp (maxSteps := 2000000) (decide := true) [-getElem?_pos, ir16, eq_true h1_, h2_f, h3_, h4_f, h5_, h6_f, Fi_NodeOk_ans]
      · cases h_
        simp (maxSteps := 2000000) (decide := true) [-getElem?_pos, ir16, eq_true h1_, h2_f, h3_, h4_f, h5_, Fi_NodeOk_ans]
    · cases h_
      simp (maxSteps := 2000000) (decide := true) [-getElem?_pos, ir16, eq_true h1_, h2_f, h3_, Fi_NodeOk_ans]
  · cases h_
    simp (maxSteps := 2000000) (decide := true) [-getElem?_pos, ir16, h1_, Fi_NodeOk_ans]
def Fi_copyNode_ans (a0_160 : Int) (a0_161 : ByteArray) (a0_162 : Int) (a0_163 : List T_Node) : (Int × ByteArray × Int × (List T_Node)) → Ans
  | (q104, q105, q106, q107) => .val (.ag [.sc (.int .i64 q104), .sc (.string q105), .sc (.int .i64 q106), .ls true (r_Node true q107)]) []
def Pi_copyNode (Ri_copyNode : Int → ByteArray → Int → (List T_Node) → Option (Int × ByteArray × Int × (List T_Node))) : Prop := ∀ (a0_160 : Int) (a0_161 : ByteArray) (a0_162 : Int) (a0_163 : List T_Node) (r_ : (Int × ByteArray × Int × (List T_Node))), Ri_copyNode a0_160 a0_161 a0_162 a0_163 = some r_ → ev EE (.call 40 [.ag [.sc (.int .i64 a0_160), .sc (.string a0_161), .sc (.int .i64 a0_162), .ls false (r_Node false a0_163)]] []) = some (Fi_copyNode_ans a0_160 a0_161 a0_162 a0_163 r_)
def Li_copyNode_0 (Ri_copyNode : Int → ByteArray → Int → (List T_Node) → Option (Int × ByteArray × Int × (List T_Node))) : Nat → (List T_Node) → Int → Int → Int → ByteArray → Int → (List T_Node) → Int → ByteArray → Int → (List T_Node) → Option (List T_Node)
  | 0, _, _, _, _, _, _, _, _, _, _, _ => none
  | n_ + 1, t9_3, t10_1, t11_1, x0_51, x0_52, x0_53, x0_54, x1_12, x1_13, x1_14, x1_15 =>
  if t11_1 < t10_1 then
    bS (getI t9_3 t11_1) fun e26 =>
    bS (Ri_copyNode e26.op_ e26.s_ e26.n_ e26.kids_) fun (r251, r252, r253, r254) =>
    if lim (x0_54.length + 1) 56 = true then
    Li_copyNode_0 Ri_copyNode n_ t9_3 t10_1 (IntKind.i64.wrap (t11_1 + 1)) x0_51 x0_52 x0_53 (x0_54 ++ [(⟨r251, r252, r253, r254⟩ : T_Node)]) x1_12 x1_13 x1_14 x1_15
    else none
  else
    some x0_54
def Li_copyNode_0_ans (t9_3 : List T_Node) (t10_1 : Int) (t11_1 : Int) (x0_51 : Int) (x0_52 : ByteArray) (x0_53 : Int) (x0_54 : List T_Node) (x1_12 : Int) (x1_13 : ByteArray) (x1_14 : Int) (x1_15 : List T_Node) : (List T_Node) → Ans
  | x0_55 => .out (.exit 0) { np := 0, tm := [(1, .bx 0 0), (2, .bx 1 0)], ar := [(0, .a false (r_Node true x0_55)), (1, .a false (r_Node true x1_15))], bx := [(0, .b [.sc (.int .i64 x0_51), .sc (.string x0_52), .sc (.int .i64 x0_53), .rf 0 0 x0_55.length]), (1, .b [.sc (.int .i64 x1_12), .sc (.string x1_13), .sc (.int .i64 x1_14), .rf 1 0 x1_15.length])] }
theorem Li_copyNode_0_ok (Ri_copyNode : Int → ByteArray → Int → (List T_Node) → Option (Int × ByteArray × Int × (List T_Node))) (hRi_copyNode : Pi_copyNode Ri_copyNode) : ∀ (n_ : Nat) (t9_3 : List T_Node) (t10_1 : Int) (t11_1 : Int) (x0_51 : Int) (x0_52 : ByteArray) (x0_53 : Int) (x0_54 : List T_Node) (x1_12 : Int) (x1_13 : ByteArray) (x1_14 : Int) (x1_15 : List T_Node) (r_ : (List T_Node)), Li_copyNode_0 Ri_copyNode n_ t9_3 t10_1 t11_1 x0_51 x0_52 x0_53 x0_54 x1_12 x1_13 x1_14 x1_15 = some r_ → ev EE (.loop lp40_0 [1, 2, 9, 10, 11] [1, 2] { np := 0, tm := [(1, .bx 0 0), (2, .bx 1 0), (9, .ls false (r_Node false t9_3)), (10, .sc (.int .i64 t10_1)), (11, .sc (.int .i64 t11_1))], ar := [(0, .a false (r_Node true x0_54)), (1, .a false (r_Node true x1_15))], bx := [(0, .b [.sc (.int .i64 x0_51), .sc (.string x0_52), .sc (.int .i64 x0_53), .rf 0 0 x0_54.length]), (1, .b [.sc (.int .i64 x1_12), .sc (.string x1_13), .sc (.int .i64 x1_14), .rf 1 0 x1_15.length])] }) = some (Li_copyNode_0_ans t9_3 t10_1 t11_1 x0_51 x0_52 x0_53 x0_54 x1_12 x1_13 x1_14 x1_15 r_) := by
  intro n_
  induction n_ with
  | zero => intro t9_3 t10_1 t11_1 x0_51 x0_52 x0_53 x0_54 x1_12 x1_13 x1_14 x1_15 r_ h_; simp only [Li_copyNode_0] at h_; cases h_
  | succ n_ ih_ =>
    intro t9_3 t10_1 t11_1 x0_51 x0_52 x0_53 x0_54 x1_12 x1_13 x1_14 x1_15 r_ h_
    rw [ev_loop EE lp40_0.eq_1]
    simp only [Li_copyNode_0] at h_
    rcases bI h_ with ⟨h1_, h_⟩ | ⟨h1_, h_⟩
    · obtain ⟨e26, h2_, h_⟩ := bS_some h_
      obtain ⟨h2_a, h2_b, h2_c, h2_d⟩ := r_Node_getI (o := false)  h2_
      try simp [-getElem?_pos] at h2_d
      obtain ⟨⟨r251, r252, r253, r254⟩, h6_, h_⟩ := bS_some h_
      try dsimp only at h_
      have h6_f := hRi_copyNode e26.op_ e26.s_ e26.n_ e26.kids_ _ h6_
      try simp [Fi_copyNode_ans] at h6_f
      obtain ⟨h7_, h_⟩ := bP h_
      have q_ := ih_ t9_3 t10_1 (IntKind.i64.wrap (t11_1 + 1)) x0_51 x0_52 x0_53 (x0_54 ++ [(⟨r251, r252, r253, r254⟩ : T_Node)]) x1_12 x1_13 x1_14 x1_15 _ h_
      rcases r_ with x0_55
      all_goals (try simp [Li_copyNode_0_ans] at q_)
      all_goals simp (maxSteps := 2000000) (decide := true) [-getElem?_pos, h1_, h2_a, h2_b, h2_c, h2_d, h6_f, h7_, q_, Li_copyNode_0_ans]
    · cases h_
      simp (maxSteps := 2000000) (decide := true) [-getElem?_pos, h1_, Li_copyNode_0_ans]
/-- impl.copyNode -/
def Si_copyNode (Ri_copyNode : Int → ByteArray → Int → (List T_Node) → Option (Int × ByteArray × Int × (List T_Node))) (a0_160 : Int) (a0_161 : ByteArray) (a0_162 : Int) (a0_163 : List T_Node) : Option (Int × ByteArray × Int × (List T_Node)) :=
  bS (Li_copyNode_0 Ri_copyNode FU a0_163 (a0_163.length : Int) 0 a0_160 a0_161 a0_162 [] 0 (⟨#[]⟩ : ByteArray) 0 []) fun r255 =>
  some (a0_160, a0_161, a0_162, r255)
theorem Si_copyNode_ok (Ri_copyNode : Int → ByteArray → Int → (List T_Node) → Option (Int × ByteArray × Int × (List T_Node))) (hRi_copyNode : Pi_copyNode Ri_copyNode) (a0_160 : Int) (a0_161 : ByteArray) (a0_162 : Int) (a0_163 : List T_Node) (r_ : (Int × ByteArray × Int × (List T_Node))) (h_ : Si_copyNode Ri_copyNode a0_160 a0_161 a0_162 a0_163 = some r_) : ev EE (.call 40 [.ag [.sc (.int .i64 a0_160), .sc (.string a0_161), .sc (.int .i64 a0_162), .ls false (r_Node false a0_163)]] []) = some (Fi_copyNode_ans a0_160 a0_161 a0_162 a0_163 r_) := by
  rw [ev_eq]
  simp only [Si_copyNode] at h_
  obtain ⟨r255, h1_, h_⟩ := bS_some h_
  have h1_f := Li_copyNode_0_ok Ri_copyNode hRi_copyNode FU a0_163 (a0_163.length : Int) 0 a0_160 a0_161 a0_162 [] 0 (⟨#[]⟩ : ByteArray) 0 [] _ h1_
  try simp [Li_copyNode_0_ans] at h1_f
  cases h_
  simp (maxSteps := 2000000) (decide := true) [-getElem?_pos, ir40, h1_f, Fi_copyNode_ans]
end Go.Pv

namespace Go.Pv
set_option maxRecDepth 100000
set_option maxHeartbeats 40000000
set_option linter.unusedSimpArgs false
set_option linter.unusedVariables false
def Fi_copyNoden : Nat → Int → ByteArray → Int → (List T_Node) → Option (Int × ByteArray × Int × (List T_Node))
  | 0 => fun _ _ _ _ => none
  | n_ + 1 => Si_copyNode (Fi_copyNoden n_)
def Fi_copyNode (a0_160 : Int) (a0_161 : ByteArray) (a0_162 : Int) (a0_163 : List T_Node) : Option (Int × ByteArray × Int × (List T_Node)) := Fi_copyNoden FU a0_160 a0_161 a0_162 a0_163
theorem Fi_copyNoden_ok : ∀ (n_ : Nat) (a0_160 : Int) (a0_161 : ByteArray) (a0_162 : Int) (a0_163 : List T_Node) (r_ : (Int × ByteArray × Int × (List T_Node))), Fi_copyNoden n_ a0_160 a0_161 a0_162 a0_163 = some r_ → ev EE (.call 40 [.ag [.sc (.int .i64 a0_160), .sc (.string a0_161), .sc (.int .i64 a0_162), .ls false (r_Node false a0_163)]] []) = some (Fi_copyNode_ans a0_160 a0_161 a0_162 a0_163 r_) := by
  intro n_
  induction n_ with
  | zero => intro a0_160 a0_161 a0_162 a0_163 r_ h_; cases h_
  | succ n_ ih_ => intro a0_160 a0_161 a0_162 a0_163 r_ h_; exact Si_copyNode_ok (Fi_copyNoden n_) ih_ a0_160 a0_161 a0_162 a0_163 r_ h_
theorem Fi_copyNode_ok (a0_160 : Int) (a0_161 : ByteArray) (a0_162 : Int) (a0_163 : List T_Node) (r_ : (Int × ByteArray × Int × (List T_Node))) (h_ : Fi_copyNode a0_160 a0_161 a0_162 a0_163 = some r_) : ev EE (.call 40 [.ag [.sc (.int .i64 a0_160), .sc (.string a0_161), .sc (.int .i64 a0_162), .ls false (r_Node false a0_163)]] []) = some (Fi_copyNode_ans a0_160 a0_161 a0_162 a0_163 r_) := Fi_copyNoden_ok FU a0_160 a0_161 a0_162 a0_163 r_ h_
def Fi_funs_ans (a0_164 : Int) (a0_165 : ByteArray) (a0_166 : Int) (a0_167 : List T_Node) : (List T_Node) → Ans
  | q108 => .val (.ls true (r_Node false q108)) []
def Pi_funs (Ri_funs : Int → ByteArray → Int → (List T_Node) → Option (List T_Node)) : Prop := ∀ (a0_164 : Int) (a0_165 : ByteArray) (a0_166 : Int) (a0_167 : List T_Node) (r_ : (List T_Node)), Ri_funs a0_164 a0_165 a0_166 a0_167 = some r_ → ev EE (.call 41 [.ag [.sc (.int .i64 a0_164), .sc (.string a0_165), .sc (.int .i64 a0_166), .ls false (r_Node false a0_167)]] []) = some (Fi_funs_ans a0_164 a0_165 a0_166 a0_167 r_)
def Li_funs_0 (Ri_funs : Int → ByteArray → Int → (List T_Node) → Option (List T_Node)) : Nat → (List T_Node) → (List T_Node) → Int → Int → Option (List T_Node)
  | 0, _, _, _, _ => none
  | n_ + 1, t3_20, t14_1, t15_1, t16_1 =>
  if t16_1 < t15_1 then
    bS (getI t14_1 t16_1) fun e27 =>
    bS (Ri_funs e27.op_ e27.s_ e27.n_ e27.kids_) fun r260 =>
    if lim (t3_20.length + r260.length) 56 = true then
    Li_funs_0 Ri_funs n_ (t3_20 ++ r260) t14_1 t15_1 (IntKind.i64.wrap (t16_1 + 1))
    else none
  else
    some t3_20
def Li_funs_0_ans (t3_20 : List T_Node) (t14_1 : List T_Node) (t15_1 : Int) (t16_1 : Int) : (List T_Node) → Ans
  | t3_21 => .out (.exit 0) { np := 0, tm := [(3, .rf 0 0 t3_21.length)], ar := [(0, .a false (r_Node false t3_21))], bx := [] }
theorem Li_funs_0_ok (Ri_funs : Int → ByteArray → Int → (List T_Node) → Option (List T_Node)) (hRi_funs : Pi_funs Ri_funs) : ∀ (n_ : Nat) (t3_20 : List T_Node) (t14_1 : List T_Node) (t15_1 : Int) (t16_1 : Int) (r_ : (List T_Node)), Li_funs_0 Ri_funs n_ t3_20 t14_1 t15_1 t16_1 = some r_ → ev EE (.loop lp41_0 [3, 14, 15, 16] [2, 3] { np := 0, tm := [(3, .rf 0 0 t3_20.length), (14, .ls false (r_Node false t14_1)), (15, .sc (.int .i64 t15_1)), (16, .sc (.int .i64 t16_1))], ar := [(0, .a false (r_Node false t3_20))], bx := [] }) = some (Li_funs_0_ans t3_20 t14_1 t15_1 t16_1 r_) := by
  intro n_
  induction n_ with
  | zero => intro t3_20 t14_1 t15_1 t16_1 r_ h_; simp only [Li_funs_0] at h_; cases h_
  | succ n_ ih_ =>
    intro t3_20 t14_1 t15_1 t16_1 r_ h_
    rw [ev_loop EE lp41_0.eq_1]
    simp only [Li_funs_0] at h_
    rcases bI h_ with ⟨h1_, h_⟩ | ⟨h1_, h_⟩
    · obtain ⟨e27, h2_, h_⟩ := bS_some h_
      obtain ⟨h2_a, h2_b, h2_c, h2_d⟩ := r_Node_getI (o := false)  h2_
      try simp [-getElem?_pos] at h2_d
      obtain ⟨r260, h6_, h_⟩ := bS_some h_
      have h6_f := hRi_funs e27.op_ e27.s_ e27.n_ e27.kids_ _ h6_
      try simp [Fi_funs_ans] at h6_f
      obtain ⟨h7_, h_⟩ := bP h_
      have q_ := ih_ (t3_20 ++ r260) t14_1 t15_1 (IntKind.i64.wrap (t16_1 + 1)) _ h_
      rcases r_ with t3_21
      all_goals (try simp [Li_funs_0_ans] at q_)
      all_goals simp (maxSteps := 2000000) (decide := true) [-getElem?_pos, h1_, h2_a, h2_b, h2_c, h2_d, h6_f, h7_, q_, Li_funs_0_ans]
    · cases h_
      simp (maxSteps := 2000000) (decide := true) [-getElem?_pos, h1_, Li_funs_0_ans]
/-- impl.funs -/
def Si_funs (Ri_funs : Int → ByteArray → Int → (List T_Node) → Option (List T_Node)) (a0_164 : Int) (a0_165 : ByteArray) (a0_166 : Int) (a0_167 : List T_Node) : Option (List T_Node) :=
  if a0_164 = 27 then
    bS (Li_funs_0 Ri_funs FU [(⟨a0_164, a0_165, a0_166, a0_167⟩ : T_Node)] a0_167 (a0_167.length : Int) 0) fun r261 =>
    some r261
  else
  bS (Li_funs_0 Ri_funs FU [] a0_167 (a0_167.length : Int) 0) fun r262 =>
  some r262
theorem Si_funs_ok (Ri_funs : Int → ByteArray → Int → (List T_Node) → Option (List T_Node)) (hRi_funs : Pi_funs Ri_funs) (a0_164 : Int) (a0_165 : ByteArray) (a0_166 : Int) (a0_167 : List T_Node) (r_ : (List T_Node)) (h_ : Si_funs Ri_funs a0_164 a0_165 a0_166 a0_167 = some r_) : ev EE (.call 41 [.ag [.sc (.int .i64 a0_164), .sc (.string a0_165), .sc (.int .i64 a0_166), .ls false (r_Node false a0_167)]] []) = some (Fi_funs_ans a0_164 a0_165 a0_166 a0_167 r_) := by
  rw [ev_eq]
  simp only [Si_funs] at h_
  rcases bI h_ with ⟨h1_, h_⟩ | ⟨h1_, h_⟩
  · obtain ⟨r261, h2_, h_⟩ := bS_some h_
    have h2_f := Li_funs_0_ok Ri_funs hRi_funs FU [(⟨a0_164, a0_165, a0_166, a0_167⟩ : T_Node)] a0_167 (a0_167.length : Int) 0 _ h2_
    try simp [Li_funs_0_ans] at h2_f
    cases h_
    simp (maxSteps := 2000000) (decide := true) [-getElem?_pos, ir41, eq_true h1_, h2_f, Fi_funs_ans]
  · obtain ⟨r262, h2_, h_⟩ := bS_some h_
    have h2_f := Li_funs_0_ok Ri_funs hRi_funs FU [] a0_167 (a0_167.length : Int) 0 _ h2_
    try simp [Li_funs_0_ans] at h2_f
    cases h_
    simp (maxSteps := 2000000) (decide := true) [-getElem?_pos, ir41, h1_, h2_f, Fi_funs_ans]
def Fi_funsn : Nat → Int → ByteArray → Int → (List T_Node) → Option (List T_Node)
  | 0 => fun _ _ _ _ => none
  | n_ + 1 => Si_funs (Fi_funsn n_)
def Fi_funs (a0_164 : Int) (a0_165 : ByteArray) (a0_166 : Int) (a0_167 : List T_Node) : Option (List T_Node) := Fi_funsn FU a0_164 a0_165 a0_166 a0_167
theorem Fi_funsn_ok : ∀ (n_ : Nat) (a0_164 : Int) (a0_165 : ByteArray) (a0_166 : Int) (a0_167 : List T_Node) (r_ : (List T_Node)), Fi_funsn n_ a0_164 a0_165 a0_166 a0_167 = some r_ → ev EE (.call 41 [.ag [.sc (.int .i64 a0_164), .sc (.string a0_165), .sc (.int .i64 a0_166), .ls false (r_Node false a0_167)]] []) = some (Fi_funs_ans a0_164 a0_165 a0_166 a0_167 r_) := by
  intro n_
  induction n_ with
  | zero => intro a0_164 a0_165 a0_166 a0_167 r_ h_; cases h_
  | succ n_ ih_ => intro a0_164 a0_165 a0_166 a0_167 r_ h_; exact Si_funs_ok (Fi_funsn n_) ih_ a0_164 a0_165 a0_166 a0_167 r_ h_
theorem Fi_funs_ok (a0_164 : Int) (a0_165 : ByteArray) (a0_166 : Int) (a0_167 : List T_Node) (r_ : (List T_Node)) (h_ : Fi_funs a0_164 a0_165 a0_166 a0_167 = some r_) : ev EE (.call 41 [.ag [.sc (.int .i64 a0_164), .sc (.string a0_165), .sc (.int .i64 a0_166), .ls false (r_Node false a0_167)]] []) = some (Fi_funs_ans a0_164 a0_165 a0_166 a0_167 r_) := Fi_funsn_ok FU a0_164 a0_165 a0_166 a0_167 r_ h_
def Li_Funs_0 : Nat → (List T_Node) → (List T_Node) → Int → Int → Option (List T_Node)
  | 0, _, _, _, _ => none
  | n_ + 1, t3_22, t13_1, t14_2, t15_2 =>
  if t15_2 < t14_2 then
    bS (getI t13_1 t15_2) fun e28 =>
    bS (Fi_copyNode e28.op_ e28.s_ e28.n_ e28.kids_) fun (r264, r265, r266, r267) =>
    if lim (t3_22.length + 1) 56 = true then
    Li_Funs_0 n_ (t3_22 ++ [(⟨r264, r265, r266, r267⟩ : T_Node)]) t13_1 t14_2 (IntKind.i64.wrap (t15_2 + 1))
    else none
  else
    some t3_22
def Li_Funs_0_ans (t3_22 : List T_Node) (t13_1 : List T_Node) (t14_2 : Int) (t15_2 : Int) : (List T_Node) → Ans
  | t3_23 => .out (.exit 0) { np := 0, tm := [(3, .rf 0 0 t3_23.length)], ar := [(0, .a false (r_Node true t3_23))], bx := [] }
theorem Li_Funs_0_ok : ∀ (n_ : Nat) (t3_22 : List T_Node) (t13_1 : List T_Node) (t14_2 : Int) (t15_2 : Int) (r_ : (List T_Node)), Li_Funs_0 n_ t3_22 t13_1 t14_2 t15_2 = some r_ → ev EE (.loop lp18_0 [3, 13, 14, 15] [2, 3] { np := 0, tm := [(3, .rf 0 0 t3_22.length), (13, .rf 1 0 t13_1.length), (14, .sc (.int .i64 t14_2)), (15, .sc (.int .i64 t15_2))], ar := [(0, .a false (r_Node true t3_22)), (1, .a false (r_Node false t13_1))], bx := [] }) = some (Li_Funs_0_ans t3_22 t13_1 t14_2 t15_2 r_) := by
  intro n_
  induction n_ with
  | zero => intro t3_22 t13_1 t14_2 t15_2 r_ h_; simp only [Li_Funs_0] at h_; cases h_
  | succ n_ ih_ =>
    intro t3_22 t13_1 t14_2 t15_2 r_ h_
    rw [ev_loop EE lp18_0.eq_1]
    simp only [Li_Funs_0] at h_
    rcases bI h_ with ⟨h1_, h_⟩ | ⟨h1_, h_⟩
    · obtain ⟨e28, h2_, h_⟩ := bS_some h_
      obtain ⟨h2_a, h2_b, h2_c, h2_d⟩ := r_Node_getI (o := false)  h2_
      try simp [-getElem?_pos] at h2_d
      obtain ⟨⟨r264, r265, r266, r267⟩, h6_, h_⟩ := bS_some h_
      try dsimp only at h_
      have h6_f := Fi_copyNode_ok e28.op_ e28.s_ e28.n_ e28.kids_ _ h6_
      try simp [Fi_copyNode_ans] at h6_f
      obtain ⟨h7_, h_⟩ := bP h_
      have q_ := ih_ (t3_22 ++ [(⟨r264, r265, r266, r267⟩ : T_Node)]) t13_1 t14_2 (IntKind.i64.wrap (t15_2 + 1)) _ h_
      rcases r_ with t3_23
      all_goals (try simp [Li_Funs_0_ans] at q_)
      all_goals simp (maxSteps := 2000000) (decide := true) [-getElem?_pos, h1_, h2_a, h2_b, h2_c, h2_d, h6_f, h7_, q_, Li_Funs_0_ans]
    · cases h_
      simp (maxSteps := 2000000) (decide := true) [-getElem?_pos, h1_, Li_Funs_0_ans]
/-- impl.Funs -/
def Fi_Funs (a0_73 : Int) (a0_74 : ByteArray) (a0_75 : Int) (a0_76 : List T_Node) : Option (List T_Node) :=
  bS (Fi_NodeOk a0_73 a0_74 a0_75 a0_76) fun r250 =>
  if r250 = true then
    bS (Fi_copyNode a0_73 a0_74 a0_75 a0_76) fun (r256, r257, r258, r259) =>
    bS (Fi_funs a0_73 a0_74 a0_75 a0_76) fun r263 =>
    bS (Li_Funs_0 FU [(⟨r256, r257, r258, r259⟩ : T_Node)] r263 (r263.length : Int) 0) fun r268 =>
    some r268
  else
    some []
def Fi_Funs_ans (a0_73 : Int) (a0_74 : ByteArray) (a0_75 : Int) (a0_76 : List T_Node) : (List T_Node) → Ans
  | q109 => .val (.ls true (r_Node true q109)) []
theorem Fi_Funs_ok (a0_73 : Int) (a0_74 : ByteArray) (a0_75 : Int) (a0_76 : List T_Node) (r_ : (List T_Node)) (h_ : Fi_Funs a0_73 a0_74 a0_75 a0_76 = some r_) : ev EE (.call 18 [.ag [.sc (.int .i64 a0_73), .sc (.string a0_74), .sc (.int .i64 a0_75), .ls false (r_Node false a0_76)]] []) = some (Fi_Funs_ans a0_73 a0_74 a0_75 a0_76 r_) := by
  rw [ev_eq]
  simp only [Fi_Funs] at h_
  obtain ⟨r250, h1_, h_⟩ := bS_some h_
  have h1_f := Fi_NodeOk_ok a0_73 a0_74 a0_75 a0_76 _ h1_
  try simp [Fi_NodeOk_ans] at h1_f
  rcases bI h_ with ⟨h2_, h_⟩ | ⟨h2_, h_⟩
  · obtain ⟨⟨r256, r257, r258, r259⟩, h3_, h_⟩ := bS_some h_
    try dsimp only at h_
    have h3_f := Fi_copyNode_ok a0_73 a0_74 a0_75 a0_76 _ h3_
    try simp [Fi_copyNode_ans] at h3_f
    obtain ⟨r263, h4_, h_⟩ := bS_some h_
    have h4_f := Fi_funs_ok a0_73 a0_74 a0_75 a0_76 _ h4_
    try simp [Fi_funs_ans] at h4_f
    obtain ⟨r268, h5_, h_⟩ := bS_some h_
    have h5_f := Li_Funs_0_ok FU [(⟨r256, r257, r258, r259⟩ : T_Node)] r263 (r263.length : Int) 0 _ h5_
    try simp [Li_Funs_0_ans] at h5_f
    cases h_
    simp (maxSteps := 2000000) (decide := true) [-getElem?_pos, ir18, h1_f, h2_, h3_f, h4_f, h5_f, Fi_Funs_ans]
  · cases h_
    simp (maxSteps := 2000000) (decide := true) [-getElem?_pos, ir18, h1_f, h2_, Fi_Funs_ans]
def Fw_eqNodeS_ans (a0_168 : List T_Node) (a1_18 : List T_Node) : Bool → Ans
  | q110 => .val (.sc (.bool q110)) []
def Pw_eqNodeS (Rw_eqNodeS : (List T_Node) → (List T_Node) → Option Bool) : Prop := ∀ (a0_168 : List T_Node) (a1_18 : List T_Node) (r_ : Bool), Rw_eqNodeS a0_168 a1_18 = some r_ → ev EE (.call 19 [.ls false (r_Node false a0_168), .ls false (r_Node false a1_18)] []) = some (Fw_eqNodeS_ans a0_168 a1_18 r_)
/-- laws.eqNode -/
def Fw_eqNode (Rw_eqNodeS : (List T_Node) → (List T_Node) → Option Bool) (a0_169 : Int) (a0_170 : ByteArray) (a0_171 : Int) (a0_172 : List T_Node) (a1_19 : Int) (a1_20 : ByteArray) (a1_21 : Int) (a1_22 : List T_Node) : Option Bool :=
  if a0_169 = a1_19 then
    if a0_170 = a1_20 then
      if a0_171 = a1_21 then
        bS (Rw_eqNodeS a0_172 a1_22) fun r270 =>
        if r270 = true then
          some true
        else
          some false
      else
        some false
    else
      some false
  else
    some false
def Fw_eqNode_ans (a0_169 : Int) (a0_170 : ByteArray) (a0_171 : Int) (a0_172 : List T_Node) (a1_19 : Int) (a1_20 : ByteArray) (a1_21 : Int) (a1_22 : List T_Node) : Bool → Ans
  | q111 => .val (.sc (.bool q111)) []
theorem Fw_eqNode_ok (Rw_eqNodeS : (List T_Node) → (List T_Node) → Option Bool) (hRw_eqNodeS : Pw_eqNodeS Rw_eqNodeS) (a0_169 : Int) (a0_170 : ByteArray) (a0_171 : Int) (a0_172 : List T_Node) (a1_19 : Int) (a1_20 : ByteArray) (a1_21 : Int) (a1_22 : List T_Node) (r_ : Bool) (h_ : Fw_eqNode Rw_eqNodeS a0_169 a0_170 a0_171 a0_172 a1_19 a1_20 a1_21 a1_22 = some r_) : ev EE (.call 11 [.ag [.sc (.int .i64 a0_169), .sc (.string a0_170), .sc (.int .i64 a0_171), .ls false (r_Node false a0_172)], .ag [.sc (.int .i64 a1_19), .sc (.string a1_20), .sc (.int .i64 a1_21), .ls false (r_Node false a1_22)]] []) = some (Fw_eqNode_ans a0_169 a0_170 a0_171 a0_172 a1_19 a1_20 a1_21 a1_22 r_) := by
  rw [ev_eq]
  simp only [Fw_eqNode] at h_
  rcases bI h_ with ⟨h1_, h_⟩ | ⟨h1_, h_⟩
  · rcases bI h_ with ⟨h2_, h_⟩ | ⟨h2_, h_⟩
    · rcases bI h_ with ⟨h3_, h_⟩ | ⟨h3_, h_⟩
      · obtain ⟨r270, h4_, h_⟩ := bS_some h_
        have h4_f := hRw_eqNodeS a0_172 a1_22 _ h4_
        try simp [Fw_eqNodeS_ans] at h4_f
        rcases bI h_ with ⟨h5_, h_⟩ | ⟨h5_, h_⟩
        · cases h_
          simp (maxSteps := 2000000) (decide := true) [-getElem?_pos, ir11, eq_true h1_, eq_true h2_, eq_true h3_, h4_f, h5_, Fw_eqNode_ans]
        · cases h_
          simp (maxSteps := 2000000) (decide := true) [-getElem?_pos, ir11, eq_true h1_, eq_true h2_, eq_true h3_, h4_f, h5_, Fw_eqNode_ans]
      · cases h_
        simp (maxSteps := 2000000) (decide := true) [-getElem?_pos, ir11, eq_true h1_, eq_true h2_, h3_, Fw_eqNode_ans]
    · cases h_
      simp (maxSteps := 2000000) (decide := true) [-getElem?_pos, ir11, eq_true h1_, h2_, Fw_eqNode_ans]
  · cases h_
    simp (maxSteps := 2000000) (decide := true) [-getElem?_pos, ir11, h1_, Fw_eqNode_ans]
def Lw_eqNodeS_0 (Rw_eqNodeS : (List T_Node) → (List T_Node) → Option Bool) : Nat → (List T_Node) → (List T_Node) → Int → Option (Bool ⊕ Unit)
  | 0, _, _, _ => none
  | n_ + 1, t0_19, t1_14, t5_7 =>
  if t5_7 < (t0_19.length : Int) then
    bS (getI t0_19 t5_7) fun e29 =>
    bS (getI t1_14 t5_7) fun e30 =>
    bS (Fw_eqNode Rw_eqNodeS e29.op_ e29.s_ e29.n_ e29.kids_ e30.op_ e30.s_ e30.n_ e30.kids_) fun r271 =>
    if r271 = true then
      Lw_eqNodeS_0 Rw_eqNodeS n_ t0_19 t1_14 (IntKind.i64.wrap (t5_7 + 1))
    else
      some (.inl false)
  else
    some (.inr ())
def Lw_eqNodeS_0_ans (t0_19 : List T_Node) (t1_14 : List T_Node) (t5_7 : Int) : Bool ⊕ Unit → Ans
  | .inl t4_24 => .out .ret { np := 0, tm := [(4, .sc (.bool t4_24))], ar := [], bx := [] }
  | .inr _ => .out (.exit 0) { np := 0, tm := [], ar := [], bx := [] }
theorem Lw_eqNodeS_0_ok (Rw_eqNodeS : (List T_Node) → (List T_Node) → Option Bool) (hRw_eqNodeS : Pw_eqNodeS Rw_eqNodeS) : ∀ (n_ : Nat) (t0_19 : List T_Node) (t1_14 : List T_Node) (t5_7 : Int) (r_ : Bool ⊕ Unit), Lw_eqNodeS_0 Rw_eqNodeS n_ t0_19 t1_14 t5_7 = some r_ → ev EE (.loop lp19_0 [0, 1, 5] [4] { np := 0, tm := [(0, .ls false (r_Node false t0_19)), (1, .ls false (r_Node false t1_14)), (5, .sc (.int .i64 t5_7))], ar := [], bx := [] }) = some (Lw_eqNodeS_0_ans t0_19 t1_14 t5_7 r_) := by
  intro n_
  induction n_ with
  | zero => intro t0_19 t1_14 t5_7 r_ h_; simp only [Lw_eqNodeS_0] at h_; cases h_
  | succ n_ ih_ =>
    intro t0_19 t1_14 t5_7 r_ h_
    rw [ev_loop EE lp19_0.eq_1]
    simp only [Lw_eqNodeS_0] at h_
    rcases bI h_ with ⟨h1_, h_⟩ | ⟨h1_, h_⟩
    · have h1_s := h1_; try simp at h1_s
      obtain ⟨e29, h3_, h_⟩ := bS_some h_
      obtain ⟨h3_a, h3_b, h3_c, h3_d⟩ := r_Node_getI (o := false)  h3_
      try simp [-getElem?_pos] at h3_d
      obtain ⟨e30, h7_, h_⟩ := bS_some h_
      obtain ⟨h7_a, h7_b, h7_c, h7_d⟩ := r_Node_getI (o := false)  h7_
      try simp [-getElem?_pos] at h7_d
      obtain ⟨r271, h11_, h_⟩ := bS_some h_
      have h11_f := Fw_eqNode_ok Rw_eqNodeS hRw_eqNodeS e29.op_ e29.s_ e29.n_ e29.kids_ e30.op_ e30.s_ e30.n_ e30.kids_ _ h11_
      try simp [Fw_eqNode_ans] at h11_f
      rcases bI h_ with ⟨h12_, h_⟩ | ⟨h12_, h_⟩
      · have q_ := ih_ t0_19 t1_14 (IntKind.i64.wrap (t5_7 + 1)) _ h_
        rcases r_ with t4_24 | _
        all_goals (try simp [Lw_eqNodeS_0_ans] at q_)
        all_goals simp (maxSteps := 2000000) (decide := true) [-getElem?_pos, h1_, h1_s, h3_a, h3_b, h3_c, h3_d, h7_a, h7_b, h7_c, h7_d, h11_f, h12_, q_, Lw_eqNodeS_0_ans]
      · cases h_
        simp (maxSteps := 2000000) (decide := true) [-getElem?_pos, h1_, h1_s, h3_a, h3_b, h3_c, h3_d, h7_a, h7_b, h7_c, h7_d, h11_f, h12_, Lw_eqNodeS_0_ans]
    · have h1_s := h1_; try simp at h1_s
      cases h_
      simp (maxSteps := 2000000) (decide := true) [-getElem?_pos, h1_, h1_s, Lw_eqNodeS_0_ans]
/-- laws.eqNodeS -/
def Sw_eqNodeS (Rw_eqNodeS : (List T_Node) → (List T_Node) → Option Bool) (a0_168 : List T_Node) (a1_18 : List T_Node) : Option Bool :=
  if (a0_168.length : Int) = (a1_18.length : Int) then
    bS (Lw_eqNodeS_0 Rw_eqNodeS FU a0_168 a1_18 0) fun r_ => match r_ with
    | .inl r272 =>
      some r272
    | .inr () =>
      some true
  else
    some false
theorem Sw_eqNodeS_ok (Rw_eqNodeS : (List T_Node) → (List T_Node) → Option Bool) (hRw_eqNodeS : Pw_eqNodeS Rw_eqNodeS) (a0_168 : List T_Node) (a1_18 : List T_Node) (r_ : Bool) (h_ : Sw_eqNodeS Rw_eqNodeS a0_168 a1_18 = some r_) : ev EE (.call 19 [.ls false (r_Node false a0_168), .ls false (r_Node false a1_18)] []) = some (Fw_eqNodeS_ans a0_168 a1_18 r_) := by
  rw [ev_eq]
  simp only [Sw_eqNodeS] at h_
  rcases bI h_ with ⟨h1_, h_⟩ | ⟨h1_, h_⟩
  · have h1_s := h1_; try simp at h1_s
    obtain ⟨r_2, h3_, h_⟩ := bS_some h_
    have h3_f := Lw_eqNodeS_0_ok Rw_eqNodeS hRw_eqNodeS FU a0_168 a1_18 0 _ h3_
    rcases r_2 with r272 | _
    · try dsimp only at h_
      try simp [Lw_eqNodeS_0_ans] at h3_f
      cases h_
      simp (maxSteps := 2000000) (decide := true) [-getElem?_pos, ir19, eq_true h1_, eq_true h1_s, h3_f, Fw_eqNodeS_ans]
    · try dsimp only at h_
      try simp [Lw_eqNodeS_0_ans] at h3_f
      cases h_
      simp (maxSteps := 2000000) (decide := true) [-getElem?_pos, ir19, eq_true h1_, eq_true h1_s, h3_f, Fw_eqNodeS_ans]
  · have h1_s := h1_; try simp at h1_s
    cases h_
    simp (maxSteps := 2000000) (decide := true) [-getElem?_pos, ir19, h1_, h1_s, Fw_eqNodeS_ans]
def Fw_eqNodeSn : Nat → (List T_Node) → (List T_Node) → Option Bool
  | 0 => fun _ _ => none
  | n_ + 1 => Sw_eqNodeS (Fw_eqNodeSn n_)
def Fw_eqNodeS (a0_168 : List T_Node) (a1_18 : List T_Node) : Option Bool := Fw_eqNodeSn FU a0_168 a1_18
theorem Fw_eqNodeSn_ok : ∀ (n_ : Nat) (a0_168 : List T_Node) (a1_18 : List T_Node) (r_ : Bool), Fw_eqNodeSn n_ a0_168 a1_18 = some r_ → ev EE (.call 19 [.ls false (r_Node false a0_168), .ls false (r_Node false a1_18)] []) = some (Fw_eqNodeS_ans a0_168 a1_18 r_) := by
  intro n_
  induction n_ with
  | zero => intro a0_168 a1_18 r_ h_; cases h_
  | succ n_ ih_ => intro a0_168 a1_18 r_ h_; exact Sw_eqNodeS_ok (Fw_eqNodeSn n_) ih_ a0_168 a1_18 r_ h_
theorem Fw_eqNodeS_ok (a0_168 : List T_Node) (a1_18 : List T_Node) (r_ : Bool) (h_ : Fw_eqNodeS a0_168 a1_18 = some r_) : ev EE (.call 19 [.ls false (r_Node false a0_168), .ls false (r_Node false a1_18)] []) = some (Fw_eqNodeS_ans a0_168 a1_18 r_) := Fw_eqNodeSn_ok FU a0_168 a1_18 r_ h_
/-- laws.eqNode -/
def Fw_eqNode_2 (a0_173 : Int) (a0_174 : ByteArray) (a0_175 : Int) (a0_176 : List T_Node) (a1_23 : Int) (a1_24 : ByteArray) (a1_25 : Int) (a1_26 : List T_Node) : Option Bool :=
  if a0_173 = a1_23 then
    if a0_174 = a1_24 then
      if a0_175 = a1_25 then
        bS (Fw_eqNodeS a0_176 a1_26) fun r274 =>
        if r274 = true then
          some true
        else
          some false
      else
        some false
    else
      some false
  else
    some false
def Fw_eqNode_2_ans (a0_173 : Int) (a0_174 : ByteArray) (a0_175 : Int) (a0_176 : List T_Node) (a1_23 : Int) (a1_24 : ByteArray) (a1_25 : Int) (a1_26 : List T_Node) : Bool → Ans
  | q112 => .val (.sc (.bool q112)) []
theorem Fw_eqNode_2_ok (a0_173 : Int) (a0_174 : ByteArray) (a0_175 : Int) (a0_176 : List T_Node) (a1_23 : Int) (a1_24 : ByteArray) (a1_25 : Int) (a1_26 : List T_Node) (r_ : Bool) (h_ : Fw_eqNode_2 a0_173 a0_174 a0_175 a0_176 a1_23 a1_24 a1_25 a1_26 = some r_) : ev EE (.call 11 [.ag [.sc (.int .i64 a0_173), .sc (.string a0_174), .sc (.int .i64 a0_175), .ls false (r_Node false a0_176)], .ag [.sc (.int .i64 a1_23), .sc (.string a1_24), .sc (.int .i64 a1_25), .ls false (r_Node false a1_26)]] []) = some (Fw_eqNode_2_ans a0_173 a0_174 a0_175 a0_176 a1_23 a1_24 a1_25 a1_26 r_) := by
  rw [ev_eq]
  simp only [Fw_eqNode_2] at h_
  rcases bI h_ with ⟨h1_, h_⟩ | ⟨h1_, h_⟩
  · rcases bI h_ with ⟨h2_, h_⟩ | ⟨h2_, h_⟩
    · rcases bI h_ with ⟨h3_, h_⟩ | ⟨h3_, h_⟩
      · obtain ⟨r274, h4_, h_⟩ := bS_some h_
        have h4_f := Fw_eqNodeS_ok a0_176 a1_26 _ h4_
        try simp [Fw_eqNodeS_ans] at h4_f
        rcases bI h_ with ⟨h5_, h_⟩ | ⟨h5_, h_⟩
        · cases h_
          simp (maxSteps := 2000000) (decide := true) [-getElem?_pos, ir11, eq_true h1_, eq_true h2_, eq_true h3_, h4_f, h5_, Fw_eqNode_2_ans]
        · cases h_
          simp (maxSteps := 2000000) (decide := true) [-getElem?_pos, ir11, eq_true h1_, eq_true h2_, eq_true h3_, h4_f, h5_, Fw_eqNode_2_ans]
      · cases h_
        simp (maxSteps := 2000000) (decide := true) [-getElem?_pos, ir11, eq_true h1_, eq_true h2_, h3_, Fw_eqNode_2_ans]
    · cases h_
      simp (maxSteps := 2000000) (decide := true) [-getElem?_pos, ir11, eq_true h1_, h2_, Fw_eqNode_2_ans]
  · cases h_
    simp (maxSteps := 2000000) (decide := true) [-getElem?_pos, ir11, h1_, Fw_eqNode_2_ans]
def Lw_markText_0 : Nat → Int → ByteArray → Option ByteArray
  | 0, _, _ => none
  | n_ + 1, t0_21, t3_24 =>
  if 0 < t0_21 then
    if (⟨#[UInt8.ofNat (IntKind.u8.wrap (IntKind.i64.wrap (48 + (Int.tmod t0_21 10)))).toNat]⟩ : ByteArray).size + t3_24.size ≤ 9223372036854775807 then
    Lw_markText_0 n_ (IntKind.i64.wrap (Int.tdiv t0_21 10)) ((⟨#[UInt8.ofNat (IntKind.u8.wrap (IntKind.i64.wrap (48 + (Int.tmod t0_21 10)))).toNat]⟩ : ByteArray) ++ t3_24)
    else none
  else
    some t3_24
def Lw_markText_0_ans (t0_21 : Int) (t3_24 : ByteArray) : ByteArray → Ans
  | t3_25 => .out (.exit 0) { np := 0, tm := [(3, .sc (.string t3_25))], ar := [], bx := [] }
theorem Lw_markText_0_ok : ∀ (n_ : Nat) (t0_21 : Int) (t3_24 : ByteArray) (r_ : ByteArray), Lw_markText_0 n_ t0_21 t3_24 = some r_ → ev EE (.loop lp31_0 [0, 3] [2, 3] { np := 0, tm := [(0, .sc (.int .i64 t0_21)), (3, .sc (.string t3_24))], ar := [], bx := [] }) = some (Lw_markText_0_ans t0_21 t3_24 r_) := by
  intro n_
  induction n_ with
  | zero => intro t0_21 t3_24 r_ h_; simp only [Lw_markText_0] at h_; cases h_
  | succ n_ ih_ =>
    intro t0_21 t3_24 r_ h_
    rw [ev_loop EE lp31_0.eq_1]
    simp only [Lw_markText_0] at h_
    rcases bI h_ with ⟨h1_, h_⟩ | ⟨h1_, h_⟩
    · obtain ⟨h2_, h_⟩ := bP h_
      have q_ := ih_ (IntKind.i64.wrap (Int.tdiv t0_21 10)) ((⟨#[UInt8.ofNat (IntKind.u8.wrap (IntKind.i64.wrap (48 + (Int.tmod t0_21 10)))).toNat]⟩ : ByteArray) ++ t3_24) _ h_
      rcases r_ with t3_25
      all_goals (try simp [Lw_markText_0_ans] at q_)
      all_goals simp (maxSteps := 2000000) (decide := true) [-getElem?_pos, -Int.toNat_le, -Int.le_toNat, h1_, h2_, q_, Lw_markText_0_ans]
    · cases h_
      simp (maxSteps := 2000000) (decide := true) [-getElem?_pos, h1_, Lw_markText_0_ans]
/-- laws.markText -/
def Fw_markText (a0_182 : Int) : Option ByteArray :=
  if a0_182 ≤ 0 then
    some (⟨#[109, 48]⟩ : ByteArray)
  else
  bS (Lw_markText_0 FU a0_182 (⟨#[]⟩ : ByteArray)) fun r276 =>
  if (⟨#[109]⟩ : ByteArray).size + r276.size ≤ 9223372036854775807 then
  some ((⟨#[109]⟩ : ByteArray) ++ r276)
  else none
def Fw_markText_ans (a0_182 : Int) : ByteArray → Ans
  | q113 => .val (.sc (.string q113)) []
theorem Fw_markText_ok (a0_182 : Int) (r_ : ByteArray) (h_ : Fw_markText a0_182 = some r_) : ev EE (.call 31 [.sc (.int .i64 a0_182)] []) = some (Fw_markText_ans a0_182 r_) := by
  rw [ev_eq]
  simp only [Fw_markText] at h_
  rcases bI h_ with ⟨h1_, h_⟩ | ⟨h1_, h_⟩
  · cases h_
    simp (maxSteps := 2000000) (decide := true) [-getElem?_pos, ir31, h1_, Fw_markText_ans]
  · obtain ⟨r276, h2_, h_⟩ := bS_some h_
    have h2_f := Lw_markText_0_ok FU a0_182 (⟨#[]⟩ : ByteArray) _ h2_
    try simp [Lw_markText_0_ans] at h2_f
    obtain ⟨h3_, h_⟩ := bP h_
    cases h_
    simp (maxSteps := 2000000) (decide := true) [-getElem?_pos, ir31, h1_, h2_f, h3_, Fw_markText_ans]
def Fw_markNodeS_ans (a0_181 : List T_Node) (a1_28 : Int) : (Int × (List T_Node)) → Ans
  | (q114, q115) => .val (.tu [.sc (.int .i64 q114), .ls true (r_Node true q115)]) []
def Pw_markNodeS (Rw_markNodeS : (List T_Node) → Int → Option (Int × (List T_Node))) : Prop := ∀ (a0_181 : List T_Node) (a1_28 : Int) (r_ : (Int × (List T_Node))), Rw_markNodeS a0_181 a1_28 = some r_ → ev EE (.call 20 [.ls true (r_Node true a0_181), .sc (.int .i64 a1_28)] []) = some (Fw_markNodeS_ans a0_181 a1_28 r_)
def Lw_markNodeS_0 (Rw_markNodeS : (List T_Node) → Int → Option (Int × (List T_Node))) : Nat → (List T_Node) → Int → Int → Option ((List T_Node) × Int)
  | 0, _, _, _ => none
  | n_ + 1, t0_20, t1_15, t5_8 =>
  if t5_8 < (t0_20.length : Int) then
    bS (getI t0_20 t5_8) fun e31 =>
    bS (Fw_markText (IntKind.i64.wrap (t1_15 + 1))) fun r277 =>
    bS (getI (List.set t0_20 t5_8.toNat (⟨t1_15, e31.s_, e31.n_, e31.kids_⟩ : T_Node)) t5_8) fun e32 =>
    bS (getI (List.set (List.set t0_20 t5_8.toNat (⟨t1_15, e31.s_, e31.n_, e31.kids_⟩ : T_Node)) t5_8.toNat (⟨e32.op_, r277, e32.n_, e32.kids_⟩ : T_Node)) t5_8) fun e33 =>
    bS (getI (List.set (List.set (List.set t0_20 t5_8.toNat (⟨t1_15, e31.s_, e31.n_, e31.kids_⟩ : T_Node)) t5_8.toNat (⟨e32.op_, r277, e32.n_, e32.kids_⟩ : T_Node)) t5_8.toNat (⟨e33.op_, e33.s_, IntKind.i64.wrap ((IntKind.i64.wrap (t1_15 + 1)) + 1), e33.kids_⟩ : T_Node)) t5_8) fun e34 =>
    bS (Rw_markNodeS e34.kids_ (IntKind.i64.wrap ((IntKind.i64.wrap ((IntKind.i64.wrap (t1_15 + 1)) + 1)) + 1))) fun (r278, r279) =>
    if r279.length = e34.kids_.length then
    Lw_markNodeS_0 Rw_markNodeS n_ (List.set (List.set (List.set (List.set t0_20 t5_8.toNat (⟨t1_15, e31.s_, e31.n_, e31.kids_⟩ : T_Node)) t5_8.toNat (⟨e32.op_, r277, e32.n_, e32.kids_⟩ : T_Node)) t5_8.toNat (⟨e33.op_, e33.s_, IntKind.i64.wrap ((IntKind.i64.wrap (t1_15 + 1)) + 1), e33.kids_⟩ : T_Node)) t5_8.toNat (⟨e34.op_, e34.s_, e34.n_, r279⟩ : T_Node)) r278 (IntKind.i64.wrap (t5_8 + 1))
    else none
  else
    some (t0_20, t1_15)
def Lw_markNodeS_0_ans (t0_20 : List T_Node) (t1_15 : Int) (t5_8 : Int) : ((List T_Node) × Int) → Ans
  | (t0_22, t1_16) => .out (.exit 0) { np := 0, tm := [(0, .rf 0 0 t0_22.length), (1, .sc (.int .i64 t1_16))], ar := [(0, .a false (r_Node true t0_22))], bx := [] }
theorem Lw_markNodeS_0_ok (Rw_markNodeS : (List T_Node) → Int → Option (Int × (List T_Node))) (hRw_markNodeS : Pw_markNodeS Rw_markNodeS) : ∀ (n_ : Nat) (t0_20 : List T_Node) (t1_15 : Int) (t5_8 : Int) (r_ : ((List T_Node) × Int)), Lw_markNodeS_0 Rw_markNodeS n_ t0_20 t1_15 t5_8 = some r_ → ev EE (.loop lp20_0 [0, 1, 5] [0, 1, 4] { np := 0, tm := [(0, .rf 0 0 t0_20.length), (1, .sc (.int .i64 t1_15)), (5, .sc (.int .i64 t5_8))], ar := [(0, .a false (r_Node true t0_20))], bx := [] }) = some (Lw_markNodeS_0_ans t0_20 t1_15 t5_8 r_) := by
  intro n_
  induction n_ with
  | zero => intro t0_20 t1_15 t5_8 r_ h_; simp only [Lw_markNodeS_0] at h_; cases h_
  | succ n_ ih_ =>
    intro t0_20 t1_15 t5_8 r_ h_
    rw [ev_loop EE lp20_0.eq_1]
    simp only [Lw_markNodeS_0] at h_
    rcases bI h_ with ⟨h1_, h_⟩ | ⟨h1_, h_⟩
    · have h1_s := h1_; try simp at h1_s
      obtain ⟨e31, h3_, h_⟩ := bS_some h_
      obtain ⟨h3_a, h3_b, h3_c, h3_d⟩ := r_Node_getI (o := true)  h3_
      try simp [-getElem?_pos] at h3_d
      obtain ⟨r277, h7_, h_⟩ := bS_some h_
      have h7_f := Fw_markText_ok (IntKind.i64.wrap (t1_15 + 1)) _ h7_
      try simp [Fw_markText_ans] at h7_f
      obtain ⟨e32, h8_, h_⟩ := bS_some h_
      obtain ⟨h8_a, h8_b, h8_c, h8_d⟩ := r_Node_getI (o := true)  h8_
      try simp [-getElem?_pos] at h8_d
      obtain ⟨e33, h12_, h_⟩ := bS_some h_
      obtain ⟨h12_a, h12_b, h12_c, h12_d⟩ := r_Node_getI (o := true)  h12_
      try simp [-getElem?_pos] at h12_d
      obtain ⟨e34, h16_, h_⟩ := bS_some h_
      obtain ⟨h16_a, h16_b, h16_c, h16_d⟩ := r_Node_getI (o := true)  h16_
      try simp [-getElem?_pos] at h16_d
      obtain ⟨⟨r278, r279⟩, h20_, h_⟩ := bS_some h_
      try dsimp only at h_
      have h20_f := hRw_markNodeS e34.kids_ (IntKind.i64.wrap ((IntKind.i64.wrap ((IntKind.i64.wrap (t1_15 + 1)) + 1)) + 1)) _ h20_
      try simp [Fw_markNodeS_ans] at h20_f
      obtain ⟨h21_, h_⟩ := bP h_
      have h21_t : List.take e34.kids_.length r279 = r279 := List.take_of_length_le (Nat.le_of_eq h21_)
      have q_ := ih_ (List.set (List.set (List.set (List.set t0_20 t5_8.toNat (⟨t1_15, e31.s_, e31.n_, e31.kids_⟩ : T_Node)) t5_8.toNat (⟨e32.op_, r277, e32.n_, e32.kids_⟩ : T_Node)) t5_8.toNat (⟨e33.op_, e33.s_, IntKind.i64.wrap ((IntKind.i64.wrap (t1_15 + 1)) + 1), e33.kids_⟩ : T_Node)) t5_8.toNat (⟨e34.op_, e34.s_, e34.n_, r279⟩ : T_Node)) r278 (IntKind.i64.wrap (t5_8 + 1)) _ h_
      rcases r_ with ⟨t0_22, t1_16⟩
      all_goals (try simp [Lw_markNodeS_0_ans] at q_)
      all_goals simp (maxSteps := 2000000) (decide := true) [-getElem?_pos, h1_, h1_s, h3_a, h3_b, h3_c, h3_d, h7_f, h8_a, h8_b, h8_c, h8_d, h12_a, h12_b, h12_c, h12_d, h16_a, h16_b, h16_c, h16_d, h20_f, h21_, h21_t, q_, Lw_markNodeS_0_ans]
    · have h1_s := h1_; try simp at h1_s
      cases h_
      simp (maxSteps := 2000000) (decide := true) [-getElem?_pos, h1_, h1_s, Lw_markNodeS_0_ans]
/-- laws.markNodeS -/
def Sw_markNodeS (Rw_markNodeS : (List T_Node) → Int → Option (Int × (List T_Node))) (a0_181 : List T_Node) (a1_28 : Int) : Option (Int × (List T_Node)) :=
  bS (Lw_markNodeS_0 Rw_markNodeS FU a0_181 a1_28 0) fun (r280, r281) =>
  some (r281, r280)
theorem Sw_markNodeS_ok (Rw_markNodeS : (List T_Node) → Int → Option (Int × (List T_Node))) (hRw_markNodeS : Pw_markNodeS Rw_markNodeS) (a0_181 : List T_Node) (a1_28 : Int) (r_ : (Int × (List T_Node))) (h_ : Sw_markNodeS Rw_markNodeS a0_181 a1_28 = some r_) : ev EE (.call 20 [.ls true (r_Node true a0_181), .sc (.int .i64 a1_28)] []) = some (Fw_markNodeS_ans a0_181 a1_28 r_) := by
  rw [ev_eq]
  simp only [Sw_markNodeS] at h_
  obtain ⟨⟨r280, r281⟩, h1_, h_⟩ := bS_some h_
  try dsimp only at h_
  have h1_f := Lw_markNodeS_0_ok Rw_markNodeS hRw_markNodeS FU a0_181 a1_28 0 _ h1_
  try simp [Lw_markNodeS_0_ans] at h1_f
  cases h_
  simp (maxSteps := 2000000) (decide := true) [-getElem?_pos, ir20, h1_f, Fw_markNodeS_ans]
def Fw_markNodeSn : Nat → (List T_Node) → Int → Option (Int × (List T_Node))
  | 0 => fun _ _ => none
  | n_ + 1 => Sw_markNodeS (Fw_markNodeSn n_)
def Fw_markNodeS (a0_181 : List T_Node) (a1_28 : Int) : Option (Int × (List T_Node)) := Fw_markNodeSn FU a0_181 a1_28
theorem Fw_markNodeSn_ok : ∀ (n_ : Nat) (a0_181 : List T_Node) (a1_28 : Int) (r_ : (Int × (List T_Node))), Fw_markNodeSn n_ a0_181 a1_28 = some r_ → ev EE (.call 20 [.ls true (r_Node true a0_181), .sc (.int .i64 a1_28)] []) = some (Fw_markNodeS_ans a0_181 a1_28 r_) := by
  intro n_
  induction n_ with
  | zero => intro a0_181 a1_28 r_ h_; cases h_
  | succ n_ ih_ => intro a0_181 a1_28 r_ h_; exact Sw_markNodeS_ok (Fw_markNodeSn n_) ih_ a0_181 a1_28 r_ h_
theorem Fw_markNodeS_ok (a0_181 : List T_Node) (a1_28 : Int) (r_ : (Int × (List T_Node))) (h_ : Fw_markNodeS a0_181 a1_28 = some r_) : ev EE (.call 20 [.ls true (r_Node true a0_181), .sc (.int .i64 a1_28)] []) = some (Fw_markNodeS_ans a0_181 a1_28 r_) := Fw_markNodeSn_ok FU a0_181 a1_28 r_ h_
/-- laws.markNode -/
def Fw_markNode (a0_177 : Int) (a0_178 : ByteArray) (a0_179 : Int) (a0_180 : List T_Node) (a1_27 : Int) : Option (Int × Int × ByteArray × Int × (List T_Node)) :=
  bS (Fw_markNodeS a0_180 a1_27) fun (r282, r283) =>
  if r283.length = a0_180.length then
  some (r282, a0_177, a0_178, a0_179, r283)
  else none
def Fw_markNode_ans (a0_177 : Int) (a0_178 : ByteArray) (a0_179 : Int) (a0_180 : List T_Node) (a1_27 : Int) : (Int × Int × ByteArray × Int × (List T_Node)) → Ans
  | (q116, q117, q118, q119, q120) => .val (.tu [.sc (.int .i64 q116), .ag [.sc (.int .i64 q117), .sc (.string q118), .sc (.int .i64 q119), .ls true (r_Node true q120)]]) []
theorem Fw_markNode_ok (a0_177 : Int) (a0_178 : ByteArray) (a0_179 : Int) (a0_180 : List T_Node) (a1_27 : Int) (r_ : (Int × Int × ByteArray × Int × (List T_Node))) (h_ : Fw_markNode a0_177 a0_178 a0_179 a0_180 a1_27 = some r_) : ev EE (.call 12 [.ag [.sc (.int .i64 a0_177), .sc (.string a0_178), .sc (.int .i64 a0_179), .ls true (r_Node true a0_180)], .sc (.int .i64 a1_27)] []) = some (Fw_markNode_ans a0_177 a0_178 a0_179 a0_180 a1_27 r_) := by
  rw [ev_eq]
  simp only [Fw_markNode] at h_
  obtain ⟨⟨r282, r283⟩, h1_, h_⟩ := bS_some h_
  try dsimp only at h_
  have h1_f := Fw_markNodeS_ok a0_180 a1_27 _ h1_
  try simp [Fw_markNodeS_ans] at h1_f
  obtain ⟨h2_, h_⟩ := bP h_
  have h2_t : List.take a0_180.length r283 = r283 := List.take_of_length_le (Nat.le_of_eq h2_)
  cases h_
  simp (maxSteps := 2000000) (decide := true) [-getElem?_pos, ir12, h1_f, h2_, h2_t, Fw_markNode_ans]
def Fw_heldNodeS_ans (a0_183 : List T_Node) (a1_29 : Int) : Int → Ans
  | q121 => .val (.sc (.int .i64 q121)) []
def Pw_heldNodeS (Rw_heldNodeS : (List T_Node) → Int → Option Int) : Prop := ∀ (a0_183 : List T_Node) (a1_29 : Int) (r_ : Int), Rw_heldNodeS a0_183 a1_29 = some r_ → ev EE (.call 21 [.ls false (r_Node false a0_183), .sc (.int .i64 a1_29)] []) = some (Fw_heldNodeS_ans a0_183 a1_29 r_)
def Lw_heldNodeS_0 (Rw_heldNodeS : (List T_Node) → Int → Option Int) : Nat → (List T_Node) → Int → Int → Option ((Int × Int) ⊕ Int)
  | 0, _, _, _ => none
  | n_ + 1, t0_23, t1_17, t5_9 =>
  if t5_9 < (t0_23.length : Int) then
    bS (getI t0_23 t5_9) fun e35 =>
    if e35.op_ = t1_17 then
      bS (Fw_markText (IntKind.i64.wrap (t1_17 + 1))) fun r291 =>
      if e35.s_ = r291 then
        if e35.n_ = IntKind.i64.wrap ((IntKind.i64.wrap (t1_17 + 1)) + 1) then
          bS (Rw_heldNodeS e35.kids_ (IntKind.i64.wrap ((IntKind.i64.wrap ((IntKind.i64.wrap (t1_17 + 1)) + 1)) + 1))) fun r292 =>
          if r292 < 0 then
            some (.inl (r292, (-1)))
          else
            Lw_heldNodeS_0 Rw_heldNodeS n_ t0_23 r292 (IntKind.i64.wrap (t5_9 + 1))
        else
          some (.inl (IntKind.i64.wrap ((IntKind.i64.wrap (t1_17 + 1)) + 1), (-1)))
      else
        some (.inl (IntKind.i64.wrap (t1_17 + 1), (-1)))
    else
      some (.inl (t1_17, (-1)))
  else
    some (.inr t1_17)
def Lw_heldNodeS_0_ans (t0_23 : List T_Node) (t1_17 : Int) (t5_9 : Int) : (Int × Int) ⊕ Int → Ans
  | .inl (t1_18, t4_25) => .out .ret { np := 0, tm := [(1, .sc (.int .i64 t1_18)), (4, .sc (.int .i64 t4_25))], ar := [], bx := [] }
  | .inr t1_19 => .out (.exit 0) { np := 0, tm := [(1, .sc (.int .i64 t1_19))], ar := [], bx := [] }
theorem Lw_heldNodeS_0_ok (Rw_heldNodeS : (List T_Node) → Int → Option Int) (hRw_heldNodeS : Pw_heldNodeS Rw_heldNodeS) : ∀ (n_ : Nat) (t0_23 : List T_Node) (t1_17 : Int) (t5_9 : Int) (r_ : (Int × Int) ⊕ Int), Lw_heldNodeS_0 Rw_heldNodeS n_ t0_23 t1_17 t5_9 = some r_ → ev EE (.loop lp21_0 [0, 1, 5] [1, 4] { np := 0, tm := [(0, .ls false (r_Node false t0_23)), (1, .sc (.int .i64 t1_17)), (5, .sc (.int .i64 t5_9))], ar := [], bx := [] }) = some (Lw_heldNodeS_0_ans t0_23 t1_17 t5_9 r_) := by
  intro n_
  induction n_ with
  | zero => intro t0_23 t1_17 t5_9 r_ h_; simp only [Lw_heldNodeS_0] at h_; cases h_
  | succ n_ ih_ =>
    intro t0_23 t1_17 t5_9 r_ h_
    rw [ev_loop EE lp21_0.eq_1]
    simp only [Lw_heldNodeS_0] at h_
    rcases bI h_ with ⟨h1_, h_⟩ | ⟨h1_, h_⟩
    · have h1_s := h1_; try simp at h1_s
      obtain ⟨e35, h3_, h_⟩ := bS_some h_
      obtain ⟨h3_a, h3_b, h3_c, h3_d⟩ := r_Node_getI (o := false)  h3_
      try simp [-getElem?_pos] at h3_d
      rcases bI h_ with ⟨h7_, h_⟩ | ⟨h7_, h_⟩
      · obtain ⟨r291, h8_, h_⟩ := bS_some h_
        have h8_f := Fw_markText_ok (IntKind.i64.wrap (t1_17 + 1)) _ h8_
        try simp [Fw_markText_ans] at h8_f
        rcases bI h_ with ⟨h9_, h_⟩ | ⟨h9_, h_⟩
        · rcases bI h_ with ⟨h10_, h_⟩ | ⟨h10_, h_⟩
          · obtain ⟨r292, h11_, h_⟩ := bS_some h_
            have h11_f := hRw_heldNodeS e35.kids_ (IntKind.i64.wrap ((IntKind.i64.wrap ((IntKind.i64.wrap (t1_17 + 1)) + 1)) + 1)) _ h11_
            try simp [Fw_heldNodeS_ans] at h11_f
            rcases bI h_ with ⟨h12_, h_⟩ | ⟨h12_, h_⟩
            · cases h_
              simp (maxSteps := 2000000) (decide := true) [-getElem?_pos, h1_, h1_s, h3_a, h3_b, h3_c, h3_d, eq_true h7_, h8_f, eq_true h9_, eq_true h10_, h11_f, h12_, Lw_heldNodeS_0_ans]
            · have q_ := ih_ t0_23 r292 (IntKind.i64.wrap (t5_9 + 1)) _ h_
              rcases r_ with ⟨t1_18, t4_25⟩ | t1_19
              all_goals (try simp [Lw_heldNodeS_0_ans] at q_)
              all_goals simp (maxSteps := 2000000) (decide := true) [-getElem?_pos, h1_, h1_s, h3_a, h3_b, h3_c, h3_d, eq_true h7_, h8_f, eq_true h9_, eq_true h10_, h11_f, h12_, q_, Lw_heldNodeS_0_ans]
          · cases h_
            simp (maxSteps := 2000000) (decide := true) [-getElem?_pos, h1_, h1_s, h3_a, h3_b, h3_c, h3_d, eq_true h7_, h8_f, eq_true h9_, h10_, Lw_heldNodeS_0_ans]
        · cases h_
          simp (maxSteps := 2000000) (decide := true) [-getElem?_pos, h1_, h1_s, h3_a, h3_b, h3_c, h3_d, eq_true h7_, h8_f, h9_, Lw_heldNodeS_0_ans]
      · cases h_
        simp (maxSteps := 2000000) (decide := true) [-getElem?_pos, h1_, h1_s, h3_a, h3_b, h3_c, h3_d, h7_, Lw_heldNodeS_0_ans]
    · have h1_s := h1_; try simp at h1_s
      cases h_
      simp (maxSteps := 2000000) (decide := true) [-getElem?_pos, h1_, h1_s, Lw_heldNodeS_0_ans]
/-- laws.heldNodeS -/
def Sw_heldNodeS (Rw_heldNodeS : (List T_Node) → Int → Option Int) (a0_183 : List T_Node) (a1_29 : Int) : Option Int :=
  bS (Lw_heldNodeS_0 Rw_heldNodeS FU a0_183 a1_29 0) fun r_ => match r_ with
  | .inl (r293, r294) =>
    some r294
  | .inr r295 =>
    some r295
theorem Sw_heldNodeS_ok (Rw_heldNodeS : (List T_Node) → Int → Option Int) (hRw_heldNodeS : Pw_heldNodeS Rw_heldNodeS) (a0_183 : List T_Node) (a1_29 : Int) (r_ : Int) (h_ : Sw_heldNodeS Rw_heldNodeS a0_183 a1_29 = some r_) : ev EE (.call 21 [.ls false (r_Node false a0_183), .sc (.int .i64 a1_29)] []) = some (Fw_heldNodeS_ans a0_183 a1_29 r_) := by
  rw [ev_eq]
  simp only [Sw_heldNodeS] at h_
  obtain ⟨r_0, h1_, h_⟩ := bS_some h_
  have h1_f := Lw_heldNodeS_0_ok Rw_heldNodeS hRw_heldNodeS FU a0_183 a1_29 0 _ h1_
  rcases r_0 with ⟨r293, r294⟩ | r295
  · try dsimp only at h_
    try simp [Lw_heldNodeS_0_ans] at h1_f
    cases h_
    simp (maxSteps := 2000000) (decide := true) [-getElem?_pos, ir21, h1_f, Fw_heldNodeS_ans]
  · try dsimp only at h_
    try simp [Lw_heldNodeS_0_ans] at h1_f
    cases h_
    simp (maxSteps := 2000000) (decide := true) [-getElem?_pos, ir21, h1_f, Fw_heldNodeS_ans]
def Fw_heldNodeSn : Nat → (List T_Node) → Int → Option Int
  | 0 => fun _ _ => none
  | n_ + 1 => Sw_heldNodeS (Fw_heldNodeSn n_)
def Fw_heldNodeS (a0_183 : List T_Node) (a1_29 : Int) : Option Int := Fw_heldNodeSn FU a0_183 a1_29
theorem Fw_heldNodeSn_ok : ∀ (n_ : Nat) (a0_183 : List T_Node) (a1_29 : Int) (r_ : Int), Fw_heldNodeSn n_ a0_183 a1_29 = some r_ → ev EE (.call 21 [.ls false (r_Node false a0_183), .sc (.int .i64 a1_29)] []) = some (Fw_heldNodeS_ans a0_183 a1_29 r_) := by
  intro n_
  induction n_ with
  | zero => intro a0_183 a1_29 r_ h_; cases h_
  | succ n_ ih_ => intro a0_183 a1_29 r_ h_; exact Sw_heldNodeS_ok (Fw_heldNodeSn n_) ih_ a0_183 a1_29 r_ h_
theorem Fw_heldNodeS_ok (a0_183 : List T_Node) (a1_29 : Int) (r_ : Int) (h_ : Fw_heldNodeS a0_183 a1_29 = some r_) : ev EE (.call 21 [.ls false (r_Node false a0_183), .sc (.int .i64 a1_29)] []) = some (Fw_heldNodeS_ans a0_183 a1_29 r_) := Fw_heldNodeSn_ok FU a0_183 a1_29 r_ h_
end Go.Pv

namespace Go.Pv
set_option maxRecDepth 100000
set_option maxHeartbeats 40000000
set_option linter.unusedSimpArgs false
set_option linter.unusedVariables false
/-- laws.FnExactFuns -/
def Fw_FnExactFuns (a0_1 : Int) (a0_2 : ByteArray) (a0_3 : Int) (a0_4 : List T_Node) : Option Bool :=
  bS (Fw_szNode a0_1 a0_2 a0_3 a0_4 1048576) fun r6 =>
  if r6 < 0 then
    some true
  else
  bS (Fw_toNode a0_1 a0_2 a0_3 a0_4) fun (r13, r14, r15, r16) =>
  bS (Fs_Funs r13 r14 r15 r16) fun r147 =>
  bS (Fi_Funs r13 r14 r15 r16) fun r269 =>
  bS (Fw_eqNodeS r269 r147) fun r273 =>
  if r273 = true then
    bS (Fw_eqNode_2 r13 r14 r15 r16 r13 r14 r15 r16) fun r275 =>
    if r275 = true then
      bS (Fw_markNode r13 r14 r15 r16 1) fun (r284, r285, r286, r287, r288) =>
      if r288.length = r16.length then
      if r284 < 0 then
        some false
      else
      bS (Fw_markNodeS r269 1) fun (r289, r290) =>
      if r290.length = r269.length then
      bS (Fw_heldNodeS r290 1) fun r296 =>
      if r296 < 0 then
        some false
      else
      if r296 = r289 then
        some true
      else
        some false
      else none
      else none
    else
      some false
  else
    some false
def Fw_FnExactFuns_ans (a0_1 : Int) (a0_2 : ByteArray) (a0_3 : Int) (a0_4 : List T_Node) : Bool → Ans
  | q122 => .val (.sc (.bool q122)) []
end Go.Pv

