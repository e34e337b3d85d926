/- Proof: the functions as Lean functions, fourth part. No condition. -/
import Derived.Test.YthddchcckpmgoaaDoorGnC
set_option autoImplicit true
set_option relaxedAutoImplicit true
set_option linter.unusedSimpArgs false
set_option linter.unusedVariables false
namespace Go.Pv
set_option maxRecDepth 100000
set_option maxHeartbeats 40000000
set_option linter.unusedSimpArgs false
set_option linter.unusedVariables false
def Lslices_Index_string_0 : Nat → (List ByteArray) → ByteArray → Int → Int → Option (Int ⊕ Unit)
  | 0, _, _, _, _ => none
  | n_ + 1, t0_15, t1_11, t7_10, t8_6 =>
  if t8_6 < t7_10 then
    bS (getI t0_15 t8_6) fun e19 =>
    if t1_11 = e19 then
      some (.inl t8_6)
    else
      Lslices_Index_string_0 n_ t0_15 t1_11 t7_10 (IntKind.i64.wrap (t8_6 + 1))
  else
    some (.inr ())
def Lslices_Index_string_0_ans (t0_15 : List ByteArray) (t1_11 : ByteArray) (t7_10 : Int) (t8_6 : Int) : Int ⊕ Unit → Ans
  | .inl t4_19 => .out .ret { np := 0, tm := [(4, .sc (.int .i64 t4_19))], ar := [], bx := [] }
  | .inr _ => .out (.exit 0) { np := 0, tm := [], ar := [], bx := [] }
theorem Lslices_Index_string_0_ok : ∀ (n_ : Nat) (t0_15 : List ByteArray) (t1_11 : ByteArray) (t7_10 : Int) (t8_6 : Int) (r_ : Int ⊕ Unit), Lslices_Index_string_0 n_ t0_15 t1_11 t7_10 t8_6 = some r_ → ev EE (.loop lp44_0 [0, 1, 7, 8] [4] { np := 0, tm := [(0, .ls false (strs t0_15)), (1, .sc (.string t1_11)), (7, .sc (.int .i64 t7_10)), (8, .sc (.int .i64 t8_6))], ar := [], bx := [] }) = some (Lslices_Index_string_0_ans t0_15 t1_11 t7_10 t8_6 r_) := by
  intro n_
  induction n_ with
  | zero => intro t0_15 t1_11 t7_10 t8_6 r_ h_; simp only [Lslices_Index_string_0] at h_; cases h_
  | succ n_ ih_ =>
    intro t0_15 t1_11 t7_10 t8_6 r_ h_
    rw [ev_loop EE lp44_0.eq_1]
    simp only [Lslices_Index_string_0] at h_
    rcases bI h_ with ⟨h1_, h_⟩ | ⟨h1_, h_⟩
    · obtain ⟨e19, h2_, h_⟩ := bS_some h_
      obtain ⟨h2_a, h2_b, h2_c, h2_d⟩ := strs_getI  h2_
      try simp [-getElem?_pos] at h2_d
      rcases bI h_ with ⟨h6_, h_⟩ | ⟨h6_, h_⟩
      · cases h_
        simp (maxSteps := 2000000) (decide := true) [-getElem?_pos, h1_, h2_a, h2_b, h2_c, h2_d, eq_true h6_, Lslices_Index_string_0_ans]
      · have q_ := ih_ t0_15 t1_11 t7_10 (IntKind.i64.wrap (t8_6 + 1)) _ h_
        rcases r_ with t4_19 | _
        all_goals (try simp [Lslices_Index_string_0_ans] at q_)
        all_goals simp (maxSteps := 2000000) (decide := true) [-getElem?_pos, h1_, h2_a, h2_b, h2_c, h2_d, h6_, q_, Lslices_Index_string_0_ans]
    · cases h_
      simp (maxSteps := 2000000) (decide := true) [-getElem?_pos, h1_, Lslices_Index_string_0_ans]
/-- slices.Index[[]string,string] -/
def Fslices_Index_string (a0_120 : List ByteArray) (a1_16 : ByteArray) : Option Int :=
  bS (Lslices_Index_string_0 FU a0_120 a1_16 (a0_120.length : Int) 0) fun r_ => match r_ with
  | .inl r188 =>
    some r188
  | .inr () =>
    some (-1)
def Fslices_Index_string_ans (a0_120 : List ByteArray) (a1_16 : ByteArray) : Int → Ans
  | q79 => .val (.sc (.int .i64 q79)) []
theorem Fslices_Index_string_ok (a0_120 : List ByteArray) (a1_16 : ByteArray) (r_ : Int) (h_ : Fslices_Index_string a0_120 a1_16 = some r_) : ev EE (.call 44 [.ls false (strs a0_120), .sc (.string a1_16)] []) = some (Fslices_Index_string_ans a0_120 a1_16 r_) := by
  rw [ev_eq]
  simp only [Fslices_Index_string] at h_
  obtain ⟨r_0, h1_, h_⟩ := bS_some h_
  have h1_f := Lslices_Index_string_0_ok FU a0_120 a1_16 (a0_120.length : Int) 0 _ h1_
  rcases r_0 with r188 | _
  · try dsimp only at h_
    try simp [Lslices_Index_string_0_ans] at h1_f
    cases h_
    simp (maxSteps := 2000000) (decide := true) [-getElem?_pos, ir44, h1_f, Fslices_Index_string_ans]
  · try dsimp only at h_
    try simp [Lslices_Index_string_0_ans] at h1_f
    cases h_
    simp (maxSteps := 2000000) (decide := true) [-getElem?_pos, ir44, h1_f, Fslices_Index_string_ans]
/-- slices.Contains[[]string,string] -/
def Fslices_Contains_string (a0_119 : List ByteArray) (a1_15 : ByteArray) : Option Bool :=
  bS (Fslices_Index_string a0_119 a1_15) fun r189 =>
  some (decide (0 ≤ r189))
def Fslices_Contains_string_ans (a0_119 : List ByteArray) (a1_15 : ByteArray) : Bool → Ans
  | q80 => .val (.sc (.bool q80)) []
theorem Fslices_Contains_string_ok (a0_119 : List ByteArray) (a1_15 : ByteArray) (r_ : Bool) (h_ : Fslices_Contains_string a0_119 a1_15 = some r_) : ev EE (.call 27 [.ls false (strs a0_119), .sc (.string a1_15)] []) = some (Fslices_Contains_string_ans a0_119 a1_15 r_) := by
  rw [ev_eq]
  simp only [Fslices_Contains_string] at h_
  obtain ⟨r189, h1_, h_⟩ := bS_some h_
  have h1_f := Fslices_Index_string_ok a0_119 a1_15 _ h1_
  try simp [Fslices_Index_string_ans] at h1_f
  cases h_
  simp (maxSteps := 2000000) (decide := true) [-getElem?_pos, ir27, h1_f, Fslices_Contains_string_ans]
/-- impl.isWord -/
def Fi_isWord (a0_118 : ByteArray) : Option Bool :=
  bS (Fslices_Contains_string ([(⟨#[108, 101, 116]⟩ : ByteArray), (⟨#[105, 102]⟩ : ByteArray), (⟨#[101, 108, 115, 101]⟩ : ByteArray), (⟨#[119, 104, 105, 108, 101]⟩ : ByteArray), (⟨#[114, 101, 116, 117, 114, 110]⟩ : ByteArray), (⟨#[112, 114, 105, 110, 116]⟩ : ByteArray), (⟨#[102, 117, 110, 99, 116, 105, 111, 110]⟩ : ByteArray), (⟨#[116, 114, 117, 101]⟩ : ByteArray), (⟨#[102, 97, 108, 115, 101]⟩ : ByteArray), (⟨#[110, 117, 108, 108]⟩ : ByteArray), (⟨#[117, 110, 100, 101, 102, 105, 110, 101, 100]⟩ : ByteArray), (⟨#[112, 114, 111, 116, 111]⟩ : ByteArray)]) a0_118) fun r190 =>
  some r190
def Fi_isWord_ans (a0_118 : ByteArray) : Bool → Ans
  | q81 => .val (.sc (.bool q81)) []
theorem Fi_isWord_ok (a0_118 : ByteArray) (r_ : Bool) (h_ : Fi_isWord a0_118 = some r_) : ev EE (.call 79 [.sc (.string a0_118)] []) = some (Fi_isWord_ans a0_118 r_) := by
  rw [ev_eq]
  simp only [Fi_isWord] at h_
  obtain ⟨r190, h1_, h_⟩ := bS_some h_
  have h1_f := Fslices_Contains_string_ok ([(⟨#[108, 101, 116]⟩ : ByteArray), (⟨#[105, 102]⟩ : ByteArray), (⟨#[101, 108, 115, 101]⟩ : ByteArray), (⟨#[119, 104, 105, 108, 101]⟩ : ByteArray), (⟨#[114, 101, 116, 117, 114, 110]⟩ : ByteArray), (⟨#[112, 114, 105, 110, 116]⟩ : ByteArray), (⟨#[102, 117, 110, 99, 116, 105, 111, 110]⟩ : ByteArray), (⟨#[116, 114, 117, 101]⟩ : ByteArray), (⟨#[102, 97, 108, 115, 101]⟩ : ByteArray), (⟨#[110, 117, 108, 108]⟩ : ByteArray), (⟨#[117, 110, 100, 101, 102, 105, 110, 101, 100]⟩ : ByteArray), (⟨#[112, 114, 111, 116, 111]⟩ : ByteArray)]) a0_118 _ h1_
  try simp [Fslices_Contains_string_ans] at h1_f
  cases h_
  simp (maxSteps := 2000000) (decide := true) [-getElem?_pos, ir79, h1_f, Fi_isWord_ans]
/-- impl.properName -/
def Fi_properName (a0_112 : ByteArray) : Option Bool :=
  bS (Fi_nameOk a0_112) fun r187 =>
  if r187 = true then
    bS (Fi_isWord a0_112) fun r191 =>
    some (!r191)
  else
    some false
def Fi_properName_ans (a0_112 : ByteArray) : Bool → Ans
  | q82 => .val (.sc (.bool q82)) []
theorem Fi_properName_ok (a0_112 : ByteArray) (r_ : Bool) (h_ : Fi_properName a0_112 = some r_) : ev EE (.call 68 [.sc (.string a0_112)] []) = some (Fi_properName_ans a0_112 r_) := by
  rw [ev_eq]
  simp only [Fi_properName] at h_
  obtain ⟨r187, h1_, h_⟩ := bS_some h_
  have h1_f := Fi_nameOk_ok a0_112 _ h1_
  try simp [Fi_nameOk_ans] at h1_f
  rcases bI h_ with ⟨h2_, h_⟩ | ⟨h2_, h_⟩
  · obtain ⟨r191, h3_, h_⟩ := bS_some h_
    have h3_f := Fi_isWord_ok a0_112 _ h3_
    try simp [Fi_isWord_ans] at h3_f
    cases h_
    simp (maxSteps := 2000000) (decide := true) [-getElem?_pos, ir68, h1_f, h2_, h3_f, Fi_properName_ans]
  · cases h_
    simp (maxSteps := 2000000) (decide := true) [-getElem?_pos, ir68, h1_f, h2_, Fi_properName_ans]
/-- impl.textByte -/
def Fi_textByte (a0_122 : Int) : Option Bool :=
  if 32 ≤ a0_122 then
    if a0_122 ≤ 126 then
      some (!(decide (a0_122 = 34)))
    else
      some false
  else
    some false
def Fi_textByte_ans (a0_122 : Int) : Bool → Ans
  | q83 => .val (.sc (.bool q83)) []
theorem Fi_textByte_ok (a0_122 : Int) (r_ : Bool) (h_ : Fi_textByte a0_122 = some r_) : ev EE (.call 70 [.sc (.int .u8 a0_122)] []) = some (Fi_textByte_ans a0_122 r_) := by
  rw [ev_eq]
  simp only [Fi_textByte] at h_
  rcases bI h_ with ⟨h1_, h_⟩ | ⟨h1_, h_⟩
  · rcases bI h_ with ⟨h2_, h_⟩ | ⟨h2_, h_⟩
    · cases h_
      simp (maxSteps := 2000000) (decide := true) [-getElem?_pos, ir70, h1_, h2_, Fi_textByte_ans]
    · cases h_
      simp (maxSteps := 2000000) (decide := true) [-getElem?_pos, ir70, h1_, h2_, Fi_textByte_ans]
  · cases h_
    simp (maxSteps := 2000000) (decide := true) [-getElem?_pos, ir70, h1_, Fi_textByte_ans]
def Li_run_0_2 : Nat → ByteArray → Int → Option Int
  | 0, _, _ => none
  | n_ + 1, t0_16, t1_12 =>
  if t1_12 < (t0_16.size : Int) then
    bS (getB t0_16 t1_12) fun b15 =>
    bS (Fi_textByte (b15.toNat : Int)) fun r206 =>
    if r206 = true then
      Li_run_0_2 n_ t0_16 (IntKind.i64.wrap (t1_12 + 1))
    else
      some t1_12
  else
    some t1_12
def Li_run_0_2_ans (t0_16 : ByteArray) (t1_12 : Int) : Int → Ans
  | t1_13 => .out (.exit 0) { np := 0, tm := [(1, .sc (.int .i64 t1_13))], ar := [], bx := [] }
theorem Li_run_0_2_ok : ∀ (n_ : Nat) (t0_16 : ByteArray) (t1_12 : Int) (r_ : Int), Li_run_0_2 n_ t0_16 t1_12 = some r_ → ev EE (.loop lp69_0 [0, 1, 2] [1, 6] { np := 0, tm := [(0, .sc (.string t0_16)), (1, .sc (.int .i64 t1_12)), (2, .fn 70 [])], ar := [], bx := [] }) = some (Li_run_0_2_ans t0_16 t1_12 r_) := by
  intro n_
  induction n_ with
  | zero => intro t0_16 t1_12 r_ h_; simp only [Li_run_0_2] at h_; cases h_
  | succ n_ ih_ =>
    intro t0_16 t1_12 r_ h_
    rw [ev_loop EE lp69_0.eq_1]
    simp only [Li_run_0_2] at h_
    rcases bI h_ with ⟨h1_, h_⟩ | ⟨h1_, h_⟩
    · have h1_s := h1_; try simp at h1_s
      obtain ⟨b15, h3_, h_⟩ := bS_some h_
      obtain ⟨h3_a, h3_b, h3_c, h3_d⟩ := getB_some h3_
      try simp [-getElem?_pos] at h3_d
      obtain ⟨r206, h7_, h_⟩ := bS_some h_
      have h7_f := Fi_textByte_ok (b15.toNat : Int) _ h7_
      try simp [Fi_textByte_ans] at h7_f
      rcases bI h_ with ⟨h8_, h_⟩ | ⟨h8_, h_⟩
      · have q_ := ih_ t0_16 (IntKind.i64.wrap (t1_12 + 1)) _ h_
        rcases r_ with t1_13
        all_goals (try simp [Li_run_0_2_ans] at q_)
        all_goals simp (maxSteps := 2000000) (decide := true) [-getElem?_pos, h1_, h1_s, h3_a, h3_b, h3_c, h3_d, h7_f, h8_, q_, Li_run_0_2_ans]
      · cases h_
        simp (maxSteps := 2000000) (decide := true) [-getElem?_pos, h1_, h1_s, h3_a, h3_b, h3_c, h3_d, h7_f, h8_, Li_run_0_2_ans]
    · have h1_s := h1_; try simp at h1_s
      cases h_
      simp (maxSteps := 2000000) (decide := true) [-getElem?_pos, h1_, h1_s, Li_run_0_2_ans]
/-- impl.run -/
def Fi_run_2 (a0_121 : ByteArray) (a1_17 : Int) : Option Int :=
  bS (Li_run_0_2 FU a0_121 a1_17) fun r207 =>
  some r207
def Fi_run_2_ans (a0_121 : ByteArray) (a1_17 : Int) : Int → Ans
  | q84 => .val (.sc (.int .i64 q84)) []
theorem Fi_run_2_ok (a0_121 : ByteArray) (a1_17 : Int) (r_ : Int) (h_ : Fi_run_2 a0_121 a1_17 = some r_) : ev EE (.call 69 [.sc (.string a0_121), .sc (.int .i64 a1_17), .fn 70 []] []) = some (Fi_run_2_ans a0_121 a1_17 r_) := by
  rw [ev_eq]
  simp only [Fi_run_2] at h_
  obtain ⟨r207, h1_, h_⟩ := bS_some h_
  have h1_f := Li_run_0_2_ok FU a0_121 a1_17 _ h1_
  try simp [Li_run_0_2_ans] at h1_f
  cases h_
  simp (maxSteps := 2000000) (decide := true) [-getElem?_pos, ir69, h1_f, Fi_run_2_ans]
/-- impl.namesOf -/
def Fi_namesOf (a0_123 : Int) (a0_124 : ByteArray) (a0_125 : Int) (a0_126 : List T_Node) : Option (List ByteArray) :=
  if a0_124 = (⟨#[]⟩ : ByteArray) then
    some []
  else
  bS (Fstrings_Split a0_124 (⟨#[32]⟩ : ByteArray)) fun r210 =>
  some r210
def Fi_namesOf_ans (a0_123 : Int) (a0_124 : ByteArray) (a0_125 : Int) (a0_126 : List T_Node) : (List ByteArray) → Ans
  | q86 => .val (.ls true (strs q86)) []
theorem Fi_namesOf_ok (a0_123 : Int) (a0_124 : ByteArray) (a0_125 : Int) (a0_126 : List T_Node) (r_ : (List ByteArray)) (h_ : Fi_namesOf a0_123 a0_124 a0_125 a0_126 = some r_) : ev EE (.call 28 [.ag [.sc (.int .i64 a0_123), .sc (.string a0_124), .sc (.int .i64 a0_125), .ls false (r_Node false a0_126)]] []) = some (Fi_namesOf_ans a0_123 a0_124 a0_125 a0_126 r_) := by
  rw [ev_eq]
  simp only [Fi_namesOf] at h_
  rcases bI h_ with ⟨h1_, h_⟩ | ⟨h1_, h_⟩
  · cases h_
    simp (maxSteps := 2000000) (decide := true) [-getElem?_pos, ir28, eq_true h1_, Fi_namesOf_ans]
  · obtain ⟨r210, h2_, h_⟩ := bS_some h_
    have h2_f := Fstrings_Split_ok a0_124 (⟨#[32]⟩ : ByteArray) _ h2_
    try simp [Fstrings_Split_ans] at h2_f
    cases h_
    simp (maxSteps := 2000000) (decide := true) [-getElem?_pos, ir28, h1_, h2_f, Fi_namesOf_ans]
/-- impl.fieldsOk$1 -/
def Fi_fieldsOk_c1 (a0_129 : ByteArray) : Option Bool :=
  bS (Fi_properName a0_129) fun r212 =>
  some (!r212)
def Fi_fieldsOk_c1_ans (a0_129 : ByteArray) : Bool → Ans
  | q87 => .val (.sc (.bool q87)) []
theorem Fi_fieldsOk_c1_ok (a0_129 : ByteArray) (r_ : Bool) (h_ : Fi_fieldsOk_c1 a0_129 = some r_) : ev EE (.call 72 [.sc (.string a0_129)] []) = some (Fi_fieldsOk_c1_ans a0_129 r_) := by
  rw [ev_eq]
  simp only [Fi_fieldsOk_c1] at h_
  obtain ⟨r212, h1_, h_⟩ := bS_some h_
  have h1_f := Fi_properName_ok a0_129 _ h1_
  try simp [Fi_properName_ans] at h1_f
  cases h_
  simp (maxSteps := 2000000) (decide := true) [-getElem?_pos, ir72, h1_f, Fi_fieldsOk_c1_ans]
def Lslices_IndexFunc_string_0 : Nat → (List ByteArray) → Int → Int → Option (Int ⊕ Unit)
  | 0, _, _, _ => none
  | n_ + 1, t0_17, t7_11, t8_7 =>
  if t8_7 < t7_11 then
    bS (getI t0_17 t8_7) fun e20 =>
    bS (Fi_fieldsOk_c1 e20) fun r213 =>
    if r213 = true then
      some (.inl t8_7)
    else
      Lslices_IndexFunc_string_0 n_ t0_17 t7_11 (IntKind.i64.wrap (t8_7 + 1))
  else
    some (.inr ())
def Lslices_IndexFunc_string_0_ans (t0_17 : List ByteArray) (t7_11 : Int) (t8_7 : Int) : Int ⊕ Unit → Ans
  | .inl t4_20 => .out .ret { np := 0, tm := [(4, .sc (.int .i64 t4_20))], ar := [], bx := [] }
  | .inr _ => .out (.exit 0) { np := 0, tm := [], ar := [], bx := [] }
theorem Lslices_IndexFunc_string_0_ok : ∀ (n_ : Nat) (t0_17 : List ByteArray) (t7_11 : Int) (t8_7 : Int) (r_ : Int ⊕ Unit), Lslices_IndexFunc_string_0 n_ t0_17 t7_11 t8_7 = some r_ → ev EE (.loop lp80_0 [0, 1, 7, 8] [4] { np := 0, tm := [(0, .ls false (strs t0_17)), (1, .fn 72 []), (7, .sc (.int .i64 t7_11)), (8, .sc (.int .i64 t8_7))], ar := [], bx := [] }) = some (Lslices_IndexFunc_string_0_ans t0_17 t7_11 t8_7 r_) := by
  intro n_
  induction n_ with
  | zero => intro t0_17 t7_11 t8_7 r_ h_; simp only [Lslices_IndexFunc_string_0] at h_; cases h_
  | succ n_ ih_ =>
    intro t0_17 t7_11 t8_7 r_ h_
    rw [ev_loop EE lp80_0.eq_1]
    simp only [Lslices_IndexFunc_string_0] at h_
    rcases bI h_ with ⟨h1_, h_⟩ | ⟨h1_, h_⟩
    · obtain ⟨e20, h2_, h_⟩ := bS_some h_
      obtain ⟨h2_a, h2_b, h2_c, h2_d⟩ := strs_getI  h2_
      try simp [-getElem?_pos] at h2_d
      obtain ⟨r213, h6_, h_⟩ := bS_some h_
      have h6_f := Fi_fieldsOk_c1_ok e20 _ h6_
      try simp [Fi_fieldsOk_c1_ans] at h6_f
      rcases bI h_ with ⟨h7_, h_⟩ | ⟨h7_, h_⟩
      · cases h_
        simp (maxSteps := 2000000) (decide := true) [-getElem?_pos, h1_, h2_a, h2_b, h2_c, h2_d, h6_f, h7_, Lslices_IndexFunc_string_0_ans]
      · have q_ := ih_ t0_17 t7_11 (IntKind.i64.wrap (t8_7 + 1)) _ h_
        rcases r_ with t4_20 | _
        all_goals (try simp [Lslices_IndexFunc_string_0_ans] at q_)
        all_goals simp (maxSteps := 2000000) (decide := true) [-getElem?_pos, h1_, h2_a, h2_b, h2_c, h2_d, h6_f, h7_, q_, Lslices_IndexFunc_string_0_ans]
    · cases h_
      simp (maxSteps := 2000000) (decide := true) [-getElem?_pos, h1_, Lslices_IndexFunc_string_0_ans]
/-- slices.IndexFunc[[]string,string] -/
def Fslices_IndexFunc_string (a0_128 : List ByteArray) : Option Int :=
  bS (Lslices_IndexFunc_string_0 FU a0_128 (a0_128.length : Int) 0) fun r_ => match r_ with
  | .inl r214 =>
    some r214
  | .inr () =>
    some (-1)
def Fslices_IndexFunc_string_ans (a0_128 : List ByteArray) : Int → Ans
  | q88 => .val (.sc (.int .i64 q88)) []
theorem Fslices_IndexFunc_string_ok (a0_128 : List ByteArray) (r_ : Int) (h_ : Fslices_IndexFunc_string a0_128 = some r_) : ev EE (.call 80 [.ls false (strs a0_128), .fn 72 []] []) = some (Fslices_IndexFunc_string_ans a0_128 r_) := by
  rw [ev_eq]
  simp only [Fslices_IndexFunc_string] at h_
  obtain ⟨r_0, h1_, h_⟩ := bS_some h_
  have h1_f := Lslices_IndexFunc_string_0_ok FU a0_128 (a0_128.length : Int) 0 _ h1_
  rcases r_0 with r214 | _
  · try dsimp only at h_
    try simp [Lslices_IndexFunc_string_0_ans] at h1_f
    cases h_
    simp (maxSteps := 2000000) (decide := true) [-getElem?_pos, ir80, h1_f, Fslices_IndexFunc_string_ans]
  · try dsimp only at h_
    try simp [Lslices_IndexFunc_string_0_ans] at h1_f
    cases h_
    simp (maxSteps := 2000000) (decide := true) [-getElem?_pos, ir80, h1_f, Fslices_IndexFunc_string_ans]
/-- slices.ContainsFunc[[]string,string] -/
def Fslices_ContainsFunc_string (a0_127 : List ByteArray) : Option Bool :=
  bS (Fslices_IndexFunc_string a0_127) fun r215 =>
  some (decide (0 ≤ r215))
def Fslices_ContainsFunc_string_ans (a0_127 : List ByteArray) : Bool → Ans
  | q89 => .val (.sc (.bool q89)) []
theorem Fslices_ContainsFunc_string_ok (a0_127 : List ByteArray) (r_ : Bool) (h_ : Fslices_ContainsFunc_string a0_127 = some r_) : ev EE (.call 71 [.ls false (strs a0_127), .fn 72 []] []) = some (Fslices_ContainsFunc_string_ans a0_127 r_) := by
  rw [ev_eq]
  simp only [Fslices_ContainsFunc_string] at h_
  obtain ⟨r215, h1_, h_⟩ := bS_some h_
  have h1_f := Fslices_IndexFunc_string_ok a0_127 _ h1_
  try simp [Fslices_IndexFunc_string_ans] at h1_f
  cases h_
  simp (maxSteps := 2000000) (decide := true) [-getElem?_pos, ir71, h1_f, Fslices_ContainsFunc_string_ans]
/-- impl.fieldsOk -/
def Fi_fieldsOk (a0_108 : Int) (a0_109 : ByteArray) (a0_110 : Int) (a0_111 : List T_Node) : Option Bool :=
  if a0_108 = 2 then
    bS (Fi_properName a0_109) fun r192 =>
    if r192 = true then
      if a0_108 = 10 then
        bS (Fi_within a0_110 (-2147483647) 2147483647) fun r193 =>
        if r193 = true then
          some true
        else
          some (decide (a0_110 = 0))
      else
        some (decide (a0_110 = 0))
    else
      some false
  else
  if a0_108 = 3 then
    bS (Fi_properName a0_109) fun r194 =>
    if r194 = true then
      if a0_108 = 10 then
        bS (Fi_within a0_110 (-2147483647) 2147483647) fun r195 =>
        if r195 = true then
          some true
        else
          some (decide (a0_110 = 0))
      else
        some (decide (a0_110 = 0))
    else
      some false
  else
  if a0_108 = 16 then
    bS (Fi_properName a0_109) fun r196 =>
    if r196 = true then
      if a0_108 = 10 then
        bS (Fi_within a0_110 (-2147483647) 2147483647) fun r197 =>
        if r197 = true then
          some true
        else
          some (decide (a0_110 = 0))
      else
        some (decide (a0_110 = 0))
    else
      some false
  else
  if a0_108 = 26 then
    bS (Fi_properName a0_109) fun r198 =>
    if r198 = true then
      if a0_108 = 10 then
        bS (Fi_within a0_110 (-2147483647) 2147483647) fun r199 =>
        if r199 = true then
          some true
        else
          some (decide (a0_110 = 0))
      else
        some (decide (a0_110 = 0))
    else
      some false
  else
  if a0_108 = 4 then
    bS (Fi_properName a0_109) fun r200 =>
    if r200 = true then
      if a0_108 = 10 then
        bS (Fi_within a0_110 (-2147483647) 2147483647) fun r201 =>
        if r201 = true then
          some true
        else
          some (decide (a0_110 = 0))
      else
        some (decide (a0_110 = 0))
    else
    if a0_109 = (⟨#[112, 114, 111, 116, 111]⟩ : ByteArray) then
      if a0_108 = 10 then
        bS (Fi_within a0_110 (-2147483647) 2147483647) fun r202 =>
        if r202 = true then
          some true
        else
          some (decide (a0_110 = 0))
      else
        some (decide (a0_110 = 0))
    else
      some false
  else
  if a0_108 = 17 then
    bS (Fi_properName a0_109) fun r203 =>
    if r203 = true then
      if a0_108 = 10 then
        bS (Fi_within a0_110 (-2147483647) 2147483647) fun r204 =>
        if r204 = true then
          some true
        else
          some (decide (a0_110 = 0))
      else
        some (decide (a0_110 = 0))
    else
    if a0_109 = (⟨#[112, 114, 111, 116, 111]⟩ : ByteArray) then
      if a0_108 = 10 then
        bS (Fi_within a0_110 (-2147483647) 2147483647) fun r205 =>
        if r205 = true then
          some true
        else
          some (decide (a0_110 = 0))
      else
        some (decide (a0_110 = 0))
    else
      some false
  else
  if a0_108 = 11 then
    if (a0_109.size : Int) ≤ 30 then
      bS (Fi_run_2 a0_109 0) fun r208 =>
      if r208 = (a0_109.size : Int) then
        if a0_108 = 10 then
          bS (Fi_within a0_110 (-2147483647) 2147483647) fun r209 =>
          if r209 = true then
            some true
          else
            some (decide (a0_110 = 0))
        else
          some (decide (a0_110 = 0))
      else
        some false
    else
      some false
  else
  if a0_108 = 27 then
    bS (Fi_namesOf a0_108 a0_109 a0_110 a0_111) fun r211 =>
    bS (Fslices_ContainsFunc_string r211) fun r216 =>
    if r216 = true then
      some false
    else
    if a0_108 = 10 then
      bS (Fi_within a0_110 (-2147483647) 2147483647) fun r217 =>
      if r217 = true then
        some true
      else
        some (decide (a0_110 = 0))
    else
      some (decide (a0_110 = 0))
  else
  if a0_109 = (⟨#[]⟩ : ByteArray) then
    if a0_108 = 10 then
      bS (Fi_within a0_110 (-2147483647) 2147483647) fun r218 =>
      if r218 = true then
        some true
      else
        some (decide (a0_110 = 0))
    else
      some (decide (a0_110 = 0))
  else
    some false
def Fi_fieldsOk_ans (a0_108 : Int) (a0_109 : ByteArray) (a0_110 : Int) (a0_111 : List T_Node) : Bool → Ans
  | q90 => .val (.sc (.bool q90)) []
theorem Fi_fieldsOk_ok (a0_108 : Int) (a0_109 : ByteArray) (a0_110 : Int) (a0_111 : List T_Node) (r_ : Bool) (h_ : Fi_fieldsOk a0_108 a0_109 a0_110 a0_111 = some r_) : ev EE (.call 53 [.ag [.sc (.int .i64 a0_108), .sc (.string a0_109), .sc (.int .i64 a0_110), .ls false (r_Node false a0_111)]] []) = some (Fi_fieldsOk_ans a0_108 a0_109 a0_110 a0_111 r_) := by
  rw [ev_eq]
  simp only [Fi_fieldsOk] at h_
  rcases bI h_ with ⟨h1_, h_⟩ | ⟨h1_, h_⟩
  · obtain ⟨r192, h2_, h_⟩ := bS_some h_
    have h2_f := Fi_properName_ok a0_109 _ h2_
    try simp [Fi_properName_ans] at h2_f
    rcases bI h_ with ⟨h3_, h_⟩ | ⟨h3_, h_⟩
    · rcases bI h_ with ⟨h4_, h_⟩ | ⟨h4_, h_⟩
      · obtain ⟨r193, h5_, h_⟩ := bS_some h_
        have h5_f := Fi_within_ok a0_110 (-2147483647) 2147483647 _ h5_
        try simp [Fi_within_ans] at h5_f
        rcases bI h_ with ⟨h6_, h_⟩ | ⟨h6_, h_⟩
        · cases h_
          simp (maxSteps := 2000000) (decide := true) [-getElem?_pos, ir53, eq_true h1_, h2_f, h3_, eq_true h4_, h5_f, h6_, Fi_fieldsOk_ans]
        · cases h_
          simp (maxSteps := 2000000) (decide := true) [-getElem?_pos, ir53, eq_true h1_, h2_f, h3_, eq_true h4_, h5_f, h6_, Fi_fieldsOk_ans]
      · cases h_
        simp (maxSteps := 2000000) (decide := true) [-getElem?_pos, ir53, eq_true h1_, h2_f, h3_, h4_, Fi_fieldsOk_ans]
    · cases h_
      simp (maxSteps := 2000000) (decide := true) [-getElem?_pos, ir53, eq_true h1_, h2_f, h3_, Fi_fieldsOk_ans]
  · rcases bI h_ with ⟨h2_, h_⟩ | ⟨h2_, h_⟩
    · obtain ⟨r194, h3_, h_⟩ := bS_some h_
      have h3_f := Fi_properName_ok a0_109 _ h3_
      try simp [Fi_properName_ans] at h3_f
      rcases bI h_ with ⟨h4_, h_⟩ | ⟨h4_, h_⟩
      · rcases bI h_ with ⟨h5_, h_⟩ | ⟨h5_, h_⟩
        · obtain ⟨r195, h6_, h_⟩ := bS_some h_
          have h6_f := Fi_within_ok a0_110 (-2147483647) 2147483647 _ h6_
          try simp [Fi_within_ans] at h6_f
          rcases bI h_ with ⟨h7_, h_⟩ | ⟨h7_, h_⟩
          · cases h_
            simp (maxSteps := 2000000) (decide := true) [-getElem?_pos, ir53, h1_, eq_true h2_, h3_f, h4_, eq_true h5_, h6_f, h7_, Fi_fieldsOk_ans]
          · cases h_
            simp (maxSteps := 2000000) (decide := true) [-getElem?_pos, ir53, h1_, eq_true h2_, h3_f, h4_, eq_true h5_, h6_f, h7_, Fi_fieldsOk_ans]
        · cases h_
          simp (maxSteps := 2000000) (decide := true) [-getElem?_pos, ir53, h1_, eq_true h2_, h3_f, h4_, h5_, Fi_fieldsOk_ans]
      · cases h_
        simp (maxSteps := 2000000) (decide := true) [-getElem?_pos, ir53, h1_, eq_true h2_, h3_f, h4_, Fi_fieldsOk_ans]
    · rcases bI h_ with ⟨h3_, h_⟩ | ⟨h3_, h_⟩
      · obtain ⟨r196, h4_, h_⟩ := bS_some h_
        have h4_f := Fi_properName_ok a0_109 _ h4_
        try simp [Fi_properName_ans] at h4_f
        rcases bI h_ with ⟨h5_, h_⟩ | ⟨h5_, h_⟩
        · rcases bI h_ with ⟨h6_, h_⟩ | ⟨h6_, h_⟩
          · obtain ⟨r197, h7_, h_⟩ := bS_some h_
            have h7_f := Fi_within_ok a0_110 (-2147483647) 2147483647 _ h7_
            try simp [Fi_within_ans] at h7_f
            rcases bI h_ with ⟨h8_, h_⟩ | ⟨h8_, h_⟩
            · cases h_
              simp (maxSteps := 2000000) (decide := true) [-getElem?_pos, ir53, h1_, h2_, eq_true h3_, h4_f, h5_, eq_true h6_, h7_f, h8_, Fi_fieldsOk_ans]
            · cases h_
              simp (maxSteps := 2000000) (decide := true) [-getElem?_pos, ir53, h1_, h2_, eq_true h3_, h4_f, h5_, eq_true h6_, h7_f, h8_, Fi_fieldsOk_ans]
          · cases h_
            simp (maxSteps := 2000000) (decide := true) [-getElem?_pos, ir53, h1_, h2_, eq_true h3_, h4_f, h5_, h6_, Fi_fieldsOk_ans]
        · cases h_
          simp (maxSteps := 2000000) (decide := true) [-getElem?_pos, ir53, h1_, h2_, eq_true h3_, h4_f, h5_, Fi_fieldsOk_ans]
      · rcases bI h_ with ⟨h4_, h_⟩ | ⟨h4_, h_⟩
        · obtain ⟨r198, h5_, h_⟩ := bS_some h_
          have h5_f := Fi_properName_ok a0_109 _ h5_
          try simp [Fi_properName_ans] at h5_f
          rcases bI h_ with ⟨h6_, h_⟩ | ⟨h6_, h_⟩
          · rcases bI h_ with ⟨h7_, h_⟩ | ⟨h7_, h_⟩
            · obtain ⟨r199, h8_, h_⟩ := bS_some h_
              have h8_f := Fi_within_ok a0_110 (-2147483647) 2147483647 _ h8_
              try simp [Fi_within_ans] at h8_f
              rcases bI h_ with ⟨h9_, h_⟩ | ⟨h9_, h_⟩
              · cases h_
                simp (maxSteps := 2000000) (decide := true) [-getElem?_pos, ir53, h1_, h2_, h3_, eq_true h4_, h5_f, h6_, eq_true h7_, h8_f, h9_, Fi_fieldsOk_ans]
              · cases h_
                simp (maxSteps := 2000000) (decide := true) [-getElem?_pos, ir53, h1_, h2_, h3_, eq_true h4_, h5_f, h6_, eq_true h7_, h8_f, h9_, Fi_fieldsOk_ans]
            · cases h_
              simp (maxSteps := 2000000) (decide := true) [-getElem?_pos, ir53, h1_, h2_, h3_, eq_true h4_, h5_f, h6_, h7_, Fi_fieldsOk_ans]
          · cases h_
            simp (maxSteps := 2000000) (decide := true) [-getElem?_pos, ir53, h1_, h2_, h3_, eq_true h4_, h5_f, h6_, Fi_fieldsOk_ans]
        · rcases bI h_ with ⟨h5_, h_⟩ | ⟨h5_, h_⟩
          · obtain ⟨r200, h6_, h_⟩ := bS_some h_
            have h6_f := Fi_properName_ok a0_109 _ h6_
            try simp [Fi_properName_ans] at h6_f
            rcases bI h_ with ⟨h7_, h_⟩ | ⟨h7_, h_⟩
            · rcases bI h_ with ⟨h8_, h_⟩ | ⟨h8_, h_⟩
              · obtain ⟨r201, h9_, h_⟩ := bS_some h_
                have h9_f := Fi_within_ok a0_110 (-2147483647) 2147483647 _ h9_
                try simp [Fi_within_ans] at h9_f
                rcases bI h_ with ⟨h10_, h_⟩ | ⟨h10_, h_⟩
                · cases h_
                  simp (maxSteps := 2000000) (decide := true) [-getElem?_pos, ir53, h1_, h2_, h3_, h4_, eq_true h5_, h6_f, h7_, eq_true h8_, h9_f, h10_, Fi_fieldsOk_ans]
                · cases h_
                  simp (maxSteps := 2000000) (decide := true) [-getElem?_pos, ir53, h1_, h2_, h3_, h4_, eq_true h5_, h6_f, h7_, eq_true h8_, h9_f, h10_, Fi_fieldsOk_ans]
              · cases h_
                simp (maxSteps := 2000000) (decide := true) [-getElem?_pos, ir53, h1_, h2_, h3_, h4_, eq_true h5_, h6_f, h7_, h8_, Fi_fieldsOk_ans]
            · rcases bI h_ with ⟨h8_, h_⟩ | ⟨h8_, h_⟩
              · rcases bI h_ with ⟨h9_, h_⟩ | ⟨h9_, h_⟩
                · obtain ⟨r202, h10_, h_⟩ := bS_some h_
                  have h10_f := Fi_within_ok a0_110 (-2147483647) 2147483647 _ h10_
                  try simp [Fi_within_ans] at h10_f
                  rcases bI h_ with ⟨h11_, h_⟩ | ⟨h11_, h_⟩
                  · cases h_
                    simp (maxSteps := 2000000) (decide := true) [-getElem?_pos, ir53, h1_, h2_, h3_, h4_, eq_true h5_, h6_f, h7_, eq_true h8_, eq_true h9_, h10_f, h11_, Fi_fieldsOk_ans]
                  · cases h_
                    simp (maxSteps := 2000000) (decide := true) [-getElem?_pos, ir53, h1_, h2_, h3_, h4_, eq_true h5_, h6_f, h7_, eq_true h8_, eq_true h9_, h10_f, h11_, Fi_fieldsOk_ans]
                · cases h_
                  simp (maxSteps := 2000000) (decide := true) [-getElem?_pos, ir53, h1_, h2_, h3_, h4_, eq_true h5_, h6_f, h7_, eq_true h8_, h9_, Fi_fieldsOk_ans]
              · cases h_
                simp (maxSteps := 2000000) (decide := true) [-getElem?_pos, ir53, h1_, h2_, h3_, h4_, eq_true h5_, h6_f, h7_, h8_, Fi_fieldsOk_ans]
          · rcases bI h_ with ⟨h6_, h_⟩ | ⟨h6_, h_⟩
            · obtain ⟨r203, h7_, h_⟩ := bS_some h_
              have h7_f := Fi_properName_ok a0_109 _ h7_
              try simp [Fi_properName_ans] at h7_f
              rcases bI h_ with ⟨h8_, h_⟩ | ⟨h8_, h_⟩
              · rcases bI h_ with ⟨h9_, h_⟩ | ⟨h9_, h_⟩
                · obtain ⟨r204, h10_, h_⟩ := bS_some h_
                  have h10_f := Fi_within_ok a0_110 (-2147483647) 2147483647 _ h10_
                  try simp [Fi_within_ans] at h10_f
                  rcases bI h_ with ⟨h11_, h_⟩ | ⟨h11_, h_⟩
                  · cases h_
                    simp (maxSteps := 2000000) (decide := true) [-getElem?_pos, ir53, h1_, h2_, h3_, h4_, h5_, eq_true h6_, h7_f, h8_, eq_true h9_, h10_f, h11_, Fi_fieldsOk_ans]
                  · cases h_
                    simp (maxSteps := 2000000) (decide := true) [-getElem?_pos, ir53, h1_, h2_, h3_, h4_, h5_, eq_true h6_, h7_f, h8_, eq_true h9_, h10_f, h11_, Fi_fieldsOk_ans]
                · cases h_
                  simp (maxSteps := 2000000) (decide := true) [-getElem?_pos, ir53, h1_, h2_, h3_, h4_, h5_, eq_true h6_, h7_f, h8_, h9_, Fi_fieldsOk_ans]
              · rcases bI h_ with ⟨h9_, h_⟩ | ⟨h9_, h_⟩
                · rcases bI h_ with ⟨h10_, h_⟩ | ⟨h10_, h_⟩
                  · obtain ⟨r205, h11_, h_⟩ := bS_some h_
                    have h11_f := Fi_within_ok a0_110 (-2147483647) 2147483647 _ h11_
                    try simp [Fi_within_ans] at h11_f
                    rcases bI h_ with ⟨h12_, h_⟩ | ⟨h12_, h_⟩
                    · cases h_
                      simp (maxSteps := 2000000) (decide := true) [-getElem?_pos, ir53, h1_, h2_, h3_, h4_, h5_, eq_true h6_, h7_f, h8_, eq_true h9_, eq_true h10_, h11_f, h12_, Fi_fieldsOk_ans]
                    · cases h_
                      simp (maxSteps := 2000000) (decide := true) [-getElem?_pos, ir53, h1_, h2_, h3_, h4_, h5_, eq_true h6_, h7_f, h8_, eq_true h9_, eq_true h10_, h11_f, h12_, Fi_fieldsOk_ans]
                  · cases h_
                    simp (maxSteps := 2000000) (decide := true) [-getElem?_pos, ir53, h1_, h2_, h3_, h4_, h5_, eq_true h6_, h7_f, h8_, eq_true h9_, h10_, Fi_fieldsOk_ans]
                · cases h_
                  simp (maxSteps := 2000000) (decide := true) [-getElem?_pos, ir53, h1_, h2_, h3_, h4_, h5_, eq_true h6_, h7_f, h8_, h9_, Fi_fieldsOk_ans]
            · rcases bI h_ with ⟨h7_, h_⟩ | ⟨h7_, h_⟩
              · rcases bI h_ with ⟨h8_, h_⟩ | ⟨h8_, h_⟩
                · have h8_s := h8_; try simp at h8_s
                  obtain ⟨r208, h10_, h_⟩ := bS_some h_
                  have h10_f := Fi_run_2_ok a0_109 0 _ h10_
                  try simp [Fi_run_2_ans] at h10_f
                  rcases bI h_ with ⟨h11_, h_⟩ | ⟨h11_, h_⟩
                  · have h11_s := h11_; try simp at h11_s
                    rcases bI h_ with ⟨h13_, h_⟩ | ⟨h13_, h_⟩
                    · obtain ⟨r209, h14_, h_⟩ := bS_some h_
                      have h14_f := Fi_within_ok a0_110 (-2147483647) 2147483647 _ h14_
                      try simp [Fi_within_ans] at h14_f
                      rcases bI h_ with ⟨h15_, h_⟩ | ⟨h15_, h_⟩
                      · cases h_
                        simp (maxSteps := 2000000) (decide := true) [-getElem?_pos, ir53, h1_, h2_, h3_, h4_, h5_, h6_, eq_true h7_, h8_, h8_s, h10_f, eq_true h11_, eq_true h11_s, eq_true h13_, h14_f, h15_, Fi_fieldsOk_ans]
                      · cases h_
                        simp (maxSteps := 2000000) (decide := true) [-getElem?_pos, ir53, h1_, h2_, h3_, h4_, h5_, h6_, eq_true h7_, h8_, h8_s, h10_f, eq_true h11_, eq_true h11_s, eq_true h13_, h14_f, h15_, Fi_fieldsOk_ans]
                    · cases h_
                      simp (maxSteps := 2000000) (decide := true) [-getElem?_pos, ir53, h1_, h2_, h3_, h4_, h5_, h6_, eq_true h7_, h8_, h8_s, h10_f, eq_true h11_, eq_true h11_s, h13_, Fi_fieldsOk_ans]
                  · have h11_s := h11_; try simp at h11_s
                    cases h_
                    simp (maxSteps := 2000000) (decide := true) [-getElem?_pos, ir53, h1_, h2_, h3_, h4_, h5_, h6_, eq_true h7_, h8_, h8_s, h10_f, h11_, h11_s, Fi_fieldsOk_ans]
                · have h8_s := h8_; try simp at h8_s
                  cases h_
                  simp (maxSteps := 2000000) (decide := true) [-getElem?_pos, ir53, h1_, h2_, h3_, h4_, h5_, h6_, eq_true h7_, h8_, h8_s, Fi_fieldsOk_ans]
              · rcases bI h_ with ⟨h8_, h_⟩ | ⟨h8_, h_⟩
                · obtain ⟨r211, h9_, h_⟩ := bS_some h_
                  have h9_f := Fi_namesOf_ok a0_108 a0_109 a0_110 a0_111 _ h9_
                  try simp [Fi_namesOf_ans] at h9_f
                  obtain ⟨r216, h10_, h_⟩ := bS_some h_
                  have h10_f := Fslices_ContainsFunc_string_ok r211 _ h10_
                  try simp [Fslices_ContainsFunc_string_ans] at h10_f
                  rcases bI h_ with ⟨h11_, h_⟩ | ⟨h11_, h_⟩
                  · cases h_
                    simp (maxSteps := 2000000) (decide := true) [-getElem?_pos, ir53, h1_, h2_, h3_, h4_, h5_, h6_, h7_, eq_true h8_, h9_f, h10_f, h11_, Fi_fieldsOk_ans]
                  · rcases bI h_ with ⟨h12_, h_⟩ | ⟨h12_, h_⟩
                    · obtain ⟨r217, h13_, h_⟩ := bS_some h_
                      have h13_f := Fi_within_ok a0_110 (-2147483647) 2147483647 _ h13_
                      try simp [Fi_within_ans] at h13_f
                      rcases bI h_ with ⟨h14_, h_⟩ | ⟨h14_, h_⟩
                      · cases h_
                        simp (maxSteps := 2000000) (decide := true) [-getElem?_pos, ir53, h1_, h2_, h3_, h4_, h5_, h6_, h7_, eq_true h8_, h9_f, h10_f, h11_, eq_true h12_, h13_f, h14_, Fi_fieldsOk_ans]
                      · cases h_
                        simp (maxSteps := 2000000) (decide := true) [-getElem?_pos, ir53, h1_, h2_, h3_, h4_, h5_, h6_, h7_, eq_true h8_, h9_f, h10_f, h11_, eq_true h12_, h13_f, h14_, Fi_fieldsOk_ans]
                    · cases h_
                      simp (maxSteps := 2000000) (decide := true) [-getElem?_pos, ir53, h1_, h2_, h3_, h4_, h5_, h6_, h7_, eq_true h8_, h9_f, h10_f, h11_, h12_, Fi_fieldsOk_ans]
                · rcases bI h_ with ⟨h9_, h_⟩ | ⟨h9_, h_⟩
                  · rcases bI h_ with ⟨h10_, h_⟩ | ⟨h10_, h_⟩
                    · obtain ⟨r218, h11_, h_⟩ := bS_some h_
                      have h11_f := Fi_within_ok a0_110 (-2147483647) 2147483647 _ h11_
                      try simp [Fi_within_ans] at h11_f
                      rcases bI h_ with ⟨h12_, h_⟩ | ⟨h12_, h_⟩
                      · cases h_
                        simp (maxSteps := 2000000) (decide := true) [-getElem?_pos, ir53, h1_, h2_, h3_, h4_, h5_, h6_, h7_, h8_, eq_true h9_, eq_true h10_, h11_f, h12_, Fi_fieldsOk_ans]
                      · cases h_
                        simp (maxSteps := 2000000) (decide := true) [-getElem?_pos, ir53, h1_, h2_, h3_, h4_, h5_, h6_, h7_, h8_, eq_true h9_, eq_true h10_, h11_f, h12_, Fi_fieldsOk_ans]
                    · cases h_
                      simp (maxSteps := 2000000) (decide := true) [-getElem?_pos, ir53, h1_, h2_, h3_, h4_, h5_, h6_, h7_, h8_, eq_true h9_, h10_, Fi_fieldsOk_ans]
                  · cases h_
                    simp (maxSteps := 2000000) (decide := true) [-getElem?_pos, ir53, h1_, h2_, h3_, h4_, h5_, h6_, h7_, h8_, h9_, Fi_fieldsOk_ans]
end Go.Pv

namespace Go.Pv
set_option maxRecDepth 100000
set_option maxHeartbeats 40000000
set_option linter.unusedSimpArgs false
set_option linter.unusedVariables false
def Fi_allOk_ans (a0_65 : Int) (a0_66 : ByteArray) (a0_67 : Int) (a0_68 : List T_Node) : Bool → Ans
  | q91 => .val (.sc (.bool q91)) []
def Pi_allOk (Ri_allOk : Int → ByteArray → Int → (List T_Node) → Option Bool) : Prop := ∀ (a0_65 : Int) (a0_66 : ByteArray) (a0_67 : Int) (a0_68 : List T_Node) (r_ : Bool), Ri_allOk a0_65 a0_66 a0_67 a0_68 = some r_ → ev EE (.call 35 [.ag [.sc (.int .i64 a0_65), .sc (.string a0_66), .sc (.int .i64 a0_67), .ls false (r_Node false a0_68)]] []) = some (Fi_allOk_ans a0_65 a0_66 a0_67 a0_68 r_)
/-- impl.allOk$1 -/
def Fi_allOk_c1 (Ri_allOk : Int → ByteArray → Int → (List T_Node) → Option Bool) (a0_132 : Int) (a0_133 : ByteArray) (a0_134 : Int) (a0_135 : List T_Node) : Option Bool :=
  bS (Ri_allOk a0_132 a0_133 a0_134 a0_135) fun r220 =>
  some (!r220)
def Fi_allOk_c1_ans (a0_132 : Int) (a0_133 : ByteArray) (a0_134 : Int) (a0_135 : List T_Node) : Bool → Ans
  | q92 => .val (.sc (.bool q92)) []
theorem Fi_allOk_c1_ok (Ri_allOk : Int → ByteArray → Int → (List T_Node) → Option Bool) (hRi_allOk : Pi_allOk Ri_allOk) (a0_132 : Int) (a0_133 : ByteArray) (a0_134 : Int) (a0_135 : List T_Node) (r_ : Bool) (h_ : Fi_allOk_c1 Ri_allOk a0_132 a0_133 a0_134 a0_135 = some r_) : ev EE (.call 55 [.ag [.sc (.int .i64 a0_132), .sc (.string a0_133), .sc (.int .i64 a0_134), .ls false (r_Node false a0_135)]] []) = some (Fi_allOk_c1_ans a0_132 a0_133 a0_134 a0_135 r_) := by
  rw [ev_eq]
  simp only [Fi_allOk_c1] at h_
  obtain ⟨r220, h1_, h_⟩ := bS_some h_
  have h1_f := hRi_allOk a0_132 a0_133 a0_134 a0_135 _ h1_
  try simp [Fi_allOk_ans] at h1_f
  cases h_
  simp (maxSteps := 2000000) (decide := true) [-getElem?_pos, ir55, h1_f, Fi_allOk_c1_ans]
def Lslices_IndexFunc_Node_0_4 (Ri_allOk : Int → ByteArray → Int → (List T_Node) → Option Bool) : Nat → (List T_Node) → Int → Int → Option (Int ⊕ Unit)
  | 0, _, _, _ => none
  | n_ + 1, t0_18, t7_12, t8_8 =>
  if t8_8 < t7_12 then
    bS (getI t0_18 t8_8) fun e21 =>
    bS (Fi_allOk_c1 Ri_allOk e21.op_ e21.s_ e21.n_ e21.kids_) fun r221 =>
    if r221 = true then
      some (.inl t8_8)
    else
      Lslices_IndexFunc_Node_0_4 Ri_allOk n_ t0_18 t7_12 (IntKind.i64.wrap (t8_8 + 1))
  else
    some (.inr ())
def Lslices_IndexFunc_Node_0_4_ans (t0_18 : List T_Node) (t7_12 : Int) (t8_8 : Int) : Int ⊕ Unit → Ans
  | .inl t4_21 => .out .ret { np := 0, tm := [(4, .sc (.int .i64 t4_21))], ar := [], bx := [] }
  | .inr _ => .out (.exit 0) { np := 0, tm := [], ar := [], bx := [] }
theorem Lslices_IndexFunc_Node_0_4_ok (Ri_allOk : Int → ByteArray → Int → (List T_Node) → Option Bool) (hRi_allOk : Pi_allOk Ri_allOk) : ∀ (n_ : Nat) (t0_18 : List T_Node) (t7_12 : Int) (t8_8 : Int) (r_ : Int ⊕ Unit), Lslices_IndexFunc_Node_0_4 Ri_allOk n_ t0_18 t7_12 t8_8 = some r_ → ev EE (.loop lp73_0 [0, 1, 7, 8] [4] { np := 0, tm := [(0, .ls false (r_Node false t0_18)), (1, .fn 55 []), (7, .sc (.int .i64 t7_12)), (8, .sc (.int .i64 t8_8))], ar := [], bx := [] }) = some (Lslices_IndexFunc_Node_0_4_ans t0_18 t7_12 t8_8 r_) := by
  intro n_
  induction n_ with
  | zero => intro t0_18 t7_12 t8_8 r_ h_; simp only [Lslices_IndexFunc_Node_0_4] at h_; cases h_
  | succ n_ ih_ =>
    intro t0_18 t7_12 t8_8 r_ h_
    rw [ev_loop EE lp73_0.eq_1]
    simp only [Lslices_IndexFunc_Node_0_4] at h_
    rcases bI h_ with ⟨h1_, h_⟩ | ⟨h1_, h_⟩
    · obtain ⟨e21, h2_, h_⟩ := bS_some h_
      obtain ⟨h2_a, h2_b, h2_c, h2_d⟩ := r_Node_getI (o := false)  h2_
      try simp [-getElem?_pos] at h2_d
      obtain ⟨r221, h6_, h_⟩ := bS_some h_
      have h6_f := Fi_allOk_c1_ok Ri_allOk hRi_allOk e21.op_ e21.s_ e21.n_ e21.kids_ _ h6_
      try simp [Fi_allOk_c1_ans] at h6_f
      rcases bI h_ with ⟨h7_, h_⟩ | ⟨h7_, h_⟩
      · cases h_
        simp (maxSteps := 2000000) (decide := true) [-getElem?_pos, h1_, h2_a, h2_b, h2_c, h2_d, h6_f, h7_, Lslices_IndexFunc_Node_0_4_ans]
      · have q_ := ih_ t0_18 t7_12 (IntKind.i64.wrap (t8_8 + 1)) _ h_
        rcases r_ with t4_21 | _
        all_goals (try simp [Lslices_IndexFunc_Node_0_4_ans] at q_)
        all_goals simp (maxSteps := 2000000) (decide := true) [-getElem?_pos, h1_, h2_a, h2_b, h2_c, h2_d, h6_f, h7_, q_, Lslices_IndexFunc_Node_0_4_ans]
    · cases h_
      simp (maxSteps := 2000000) (decide := true) [-getElem?_pos, h1_, Lslices_IndexFunc_Node_0_4_ans]
/-- impl.Node] -/
def Fslices_IndexFunc_Node_4 (Ri_allOk : Int → ByteArray → Int → (List T_Node) → Option Bool) (a0_131 : List T_Node) : Option Int :=
  bS (Lslices_IndexFunc_Node_0_4 Ri_allOk FU a0_131 (a0_131.length : Int) 0) fun r_ => match r_ with
  | .inl r222 =>
    some r222
  | .inr () =>
    some (-1)
def Fslices_IndexFunc_Node_4_ans (a0_131 : List T_Node) : Int → Ans
  | q93 => .val (.sc (.int .i64 q93)) []
theorem Fslices_IndexFunc_Node_4_ok (Ri_allOk : Int → ByteArray → Int → (List T_Node) → Option Bool) (hRi_allOk : Pi_allOk Ri_allOk) (a0_131 : List T_Node) (r_ : Int) (h_ : Fslices_IndexFunc_Node_4 Ri_allOk a0_131 = some r_) : ev EE (.call 73 [.ls false (r_Node false a0_131), .fn 55 []] []) = some (Fslices_IndexFunc_Node_4_ans a0_131 r_) := by
  rw [ev_eq]
  simp only [Fslices_IndexFunc_Node_4] at h_
  obtain ⟨r_0, h1_, h_⟩ := bS_some h_
  have h1_f := Lslices_IndexFunc_Node_0_4_ok Ri_allOk hRi_allOk FU a0_131 (a0_131.length : Int) 0 _ h1_
  rcases r_0 with r222 | _
  · try dsimp only at h_
    try simp [Lslices_IndexFunc_Node_0_4_ans] at h1_f
    cases h_
    simp (maxSteps := 2000000) (decide := true) [-getElem?_pos, ir73, h1_f, Fslices_IndexFunc_Node_4_ans]
  · try dsimp only at h_
    try simp [Lslices_IndexFunc_Node_0_4_ans] at h1_f
    cases h_
    simp (maxSteps := 2000000) (decide := true) [-getElem?_pos, ir73, h1_f, Fslices_IndexFunc_Node_4_ans]
/-- impl.Node] -/
def Fslices_ContainsFunc_Node_4 (Ri_allOk : Int → ByteArray → Int → (List T_Node) → Option Bool) (a0_130 : List T_Node) : Option Bool :=
  bS (Fslices_IndexFunc_Node_4 Ri_allOk a0_130) fun r223 =>
  some (decide (0 ≤ r223))
def Fslices_ContainsFunc_Node_4_ans (a0_130 : List T_Node) : Bool → Ans
  | q94 => .val (.sc (.bool q94)) []
theorem Fslices_ContainsFunc_Node_4_ok (Ri_allOk : Int → ByteArray → Int → (List T_Node) → Option Bool) (hRi_allOk : Pi_allOk Ri_allOk) (a0_130 : List T_Node) (r_ : Bool) (h_ : Fslices_ContainsFunc_Node_4 Ri_allOk a0_130 = some r_) : ev EE (.call 54 [.ls false (r_Node false a0_130), .fn 55 []] []) = some (Fslices_ContainsFunc_Node_4_ans a0_130 r_) := by
  rw [ev_eq]
  simp only [Fslices_ContainsFunc_Node_4] at h_
  obtain ⟨r223, h1_, h_⟩ := bS_some h_
  have h1_f := Fslices_IndexFunc_Node_4_ok Ri_allOk hRi_allOk a0_130 _ h1_
  try simp [Fslices_IndexFunc_Node_4_ans] at h1_f
  cases h_
  simp (maxSteps := 2000000) (decide := true) [-getElem?_pos, ir54, h1_f, Fslices_ContainsFunc_Node_4_ans]
/-- impl.allOk -/
def Si_allOk (Ri_allOk : Int → ByteArray → Int → (List T_Node) → Option Bool) (a0_65 : Int) (a0_66 : ByteArray) (a0_67 : Int) (a0_68 : List T_Node) : Option Bool :=
  bS (Fi_kidsOk a0_65 a0_66 a0_67 a0_68) fun r179 =>
  if r179 = true then
    bS (Fi_fieldsOk a0_65 a0_66 a0_67 a0_68) fun r219 =>
    if r219 = true then
      bS (Fslices_ContainsFunc_Node_4 Ri_allOk a0_68) fun r224 =>
      some (!r224)
    else
      some false
  else
    some false
theorem Si_allOk_ok (Ri_allOk : Int → ByteArray → Int → (List T_Node) → Option Bool) (hRi_allOk : Pi_allOk Ri_allOk) (a0_65 : Int) (a0_66 : ByteArray) (a0_67 : Int) (a0_68 : List T_Node) (r_ : Bool) (h_ : Si_allOk Ri_allOk a0_65 a0_66 a0_67 a0_68 = some r_) : ev EE (.call 35 [.ag [.sc (.int .i64 a0_65), .sc (.string a0_66), .sc (.int .i64 a0_67), .ls false (r_Node false a0_68)]] []) = some (Fi_allOk_ans a0_65 a0_66 a0_67 a0_68 r_) := by
  rw [ev_eq]
  simp only [Si_allOk] at h_
  obtain ⟨r179, h1_, h_⟩ := bS_some h_
  have h1_f := Fi_kidsOk_ok a0_65 a0_66 a0_67 a0_68 _ h1_
  try simp [Fi_kidsOk_ans] at h1_f
  rcases bI h_ with ⟨h2_, h_⟩ | ⟨h2_, h_⟩
  · obtain ⟨r219, h3_, h_⟩ := bS_some h_
    have h3_f := Fi_fieldsOk_ok a0_65 a0_66 a0_67 a0_68 _ h3_
    try simp [Fi_fieldsOk_ans] at h3_f
    rcases bI h_ with ⟨h4_, h_⟩ | ⟨h4_, h_⟩
    · obtain ⟨r224, h5_, h_⟩ := bS_some h_
      have h5_f := Fslices_ContainsFunc_Node_4_ok Ri_allOk hRi_allOk a0_68 _ h5_
      try simp [Fslices_ContainsFunc_Node_4_ans] at h5_f
      cases h_
      simp (maxSteps := 2000000) (decide := true) [-getElem?_pos, ir35, h1_f, h2_, h3_f, h4_, h5_f, Fi_allOk_ans]
    · cases h_
      simp (maxSteps := 2000000) (decide := true) [-getElem?_pos, ir35, h1_f, h2_, h3_f, h4_, Fi_allOk_ans]
  · cases h_
    simp (maxSteps := 2000000) (decide := true) [-getElem?_pos, ir35, h1_f, h2_, Fi_allOk_ans]
def Fi_allOkn : Nat → Int → ByteArray → Int → (List T_Node) → Option Bool
  | 0 => fun _ _ _ _ => none
  | n_ + 1 => Si_allOk (Fi_allOkn n_)
def Fi_allOk (a0_65 : Int) (a0_66 : ByteArray) (a0_67 : Int) (a0_68 : List T_Node) : Option Bool := Fi_allOkn FU a0_65 a0_66 a0_67 a0_68
theorem Fi_allOkn_ok : ∀ (n_ : Nat) (a0_65 : Int) (a0_66 : ByteArray) (a0_67 : Int) (a0_68 : List T_Node) (r_ : Bool), Fi_allOkn n_ a0_65 a0_66 a0_67 a0_68 = some r_ → ev EE (.call 35 [.ag [.sc (.int .i64 a0_65), .sc (.string a0_66), .sc (.int .i64 a0_67), .ls false (r_Node false a0_68)]] []) = some (Fi_allOk_ans a0_65 a0_66 a0_67 a0_68 r_) := by
  intro n_
  induction n_ with
  | zero => intro a0_65 a0_66 a0_67 a0_68 r_ h_; cases h_
  | succ n_ ih_ => intro a0_65 a0_66 a0_67 a0_68 r_ h_; exact Si_allOk_ok (Fi_allOkn n_) ih_ a0_65 a0_66 a0_67 a0_68 r_ h_
theorem Fi_allOk_ok (a0_65 : Int) (a0_66 : ByteArray) (a0_67 : Int) (a0_68 : List T_Node) (r_ : Bool) (h_ : Fi_allOk a0_65 a0_66 a0_67 a0_68 = some r_) : ev EE (.call 35 [.ag [.sc (.int .i64 a0_65), .sc (.string a0_66), .sc (.int .i64 a0_67), .ls false (r_Node false a0_68)]] []) = some (Fi_allOk_ans a0_65 a0_66 a0_67 a0_68 r_) := Fi_allOkn_ok FU a0_65 a0_66 a0_67 a0_68 r_ h_
def Fi_Size_ans (a0_136 : Int) (a0_137 : ByteArray) (a0_138 : Int) (a0_139 : List T_Node) : Int → Ans
  | q95 => .val (.sc (.int .i64 q95)) []
def Pi_Size (Ri_Size : Int → ByteArray → Int → (List T_Node) → Option Int) : Prop := ∀ (a0_136 : Int) (a0_137 : ByteArray) (a0_138 : Int) (a0_139 : List T_Node) (r_ : Int), Ri_Size a0_136 a0_137 a0_138 a0_139 = some r_ → ev EE (.call 36 [.ag [.sc (.int .i64 a0_136), .sc (.string a0_137), .sc (.int .i64 a0_138), .ls false (r_Node false a0_139)]] []) = some (Fi_Size_ans a0_136 a0_137 a0_138 a0_139 r_)
def Li_Size_0 (Ri_Size : Int → ByteArray → Int → (List T_Node) → Option Int) : Nat → Int → (List T_Node) → Int → Int → Option Int
  | 0, _, _, _, _ => none
  | n_ + 1, t3_14, t7_13, t8_9, t9_1 =>
  if t9_1 < t8_9 then
    bS (getI t7_13 t9_1) fun e22 =>
    bS (Ri_Size e22.op_ e22.s_ e22.n_ e22.kids_) fun r226 =>
    Li_Size_0 Ri_Size n_ (IntKind.i64.wrap (t3_14 + r226)) t7_13 t8_9 (IntKind.i64.wrap (t9_1 + 1))
  else
    some t3_14
def Li_Size_0_ans (t3_14 : Int) (t7_13 : List T_Node) (t8_9 : Int) (t9_1 : Int) : Int → Ans
  | t3_15 => .out (.exit 0) { np := 0, tm := [(3, .sc (.int .i64 t3_15))], ar := [], bx := [] }
theorem Li_Size_0_ok (Ri_Size : Int → ByteArray → Int → (List T_Node) → Option Int) (hRi_Size : Pi_Size Ri_Size) : ∀ (n_ : Nat) (t3_14 : Int) (t7_13 : List T_Node) (t8_9 : Int) (t9_1 : Int) (r_ : Int), Li_Size_0 Ri_Size n_ t3_14 t7_13 t8_9 t9_1 = some r_ → ev EE (.loop lp36_0 [3, 7, 8, 9] [2, 3] { np := 0, tm := [(3, .sc (.int .i64 t3_14)), (7, .ls false (r_Node false t7_13)), (8, .sc (.int .i64 t8_9)), (9, .sc (.int .i64 t9_1))], ar := [], bx := [] }) = some (Li_Size_0_ans t3_14 t7_13 t8_9 t9_1 r_) := by
  intro n_
  induction n_ with
  | zero => intro t3_14 t7_13 t8_9 t9_1 r_ h_; simp only [Li_Size_0] at h_; cases h_
  | succ n_ ih_ =>
    intro t3_14 t7_13 t8_9 t9_1 r_ h_
    rw [ev_loop EE lp36_0.eq_1]
    simp only [Li_Size_0] at h_
    rcases bI h_ with ⟨h1_, h_⟩ | ⟨h1_, h_⟩
    · obtain ⟨e22, h2_, h_⟩ := bS_some h_
      obtain ⟨h2_a, h2_b, h2_c, h2_d⟩ := r_Node_getI (o := false)  h2_
      try simp [-getElem?_pos] at h2_d
      obtain ⟨r226, h6_, h_⟩ := bS_some h_
      have h6_f := hRi_Size e22.op_ e22.s_ e22.n_ e22.kids_ _ h6_
      try simp [Fi_Size_ans] at h6_f
      have q_ := ih_ (IntKind.i64.wrap (t3_14 + r226)) t7_13 t8_9 (IntKind.i64.wrap (t9_1 + 1)) _ h_
      rcases r_ with t3_15
      all_goals (try simp [Li_Size_0_ans] at q_)
      all_goals simp (maxSteps := 2000000) (decide := true) [-getElem?_pos, h1_, h2_a, h2_b, h2_c, h2_d, h6_f, q_, Li_Size_0_ans]
    · cases h_
      simp (maxSteps := 2000000) (decide := true) [-getElem?_pos, h1_, Li_Size_0_ans]
/-- impl.Size -/
def Si_Size (Ri_Size : Int → ByteArray → Int → (List T_Node) → Option Int) (a0_136 : Int) (a0_137 : ByteArray) (a0_138 : Int) (a0_139 : List T_Node) : Option Int :=
  bS (Li_Size_0 Ri_Size FU 1 a0_139 (a0_139.length : Int) 0) fun r227 =>
  some r227
theorem Si_Size_ok (Ri_Size : Int → ByteArray → Int → (List T_Node) → Option Int) (hRi_Size : Pi_Size Ri_Size) (a0_136 : Int) (a0_137 : ByteArray) (a0_138 : Int) (a0_139 : List T_Node) (r_ : Int) (h_ : Si_Size Ri_Size a0_136 a0_137 a0_138 a0_139 = some r_) : ev EE (.call 36 [.ag [.sc (.int .i64 a0_136), .sc (.string a0_137), .sc (.int .i64 a0_138), .ls false (r_Node false a0_139)]] []) = some (Fi_Size_ans a0_136 a0_137 a0_138 a0_139 r_) := by
  rw [ev_eq]
  simp only [Si_Size] at h_
  obtain ⟨r227, h1_, h_⟩ := bS_some h_
  have h1_f := Li_Size_0_ok Ri_Size hRi_Size FU 1 a0_139 (a0_139.length : Int) 0 _ h1_
  try simp [Li_Size_0_ans] at h1_f
  cases h_
  simp (maxSteps := 2000000) (decide := true) [-getElem?_pos, ir36, h1_f, Fi_Size_ans]
def Fi_Sizen : Nat → Int → ByteArray → Int → (List T_Node) → Option Int
  | 0 => fun _ _ _ _ => none
  | n_ + 1 => Si_Size (Fi_Sizen n_)
def Fi_Size (a0_136 : Int) (a0_137 : ByteArray) (a0_138 : Int) (a0_139 : List T_Node) : Option Int := Fi_Sizen FU a0_136 a0_137 a0_138 a0_139
theorem Fi_Sizen_ok : ∀ (n_ : Nat) (a0_136 : Int) (a0_137 : ByteArray) (a0_138 : Int) (a0_139 : List T_Node) (r_ : Int), Fi_Sizen n_ a0_136 a0_137 a0_138 a0_139 = some r_ → ev EE (.call 36 [.ag [.sc (.int .i64 a0_136), .sc (.string a0_137), .sc (.int .i64 a0_138), .ls false (r_Node false a0_139)]] []) = some (Fi_Size_ans a0_136 a0_137 a0_138 a0_139 r_) := by
  intro n_
  induction n_ with
  | zero => intro a0_136 a0_137 a0_138 a0_139 r_ h_; cases h_
  | succ n_ ih_ => intro a0_136 a0_137 a0_138 a0_139 r_ h_; exact Si_Size_ok (Fi_Sizen n_) ih_ a0_136 a0_137 a0_138 a0_139 r_ h_
theorem Fi_Size_ok (a0_136 : Int) (a0_137 : ByteArray) (a0_138 : Int) (a0_139 : List T_Node) (r_ : Int) (h_ : Fi_Size a0_136 a0_137 a0_138 a0_139 = some r_) : ev EE (.call 36 [.ag [.sc (.int .i64 a0_136), .sc (.string a0_137), .sc (.int .i64 a0_138), .ls false (r_Node false a0_139)]] []) = some (Fi_Size_ans a0_136 a0_137 a0_138 a0_139 r_) := Fi_Sizen_ok FU a0_136 a0_137 a0_138 a0_139 r_ h_
def Fi_Deep_ans (a0_140 : Int) (a0_141 : ByteArray) (a0_142 : Int) (a0_143 : List T_Node) : Int → Ans
  | q96 => .val (.sc (.int .i64 q96)) []
def Pi_Deep (Ri_Deep : Int → ByteArray → Int → (List T_Node) → Option Int) : Prop := ∀ (a0_140 : Int) (a0_141 : ByteArray) (a0_142 : Int) (a0_143 : List T_Node) (r_ : Int), Ri_Deep a0_140 a0_141 a0_142 a0_143 = some r_ → ev EE (.call 37 [.ag [.sc (.int .i64 a0_140), .sc (.string a0_141), .sc (.int .i64 a0_142), .ls false (r_Node false a0_143)]] []) = some (Fi_Deep_ans a0_140 a0_141 a0_142 a0_143 r_)
def Li_Deep_0 (Ri_Deep : Int → ByteArray → Int → (List T_Node) → Option Int) : Nat → Int → (List T_Node) → Int → Int → Option Int
  | 0, _, _, _, _ => none
  | n_ + 1, t3_16, t7_14, t8_10, t9_2 =>
  if t9_2 < t8_10 then
    bS (getI t7_14 t9_2) fun e23 =>
    bS (Ri_Deep e23.op_ e23.s_ e23.n_ e23.kids_) fun r229 =>
    if t3_16 < r229 then
      Li_Deep_0 Ri_Deep n_ r229 t7_14 t8_10 (IntKind.i64.wrap (t9_2 + 1))
    else
      Li_Deep_0 Ri_Deep n_ t3_16 t7_14 t8_10 (IntKind.i64.wrap (t9_2 + 1))
  else
    some t3_16
def Li_Deep_0_ans (t3_16 : Int) (t7_14 : List T_Node) (t8_10 : Int) (t9_2 : Int) : Int → Ans
  | t3_17 => .out (.exit 0) { np := 0, tm := [(3, .sc (.int .i64 t3_17))], ar := [], bx := [] }
theorem Li_Deep_0_ok (Ri_Deep : Int → ByteArray → Int → (List T_Node) → Option Int) (hRi_Deep : Pi_Deep Ri_Deep) : ∀ (n_ : Nat) (t3_16 : Int) (t7_14 : List T_Node) (t8_10 : Int) (t9_2 : Int) (r_ : Int), Li_Deep_0 Ri_Deep n_ t3_16 t7_14 t8_10 t9_2 = some r_ → ev EE (.loop lp37_0 [3, 7, 8, 9] [2, 3] { np := 0, tm := [(3, .sc (.int .i64 t3_16)), (7, .ls false (r_Node false t7_14)), (8, .sc (.int .i64 t8_10)), (9, .sc (.int .i64 t9_2))], ar := [], bx := [] }) = some (Li_Deep_0_ans t3_16 t7_14 t8_10 t9_2 r_) := by
  intro n_
  induction n_ with
  | zero => intro t3_16 t7_14 t8_10 t9_2 r_ h_; simp only [Li_Deep_0] at h_; cases h_
  | succ n_ ih_ =>
    intro t3_16 t7_14 t8_10 t9_2 r_ h_
    rw [ev_loop EE lp37_0.eq_1]
    simp only [Li_Deep_0] at h_
    rcases bI h_ with ⟨h1_, h_⟩ | ⟨h1_, h_⟩
    · obtain ⟨e23, h2_, h_⟩ := bS_some h_
      obtain ⟨h2_a, h2_b, h2_c, h2_d⟩ := r_Node_getI (o := false)  h2_
      try simp [-getElem?_pos] at h2_d
      obtain ⟨r229, h6_, h_⟩ := bS_some h_
      have h6_f := hRi_Deep e23.op_ e23.s_ e23.n_ e23.kids_ _ h6_
      try simp [Fi_Deep_ans] at h6_f
      rcases bI h_ with ⟨h7_, h_⟩ | ⟨h7_, h_⟩
      · have q_ := ih_ r229 t7_14 t8_10 (IntKind.i64.wrap (t9_2 + 1)) _ h_
        rcases r_ with t3_17
        all_goals (try simp [Li_Deep_0_ans] at q_)
        all_goals simp (maxSteps := 2000000) (decide := true) [-getElem?_pos, h1_, h2_a, h2_b, h2_c, h2_d, h6_f, h7_, q_, Li_Deep_0_ans]
      · have q_ := ih_ t3_16 t7_14 t8_10 (IntKind.i64.wrap (t9_2 + 1)) _ h_
        rcases r_ with t3_17
        all_goals (try simp [Li_Deep_0_ans] at q_)
        all_goals simp (maxSteps := 2000000) (decide := true) [-getElem?_pos, h1_, h2_a, h2_b, h2_c, h2_d, h6_f, h7_, q_, Li_Deep_0_ans]
    · cases h_
      simp (maxSteps := 2000000) (decide := true) [-getElem?_pos, h1_, Li_Deep_0_ans]
/-- impl.Deep -/
def Si_Deep (Ri_Deep : Int → ByteArray → Int → (List T_Node) → Option Int) (a0_140 : Int) (a0_141 : ByteArray) (a0_142 : Int) (a0_143 : List T_Node) : Option Int :=
  bS (Li_Deep_0 Ri_Deep FU 0 a0_143 (a0_143.length : Int) 0) fun r230 =>
  some (IntKind.i64.wrap (r230 + 1))
theorem Si_Deep_ok (Ri_Deep : Int → ByteArray → Int → (List T_Node) → Option Int) (hRi_Deep : Pi_Deep Ri_Deep) (a0_140 : Int) (a0_141 : ByteArray) (a0_142 : Int) (a0_143 : List T_Node) (r_ : Int) (h_ : Si_Deep Ri_Deep a0_140 a0_141 a0_142 a0_143 = some r_) : ev EE (.call 37 [.ag [.sc (.int .i64 a0_140), .sc (.string a0_141), .sc (.int .i64 a0_142), .ls false (r_Node false a0_143)]] []) = some (Fi_Deep_ans a0_140 a0_141 a0_142 a0_143 r_) := by
  rw [ev_eq]
  simp only [Si_Deep] at h_
  obtain ⟨r230, h1_, h_⟩ := bS_some h_
  have h1_f := Li_Deep_0_ok Ri_Deep hRi_Deep FU 0 a0_143 (a0_143.length : Int) 0 _ h1_
  try simp [Li_Deep_0_ans] at h1_f
  cases h_
  simp (maxSteps := 2000000) (decide := true) [-getElem?_pos, ir37, h1_f, Fi_Deep_ans]
def Fi_Deepn : Nat → Int → ByteArray → Int → (List T_Node) → Option Int
  | 0 => fun _ _ _ _ => none
  | n_ + 1 => Si_Deep (Fi_Deepn n_)
def Fi_Deep (a0_140 : Int) (a0_141 : ByteArray) (a0_142 : Int) (a0_143 : List T_Node) : Option Int := Fi_Deepn FU a0_140 a0_141 a0_142 a0_143
theorem Fi_Deepn_ok : ∀ (n_ : Nat) (a0_140 : Int) (a0_141 : ByteArray) (a0_142 : Int) (a0_143 : List T_Node) (r_ : Int), Fi_Deepn n_ a0_140 a0_141 a0_142 a0_143 = some r_ → ev EE (.call 37 [.ag [.sc (.int .i64 a0_140), .sc (.string a0_141), .sc (.int .i64 a0_142), .ls false (r_Node false a0_143)]] []) = some (Fi_Deep_ans a0_140 a0_141 a0_142 a0_143 r_) := by
  intro n_
  induction n_ with
  | zero => intro a0_140 a0_141 a0_142 a0_143 r_ h_; cases h_
  | succ n_ ih_ => intro a0_140 a0_141 a0_142 a0_143 r_ h_; exact Si_Deep_ok (Fi_Deepn n_) ih_ a0_140 a0_141 a0_142 a0_143 r_ h_
theorem Fi_Deep_ok (a0_140 : Int) (a0_141 : ByteArray) (a0_142 : Int) (a0_143 : List T_Node) (r_ : Int) (h_ : Fi_Deep a0_140 a0_141 a0_142 a0_143 = some r_) : ev EE (.call 37 [.ag [.sc (.int .i64 a0_140), .sc (.string a0_141), .sc (.int .i64 a0_142), .ls false (r_Node false a0_143)]] []) = some (Fi_Deep_ans a0_140 a0_141 a0_142 a0_143 r_) := Fi_Deepn_ok FU a0_140 a0_141 a0_142 a0_143 r_ h_
/-- impl.NodeOk -/
def Fi_NodeOk (a0_61 : Int) (a0_62 : ByteArray) (a0_63 : Int) (a0_64 : List T_Node) : Option Bool :=
  if a0_61 = 1 then
    bS (Fi_allOk a0_61 a0_62 a0_63 a0_64) fun r225 =>
    if r225 = true then
      bS (Fi_Size a0_61 a0_62 a0_63 a0_64) fun r228 =>
      if r228 ≤ 200 then
        bS (Fi_Deep a0_61 a0_62 a0_63 a0_64) fun r231 =>
        some (decide (r231 ≤ 20))
      else
        some false
    else
      some false
  else
    some false
def Fi_NodeOk_ans (a0_61 : Int) (a0_62 : ByteArray) (a0_63 : Int) (a0_64 : List T_Node) : Bool → Ans
  | q97 => .val (.sc (.bool q97)) []
theorem Fi_NodeOk_ok (a0_61 : Int) (a0_62 : ByteArray) (a0_63 : Int) (a0_64 : List T_Node) (r_ : Bool) (h_ : Fi_NodeOk a0_61 a0_62 a0_63 a0_64 = some r_) : ev EE (.call 16 [.ag [.sc (.int .i64 a0_61), .sc (.string a0_62), .sc (.int .i64 a0_63), .ls false (r_Node false a0_64)]] []) = some (Fi_NodeOk_ans a0_61 a0_62 a0_63 a0_64 r_) := by
  rw [ev_eq]
  simp only [Fi_NodeOk] at h_
  rcases bI h_ with ⟨h1_, h_⟩ | ⟨h1_, h_⟩
  · obtain ⟨r225, h2_, h_⟩ := bS_some h_
    have h2_f := Fi_allOk_ok a0_61 a0_62 a0_63 a0_64 _ h2_
    try simp [Fi_allOk_ans] at h2_f
    rcases bI h_ with ⟨h3_, h_⟩ | ⟨h3_, h_⟩
    · obtain ⟨r228, h4_, h_⟩ := bS_some h_
      have h4_f := Fi_Size_ok a0_61 a0_62 a0_63 a0_64 _ h4_
      try simp [Fi_Size_ans] at h4_f
      rcases bI h_ with ⟨h5_, h_⟩ | ⟨h5_, h_⟩
      · obtain ⟨r231, h6_, h_⟩ := bS_some h_
        have h6_f := Fi_Deep_ok a0_61 a0_62 a0_63 a0_64 _ h6_
        try simp [Fi_Deep_ans] at h6_f
        cases h_
        simp (maxSteps := 2000000) (decide := true) [-getElem?_pos, ir16, eq_true h1_, h2_f, h3_, h4_f, h5_, h6_f, Fi_NodeOk_ans]
      · cases h_
        simp (maxSteps := 2000000) (decide := true) [-getElem?_pos, ir16, eq_true h1_, h2_f, h3_, h4_f, h5_, Fi_NodeOk_ans]
    · cases h_
      simp (maxSteps := 2000000) (decide := true) [-getElem?_pos, ir16, eq_true h1_, h2_f, h3_, Fi_NodeOk_ans]
  · cases h_
    simp (maxSteps := 2000000) (decide := true) [-getElem?_pos, ir16, h1_, Fi_NodeOk_ans]
def Fw_eqNode_ans (a0_144 : Int) (a0_145 : ByteArray) (a0_146 : Int) (a0_147 : List T_Node) (a1_18 : Int) (a1_19 : ByteArray) (a1_20 : Int) (a1_21 : List T_Node) : Bool → Ans
  | q98 => .val (.sc (.bool q98)) []
def Pw_eqNode (Rw_eqNode : Int → ByteArray → Int → (List T_Node) → Int → ByteArray → Int → (List T_Node) → Option Bool) : Prop := ∀ (a0_144 : Int) (a0_145 : ByteArray) (a0_146 : Int) (a0_147 : List T_Node) (a1_18 : Int) (a1_19 : ByteArray) (a1_20 : Int) (a1_21 : List T_Node) (r_ : Bool), Rw_eqNode a0_144 a0_145 a0_146 a0_147 a1_18 a1_19 a1_20 a1_21 = some r_ → ev EE (.call 11 [.ag [.sc (.int .i64 a0_144), .sc (.string a0_145), .sc (.int .i64 a0_146), .ls false (r_Node false a0_147)], .ag [.sc (.int .i64 a1_18), .sc (.string a1_19), .sc (.int .i64 a1_20), .ls false (r_Node false a1_21)]] []) = some (Fw_eqNode_ans a0_144 a0_145 a0_146 a0_147 a1_18 a1_19 a1_20 a1_21 r_)
def Lw_eqNodeS_0 (Rw_eqNode : Int → ByteArray → Int → (List T_Node) → Int → ByteArray → Int → (List T_Node) → Option Bool) : Nat → (List T_Node) → (List T_Node) → Int → Option (Bool ⊕ Unit)
  | 0, _, _, _ => none
  | n_ + 1, t0_19, t1_14, t5_7 =>
  if t5_7 < (t0_19.length : Int) then
    bS (getI t0_19 t5_7) fun e24 =>
    bS (getI t1_14 t5_7) fun e25 =>
    bS (Rw_eqNode e24.op_ e24.s_ e24.n_ e24.kids_ e25.op_ e25.s_ e25.n_ e25.kids_) fun r233 =>
    if r233 = true then
      Lw_eqNodeS_0 Rw_eqNode n_ t0_19 t1_14 (IntKind.i64.wrap (t5_7 + 1))
    else
      some (.inl false)
  else
    some (.inr ())
def Lw_eqNodeS_0_ans (t0_19 : List T_Node) (t1_14 : List T_Node) (t5_7 : Int) : Bool ⊕ Unit → Ans
  | .inl t4_22 => .out .ret { np := 0, tm := [(4, .sc (.bool t4_22))], ar := [], bx := [] }
  | .inr _ => .out (.exit 0) { np := 0, tm := [], ar := [], bx := [] }
theorem Lw_eqNodeS_0_ok (Rw_eqNode : Int → ByteArray → Int → (List T_Node) → Int → ByteArray → Int → (List T_Node) → Option Bool) (hRw_eqNode : Pw_eqNode Rw_eqNode) : ∀ (n_ : Nat) (t0_19 : List T_Node) (t1_14 : List T_Node) (t5_7 : Int) (r_ : Bool ⊕ Unit), Lw_eqNodeS_0 Rw_eqNode n_ t0_19 t1_14 t5_7 = some r_ → ev EE (.loop lp19_0 [0, 1, 5] [4] { np := 0, tm := [(0, .ls false (r_Node false t0_19)), (1, .ls false (r_Node false t1_14)), (5, .sc (.int .i64 t5_7))], ar := [], bx := [] }) = some (Lw_eqNodeS_0_ans t0_19 t1_14 t5_7 r_) := by
  intro n_
  induction n_ with
  | zero => intro t0_19 t1_14 t5_7 r_ h_; simp only [Lw_eqNodeS_0] at h_; cases h_
  | succ n_ ih_ =>
    intro t0_19 t1_14 t5_7 r_ h_
    rw [ev_loop EE lp19_0.eq_1]
    simp only [Lw_eqNodeS_0] at h_
    rcases bI h_ with ⟨h1_, h_⟩ | ⟨h1_, h_⟩
    · have h1_s := h1_; try simp at h1_s
      obtain ⟨e24, h3_, h_⟩ := bS_some h_
      obtain ⟨h3_a, h3_b, h3_c, h3_d⟩ := r_Node_getI (o := false)  h3_
      try simp [-getElem?_pos] at h3_d
      obtain ⟨e25, h7_, h_⟩ := bS_some h_
      obtain ⟨h7_a, h7_b, h7_c, h7_d⟩ := r_Node_getI (o := false)  h7_
      try simp [-getElem?_pos] at h7_d
      obtain ⟨r233, h11_, h_⟩ := bS_some h_
      have h11_f := hRw_eqNode e24.op_ e24.s_ e24.n_ e24.kids_ e25.op_ e25.s_ e25.n_ e25.kids_ _ h11_
      try simp [Fw_eqNode_ans] at h11_f
      rcases bI h_ with ⟨h12_, h_⟩ | ⟨h12_, h_⟩
      · have q_ := ih_ t0_19 t1_14 (IntKind.i64.wrap (t5_7 + 1)) _ h_
        rcases r_ with t4_22 | _
        all_goals (try simp [Lw_eqNodeS_0_ans] at q_)
        all_goals simp (maxSteps := 2000000) (decide := true) [-getElem?_pos, h1_, h1_s, h3_a, h3_b, h3_c, h3_d, h7_a, h7_b, h7_c, h7_d, h11_f, h12_, q_, Lw_eqNodeS_0_ans]
      · cases h_
        simp (maxSteps := 2000000) (decide := true) [-getElem?_pos, h1_, h1_s, h3_a, h3_b, h3_c, h3_d, h7_a, h7_b, h7_c, h7_d, h11_f, h12_, Lw_eqNodeS_0_ans]
    · have h1_s := h1_; try simp at h1_s
      cases h_
      simp (maxSteps := 2000000) (decide := true) [-getElem?_pos, h1_, h1_s, Lw_eqNodeS_0_ans]
/-- laws.eqNodeS -/
def Fw_eqNodeS (Rw_eqNode : Int → ByteArray → Int → (List T_Node) → Int → ByteArray → Int → (List T_Node) → Option Bool) (a0_148 : List T_Node) (a1_22 : List T_Node) : Option Bool :=
  if (a0_148.length : Int) = (a1_22.length : Int) then
    bS (Lw_eqNodeS_0 Rw_eqNode FU a0_148 a1_22 0) fun r_ => match r_ with
    | .inl r234 =>
      some r234
    | .inr () =>
      some true
  else
    some false
def Fw_eqNodeS_ans (a0_148 : List T_Node) (a1_22 : List T_Node) : Bool → Ans
  | q99 => .val (.sc (.bool q99)) []
theorem Fw_eqNodeS_ok (Rw_eqNode : Int → ByteArray → Int → (List T_Node) → Int → ByteArray → Int → (List T_Node) → Option Bool) (hRw_eqNode : Pw_eqNode Rw_eqNode) (a0_148 : List T_Node) (a1_22 : List T_Node) (r_ : Bool) (h_ : Fw_eqNodeS Rw_eqNode a0_148 a1_22 = some r_) : ev EE (.call 19 [.ls false (r_Node false a0_148), .ls false (r_Node false a1_22)] []) = some (Fw_eqNodeS_ans a0_148 a1_22 r_) := by
  rw [ev_eq]
  simp only [Fw_eqNodeS] at h_
  rcases bI h_ with ⟨h1_, h_⟩ | ⟨h1_, h_⟩
  · have h1_s := h1_; try simp at h1_s
    obtain ⟨r_2, h3_, h_⟩ := bS_some h_
    have h3_f := Lw_eqNodeS_0_ok Rw_eqNode hRw_eqNode FU a0_148 a1_22 0 _ h3_
    rcases r_2 with r234 | _
    · try dsimp only at h_
      try simp [Lw_eqNodeS_0_ans] at h3_f
      cases h_
      simp (maxSteps := 2000000) (decide := true) [-getElem?_pos, ir19, eq_true h1_, eq_true h1_s, h3_f, Fw_eqNodeS_ans]
    · try dsimp only at h_
      try simp [Lw_eqNodeS_0_ans] at h3_f
      cases h_
      simp (maxSteps := 2000000) (decide := true) [-getElem?_pos, ir19, eq_true h1_, eq_true h1_s, h3_f, Fw_eqNodeS_ans]
  · have h1_s := h1_; try simp at h1_s
    cases h_
    simp (maxSteps := 2000000) (decide := true) [-getElem?_pos, ir19, h1_, h1_s, Fw_eqNodeS_ans]
/-- laws.eqNode -/
def Sw_eqNode (Rw_eqNode : Int → ByteArray → Int → (List T_Node) → Int → ByteArray → Int → (List T_Node) → Option Bool) (a0_144 : Int) (a0_145 : ByteArray) (a0_146 : Int) (a0_147 : List T_Node) (a1_18 : Int) (a1_19 : ByteArray) (a1_20 : Int) (a1_21 : List T_Node) : Option Bool :=
  if a0_144 = a1_18 then
    if a0_145 = a1_19 then
      if a0_146 = a1_20 then
        bS (Fw_eqNodeS Rw_eqNode a0_147 a1_21) fun r235 =>
        if r235 = true then
          some true
        else
          some false
      else
        some false
    else
      some false
  else
    some false
theorem Sw_eqNode_ok (Rw_eqNode : Int → ByteArray → Int → (List T_Node) → Int → ByteArray → Int → (List T_Node) → Option Bool) (hRw_eqNode : Pw_eqNode Rw_eqNode) (a0_144 : Int) (a0_145 : ByteArray) (a0_146 : Int) (a0_147 : List T_Node) (a1_18 : Int) (a1_19 : ByteArray) (a1_20 : Int) (a1_21 : List T_Node) (r_ : Bool) (h_ : Sw_eqNode Rw_eqNode a0_144 a0_145 a0_146 a0_147 a1_18 a1_19 a1_20 a1_21 = some r_) : ev EE (.call 11 [.ag [.sc (.int .i64 a0_144), .sc (.string a0_145), .sc (.int .i64 a0_146), .ls false (r_Node false a0_147)], .ag [.sc (.int .i64 a1_18), .sc (.string a1_19), .sc (.int .i64 a1_20), .ls false (r_Node false a1_21)]] []) = some (Fw_eqNode_ans a0_144 a0_145 a0_146 a0_147 a1_18 a1_19 a1_20 a1_21 r_) := by
  rw [ev_eq]
  simp only [Sw_eqNode] at h_
  rcases bI h_ with ⟨h1_, h_⟩ | ⟨h1_, h_⟩
  · rcases bI h_ with ⟨h2_, h_⟩ | ⟨h2_, h_⟩
    · rcases bI h_ with ⟨h3_, h_⟩ | ⟨h3_, h_⟩
      · obtain ⟨r235, h4_, h_⟩ := bS_some h_
        have h4_f := Fw_eqNodeS_ok Rw_eqNode hRw_eqNode a0_147 a1_21 _ h4_
        try simp [Fw_eqNodeS_ans] at h4_f
        rcases bI h_ with ⟨h5_, h_⟩ | ⟨h5_, h_⟩
        · cases h_
          simp (maxSteps := 2000000) (decide := true) [-getElem?_pos, ir11, eq_true h1_, eq_true h2_, eq_true h3_, h4_f, h5_, Fw_eqNode_ans]
        · cases h_
          simp (maxSteps := 2000000) (decide := true) [-getElem?_pos, ir11, eq_true h1_, eq_true h2_, eq_true h3_, h4_f, h5_, Fw_eqNode_ans]
      · cases h_
        simp (maxSteps := 2000000) (decide := true) [-getElem?_pos, ir11, eq_true h1_, eq_true h2_, h3_, Fw_eqNode_ans]
    · cases h_
      simp (maxSteps := 2000000) (decide := true) [-getElem?_pos, ir11, eq_true h1_, h2_, Fw_eqNode_ans]
  · cases h_
    simp (maxSteps := 2000000) (decide := true) [-getElem?_pos, ir11, h1_, Fw_eqNode_ans]
def Fw_eqNoden : Nat → Int → ByteArray → Int → (List T_Node) → Int → ByteArray → Int → (List T_Node) → Option Bool
  | 0 => fun _ _ _ _ _ _ _ _ => none
  | n_ + 1 => Sw_eqNode (Fw_eqNoden n_)
def Fw_eqNode (a0_144 : Int) (a0_145 : ByteArray) (a0_146 : Int) (a0_147 : List T_Node) (a1_18 : Int) (a1_19 : ByteArray) (a1_20 : Int) (a1_21 : List T_Node) : Option Bool := Fw_eqNoden FU a0_144 a0_145 a0_146 a0_147 a1_18 a1_19 a1_20 a1_21
theorem Fw_eqNoden_ok : ∀ (n_ : Nat) (a0_144 : Int) (a0_145 : ByteArray) (a0_146 : Int) (a0_147 : List T_Node) (a1_18 : Int) (a1_19 : ByteArray) (a1_20 : Int) (a1_21 : List T_Node) (r_ : Bool), Fw_eqNoden n_ a0_144 a0_145 a0_146 a0_147 a1_18 a1_19 a1_20 a1_21 = some r_ → ev EE (.call 11 [.ag [.sc (.int .i64 a0_144), .sc (.string a0_145), .sc (.int .i64 a0_146), .ls false (r_Node false a0_147)], .ag [.sc (.int .i64 a1_18), .sc (.string a1_19), .sc (.int .i64 a1_20), .ls false (r_Node false a1_21)]] []) = some (Fw_eqNode_ans a0_144 a0_145 a0_146 a0_147 a1_18 a1_19 a1_20 a1_21 r_) := by
  intro n_
  induction n_ with
  | zero => intro a0_144 a0_145 a0_146 a0_147 a1_18 a1_19 a1_20 a1_21 r_ h_; cases h_
  | succ n_ ih_ => intro a0_144 a0_145 a0_146 a0_147 a1_18 a1_19 a1_20 a1_21 r_ h_; exact Sw_eqNode_ok (Fw_eqNoden n_) ih_ a0_144 a0_145 a0_146 a0_147 a1_18 a1_19 a1_20 a1_21 r_ h_
theorem Fw_eqNode_ok (a0_144 : Int) (a0_145 : ByteArray) (a0_146 : Int) (a0_147 : List T_Node) (a1_18 : Int) (a1_19 : ByteArray) (a1_20 : Int) (a1_21 : List T_Node) (r_ : Bool) (h_ : Fw_eqNode a0_144 a0_145 a0_146 a0_147 a1_18 a1_19 a1_20 a1_21 = some r_) : ev EE (.call 11 [.ag [.sc (.int .i64 a0_144), .sc (.string a0_145), .sc (.int .i64 a0_146), .ls false (r_Node false a0_147)], .ag [.sc (.int .i64 a1_18), .sc (.string a1_19), .sc (.int .i64 a1_20), .ls false (r_Node false a1_21)]] []) = some (Fw_eqNode_ans a0_144 a0_145 a0_146 a0_147 a1_18 a1_19 a1_20 a1_21 r_) := Fw_eqNoden_ok FU a0_144 a0_145 a0_146 a0_147 a1_18 a1_19 a1_20 a1_21 r_ h_
end Go.Pv

namespace Go.Pv
set_option maxRecDepth 100000
set_option maxHeartbeats 40000000
set_option linter.unusedSimpArgs false
set_option linter.unusedVariables false
/-- laws.FnExactNodeOk -/
def Fw_FnExactNodeOk (a0_1 : Int) (a0_2 : ByteArray) (a0_3 : Int) (a0_4 : List T_Node) : Option Bool :=
  bS (Fw_szNode a0_1 a0_2 a0_3 a0_4 1048576) fun r6 =>
  if r6 < 0 then
    some true
  else
  bS (Fw_toNode a0_1 a0_2 a0_3 a0_4) fun (r13, r14, r15, r16) =>
  bS (Fs_NodeOk r13 r14 r15 r16) fun r129 =>
  bS (Fi_NodeOk r13 r14 r15 r16) fun r232 =>
  if r232 = r129 then
    bS (Fw_eqNode r13 r14 r15 r16 r13 r14 r15 r16) fun r236 =>
    if r236 = true then
      some true
    else
      some false
  else
    some false
def Fw_FnExactNodeOk_ans (a0_1 : Int) (a0_2 : ByteArray) (a0_3 : Int) (a0_4 : List T_Node) : Bool → Ans
  | q100 => .val (.sc (.bool q100)) []
end Go.Pv

