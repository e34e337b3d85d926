/- Proof: the functions as Lean functions, fourth part. No condition. -/
import Derived.Test.YtaadneenebhnoaaGreatDoorGwC
set_option autoImplicit true
set_option relaxedAutoImplicit true
set_option linter.unusedSimpArgs false
set_option linter.unusedVariables false
namespace Go.Pv
set_option maxRecDepth 100000
set_option maxHeartbeats 40000000
set_option linter.unusedSimpArgs false
set_option linter.unusedVariables false
def zbh (a0_89 : Int) (a0_90 : ByteArray) (a0_91 : Int) (a0_92 : List T_Node) : Bool → Ans
 | q92 => .val (.sc (.bool q92)) []
def zfu (Ri_allOk : Int → ByteArray → Int → (List T_Node) → Option Bool) : Prop := ∀ (a0_89 : Int) (a0_90 : ByteArray) (a0_91 : Int) (a0_92 : List T_Node) (r_ : Bool), Ri_allOk a0_89 a0_90 a0_91 a0_92 = some r_ → ev EE (.call 36 [.ag [.sc (.int .i64 a0_89), .sc (.string a0_90), .sc (.int .i64 a0_91), .ls false (r_Node false a0_92)]] []) = some (zbh a0_89 a0_90 a0_91 a0_92 r_)
/-- impl.allOk$1 -/
def zdy (Ri_allOk : Int → ByteArray → Int → (List T_Node) → Option Bool) (a0_156 : Int) (a0_157 : ByteArray) (a0_158 : Int) (a0_159 : List T_Node) : Option Bool :=
 bS (Ri_allOk a0_156 a0_157 a0_158 a0_159) fun r239 =>
 some (!r239)
def zdI (a0_156 : Int) (a0_157 : ByteArray) (a0_158 : Int) (a0_159 : List T_Node) : Bool → Ans
 | q93 => .val (.sc (.bool q93)) []
theorem ziD (Ri_allOk) (hRi_allOk : zfu Ri_allOk) (a0_156 : Int) (a0_157 : ByteArray) (a0_158 : Int) (a0_159 : List T_Node) (r_ : Bool) (h_ : zdy Ri_allOk a0_156 a0_157 a0_158 a0_159 = some r_) : ev EE (.call 69 [.ag [.sc (.int .i64 a0_156), .sc (.string a0_157), .sc (.int .i64 a0_158), .ls false (r_Node false a0_159)]] []) = some (zdI a0_156 a0_157 a0_158 a0_159 r_) := by
 rw [zw]
 simp only [zdy] at h_
 obtain ⟨r239, h1_, h_⟩ := za h_
 have h1_f := hRi_allOk a0_156 a0_157 a0_158 a0_159 _ h1_
 try simp [zbh] at h1_f
 cases h_
 simp +decide [-getElem?_pos, zsF, h1_f, zdI]
def Lslices_IndexFunc_Node_0_4 (Ri_allOk : Int → ByteArray → Int → (List T_Node) → Option Bool) : Nat → (List T_Node) → Int → Int → Option (Int ⊕ Unit)
 | 0, _, _, _ => none
 | n_ + 1, t0_18, t7_12, t8_8 =>
 if t8_8 < t7_12 then
  bS (getI t0_18 t8_8) fun e39 =>
  bS (zdy Ri_allOk e39.op_ e39.s_ e39.n_ e39.kids_) fun r240 =>
  if r240 = true then
   some (.inl t8_8)
  else
   Lslices_IndexFunc_Node_0_4 Ri_allOk n_ t0_18 t7_12 (IntKind.i64.wrap (t8_8 + 1))
 else
  some (.inr ())
def zI (t0_18 : List T_Node) (t7_12 : Int) (t8_8 : Int) : Int ⊕ Unit → Ans
 | .inl t4_24 => .out .ret { np := 0, tm := [(4, .sc (.int .i64 t4_24))], ar := [], bx := [] }
 | .inr _ => .out (.exit 0) { np := 0, tm := [], ar := [], bx := [] }
theorem zdz (Ri_allOk) (hRi_allOk : zfu Ri_allOk) : ∀ (n_ : Nat) (t0_18 : List T_Node) (t7_12 : Int) (t8_8 : Int) (r_ : Int ⊕ Unit), Lslices_IndexFunc_Node_0_4 Ri_allOk n_ t0_18 t7_12 t8_8 = some r_ → ev EE (.loop zdW [0, 1, 7, 8] [4] { np := 0, tm := [(0, .ls false (r_Node false t0_18)), (1, .fn 69 []), (7, .sc (.int .i64 t7_12)), (8, .sc (.int .i64 t8_8))], ar := [], bx := [] }) = some (zI t0_18 t7_12 t8_8 r_) := by
 intro n_
 induction n_ with
 | zero => intro t0_18 t7_12 t8_8 r_ h_; simp only [Lslices_IndexFunc_Node_0_4] at h_; cases h_
 | succ n_ ih_ =>
  intro t0_18 t7_12 t8_8 r_ h_
  rw [zW EE zdW.eq_1]
  simp only [Lslices_IndexFunc_Node_0_4] at h_
  rcases bI h_ with ⟨h1_, h_⟩ | ⟨h1_, h_⟩
  ·obtain ⟨e39, h2_, h_⟩ := za h_
   obtain ⟨h2_a, h2_b, h2_c, h2_d⟩ := zj (o := false)  h2_
   try simp [-getElem?_pos] at h2_d
   obtain ⟨r240, h6_, h_⟩ := za h_
   have h6_f := ziD Ri_allOk hRi_allOk e39.op_ e39.s_ e39.n_ e39.kids_ _ h6_
   try simp [zdI] at h6_f
   rcases bI h_ with ⟨h7_, h_⟩ | ⟨h7_, h_⟩
   ·cases h_
    simp +decide [-getElem?_pos, h1_, h2_a, h2_b, h2_c, h2_d, h6_f, h7_, zI]
   have q_ := ih_ t0_18 t7_12 (IntKind.i64.wrap (t8_8 + 1)) _ h_
   rcases r_ with t4_24 | _
   all_goals (try simp [zI] at q_)
   all_goals simp +decide [-getElem?_pos, h1_, h2_a, h2_b, h2_c, h2_d, h6_f, h7_, q_, zI]
  cases h_
  simp +decide [-getElem?_pos, h1_, zI]
/-- impl.Node] -/
def za6 (Ri_allOk : Int → ByteArray → Int → (List T_Node) → Option Bool) (a0_155 : List T_Node) : Option Int :=
 bS (Lslices_IndexFunc_Node_0_4 Ri_allOk FU a0_155 (a0_155.length : Int) 0) fun r_ => match r_ with
 | .inl r241 =>
  some r241
 | .inr () =>
  some (-1)
def zav (a0_155 : List T_Node) : Int → Ans
 | q94 => .val (.sc (.int .i64 q94)) []
theorem zdU (Ri_allOk) (hRi_allOk : zfu Ri_allOk) (a0_155 : List T_Node) (r_ : Int) (h_ : za6 Ri_allOk a0_155 = some r_) : ev EE (.call 107 [.ls false (r_Node false a0_155), .fn 69 []] []) = some (zav a0_155 r_) := by
 rw [zw]
 simp only [za6] at h_
 obtain ⟨r_0, h1_, h_⟩ := za h_
 have h1_f := zdz Ri_allOk hRi_allOk FU a0_155 (a0_155.length : Int) 0 _ h1_
 rcases r_0 with r241 | _
 ·try dsimp only at h_
  try simp [zI] at h1_f
  cases h_
  simp +decide [-getElem?_pos, zfA, h1_f, zav]
 ·try dsimp only at h_
  try simp [zI] at h1_f
  cases h_
  simp +decide [-getElem?_pos, zfA, h1_f, zav]
/-- impl.Node] -/
def Fslices_ContainsFunc_Node_4 (Ri_allOk : Int → ByteArray → Int → (List T_Node) → Option Bool) (a0_154 : List T_Node) : Option Bool :=
 bS (za6 Ri_allOk a0_154) fun r242 =>
 some (decide (0 ≤ r242))
def zaS (a0_154 : List T_Node) : Bool → Ans
 | q95 => .val (.sc (.bool q95)) []
theorem zdh (Ri_allOk) (hRi_allOk : zfu Ri_allOk) (a0_154 : List T_Node) (r_ : Bool) (h_ : Fslices_ContainsFunc_Node_4 Ri_allOk a0_154 = some r_) : ev EE (.call 68 [.ls false (r_Node false a0_154), .fn 69 []] []) = some (zaS a0_154 r_) := by
 rw [zw]
 simp only [Fslices_ContainsFunc_Node_4] at h_
 obtain ⟨r242, h1_, h_⟩ := za h_
 have h1_f := zdU Ri_allOk hRi_allOk a0_154 _ h1_
 try simp [zav] at h1_f
 cases h_
 simp +decide [-getElem?_pos, zmS, h1_f, zaS]
/-- impl.allOk -/
def Si_allOk (Ri_allOk : Int → ByteArray → Int → (List T_Node) → Option Bool) (a0_89 : Int) (a0_90 : ByteArray) (a0_91 : Int) (a0_92 : List T_Node) : Option Bool :=
 bS (zeM a0_89 a0_90 a0_91 a0_92) fun r198 =>
 if r198 = true then
  bS (zdx a0_89 a0_90 a0_91 a0_92) fun r238 =>
  if r238 = true then
   bS (Fslices_ContainsFunc_Node_4 Ri_allOk a0_92) fun r243 =>
   some (!r243)
  else
   some false
 else
  some false
theorem Si_allOk_ok (Ri_allOk) (hRi_allOk : zfu Ri_allOk) (a0_89 : Int) (a0_90 : ByteArray) (a0_91 : Int) (a0_92 : List T_Node) (r_ : Bool) (h_ : Si_allOk Ri_allOk a0_89 a0_90 a0_91 a0_92 = some r_) : ev EE (.call 36 [.ag [.sc (.int .i64 a0_89), .sc (.string a0_90), .sc (.int .i64 a0_91), .ls false (r_Node false a0_92)]] []) = some (zbh a0_89 a0_90 a0_91 a0_92 r_) := by
 rw [zw]
 simp only [Si_allOk] at h_
 obtain ⟨r198, h1_, h_⟩ := za h_
 have h1_f := zkl a0_89 a0_90 a0_91 a0_92 _ h1_
 try simp [zi] at h1_f
 rcases bI h_ with ⟨h2_, h_⟩ | ⟨h2_, h_⟩
 ·obtain ⟨r238, h3_, h_⟩ := za h_
  have h3_f := ziC a0_89 a0_90 a0_91 a0_92 _ h3_
  try simp [ze] at h3_f
  rcases bI h_ with ⟨h4_, h_⟩ | ⟨h4_, h_⟩
  ·obtain ⟨r243, h5_, h_⟩ := za h_
   have h5_f := zdh Ri_allOk hRi_allOk a0_92 _ h5_
   try simp [zaS] at h5_f
   cases h_
   simp +decide [-getElem?_pos, zoI, h1_f, h2_, h3_f, h4_, h5_f, zbh]
  cases h_
  simp +decide [-getElem?_pos, zoI, h1_f, h2_, h3_f, h4_, zbh]
 cases h_
 simp +decide [-getElem?_pos, zoI, h1_f, h2_, zbh]
def Fi_allOkn : Nat → Int → ByteArray → Int → (List T_Node) → Option Bool
 | 0 => fun _ _ _ _ => none
 | n_ + 1 => Si_allOk (Fi_allOkn n_)
def Fi_allOk (a0_89 : Int) (a0_90 : ByteArray) (a0_91 : Int) (a0_92 : List T_Node) : Option Bool := Fi_allOkn FU a0_89 a0_90 a0_91 a0_92
theorem zko : ∀ (n_ : Nat) (a0_89 : Int) (a0_90 : ByteArray) (a0_91 : Int) (a0_92 : List T_Node) (r_ : Bool), Fi_allOkn n_ a0_89 a0_90 a0_91 a0_92 = some r_ → ev EE (.call 36 [.ag [.sc (.int .i64 a0_89), .sc (.string a0_90), .sc (.int .i64 a0_91), .ls false (r_Node false a0_92)]] []) = some (zbh a0_89 a0_90 a0_91 a0_92 r_) := by
 intro n_
 induction n_ with
 | zero => intro a0_89 a0_90 a0_91 a0_92 r_ h_; cases h_
 | succ n_ ih_ => intro a0_89 a0_90 a0_91 a0_92 r_ h_; exact Si_allOk_ok (Fi_allOkn n_) ih_ a0_89 a0_90 a0_91 a0_92 r_ h_
theorem zle (a0_89 : Int) (a0_90 : ByteArray) (a0_91 : Int) (a0_92 : List T_Node) (r_ : Bool) (h_ : Fi_allOk a0_89 a0_90 a0_91 a0_92 = some r_) : ev EE (.call 36 [.ag [.sc (.int .i64 a0_89), .sc (.string a0_90), .sc (.int .i64 a0_91), .ls false (r_Node false a0_92)]] []) = some (zbh a0_89 a0_90 a0_91 a0_92 r_) := zko FU a0_89 a0_90 a0_91 a0_92 r_ h_
def zck (a0_160 : Int) (a0_161 : ByteArray) (a0_162 : Int) (a0_163 : List T_Node) : Int → Ans
 | q96 => .val (.sc (.int .i64 q96)) []
def znV (Ri_Size : Int → ByteArray → Int → (List T_Node) → Option Int) : Prop := ∀ (a0_160 : Int) (a0_161 : ByteArray) (a0_162 : Int) (a0_163 : List T_Node) (r_ : Int), Ri_Size a0_160 a0_161 a0_162 a0_163 = some r_ → ev EE (.call 29 [.ag [.sc (.int .i64 a0_160), .sc (.string a0_161), .sc (.int .i64 a0_162), .ls false (r_Node false a0_163)]] []) = some (zck a0_160 a0_161 a0_162 a0_163 r_)
def Li_Size_0 (Ri_Size : Int → ByteArray → Int → (List T_Node) → Option Int) : Nat → Int → (List T_Node) → Int → Int → Option Int
 | 0, _, _, _, _ => none
 | n_ + 1, t3_20, t7_13, t8_9, t9_1 =>
 if t9_1 < t8_9 then
  bS (getI t7_13 t9_1) fun e40 =>
  bS (Ri_Size e40.op_ e40.s_ e40.n_ e40.kids_) fun r245 =>
  Li_Size_0 Ri_Size n_ (IntKind.i64.wrap (t3_20 + r245)) t7_13 t8_9 (IntKind.i64.wrap (t9_1 + 1))
 else
  some t3_20
def zcE (t3_20 : Int) (t7_13 : List T_Node) (t8_9 : Int) (t9_1 : Int) : Int → Ans
 | t3_21 => .out (.exit 0) { np := 0, tm := [(3, .sc (.int .i64 t3_21))], ar := [], bx := [] }
theorem zkp (Ri_Size) (hRi_Size : znV Ri_Size) : ∀ (n_ : Nat) (t3_20 : Int) (t7_13 : List T_Node) (t8_9 : Int) (t9_1 : Int) (r_ : Int), Li_Size_0 Ri_Size n_ t3_20 t7_13 t8_9 t9_1 = some r_ → ev EE (.loop zmH [3, 7, 8, 9] [2, 3] { np := 0, tm := [(3, .sc (.int .i64 t3_20)), (7, .ls false (r_Node false t7_13)), (8, .sc (.int .i64 t8_9)), (9, .sc (.int .i64 t9_1))], ar := [], bx := [] }) = some (zcE t3_20 t7_13 t8_9 t9_1 r_) := by
 intro n_
 induction n_ with
 | zero => intro t3_20 t7_13 t8_9 t9_1 r_ h_; simp only [Li_Size_0] at h_; cases h_
 | succ n_ ih_ =>
  intro t3_20 t7_13 t8_9 t9_1 r_ h_
  rw [zW EE zmH.eq_1]
  simp only [Li_Size_0] at h_
  rcases bI h_ with ⟨h1_, h_⟩ | ⟨h1_, h_⟩
  ·obtain ⟨e40, h2_, h_⟩ := za h_
   obtain ⟨h2_a, h2_b, h2_c, h2_d⟩ := zj (o := false)  h2_
   try simp [-getElem?_pos] at h2_d
   obtain ⟨r245, h6_, h_⟩ := za h_
   have h6_f := hRi_Size e40.op_ e40.s_ e40.n_ e40.kids_ _ h6_
   try simp [zck] at h6_f
   have q_ := ih_ (IntKind.i64.wrap (t3_20 + r245)) t7_13 t8_9 (IntKind.i64.wrap (t9_1 + 1)) _ h_
   rcases r_ with t3_21
   all_goals (try simp [zcE] at q_)
   all_goals simp +decide [-getElem?_pos, h1_, h2_a, h2_b, h2_c, h2_d, h6_f, q_, zcE]
  cases h_
  simp +decide [-getElem?_pos, h1_, zcE]
/-- impl.Size -/
def Si_Size (Ri_Size : Int → ByteArray → Int → (List T_Node) → Option Int) (a0_160 : Int) (a0_161 : ByteArray) (a0_162 : Int) (a0_163 : List T_Node) : Option Int :=
 bS (Li_Size_0 Ri_Size FU 1 a0_163 (a0_163.length : Int) 0) fun r246 =>
 some r246
theorem Si_Size_ok (Ri_Size) (hRi_Size : znV Ri_Size) (a0_160 : Int) (a0_161 : ByteArray) (a0_162 : Int) (a0_163 : List T_Node) (r_ : Int) (h_ : Si_Size Ri_Size a0_160 a0_161 a0_162 a0_163 = some r_) : ev EE (.call 29 [.ag [.sc (.int .i64 a0_160), .sc (.string a0_161), .sc (.int .i64 a0_162), .ls false (r_Node false a0_163)]] []) = some (zck a0_160 a0_161 a0_162 a0_163 r_) := by
 rw [zw]
 simp only [Si_Size] at h_
 obtain ⟨r246, h1_, h_⟩ := za h_
 have h1_f := zkp Ri_Size hRi_Size FU 1 a0_163 (a0_163.length : Int) 0 _ h1_
 try simp [zcE] at h1_f
 cases h_
 simp +decide [-getElem?_pos, zsA, h1_f, zck]
def Fi_Sizen : Nat → Int → ByteArray → Int → (List T_Node) → Option Int
 | 0 => fun _ _ _ _ => none
 | n_ + 1 => Si_Size (Fi_Sizen n_)
def Fi_Size (a0_160 : Int) (a0_161 : ByteArray) (a0_162 : Int) (a0_163 : List T_Node) : Option Int := Fi_Sizen FU a0_160 a0_161 a0_162 a0_163
theorem zlf : ∀ (n_ : Nat) (a0_160 : Int) (a0_161 : ByteArray) (a0_162 : Int) (a0_163 : List T_Node) (r_ : Int), Fi_Sizen n_ a0_160 a0_161 a0_162 a0_163 = some r_ → ev EE (.call 29 [.ag [.sc (.int .i64 a0_160), .sc (.string a0_161), .sc (.int .i64 a0_162), .ls false (r_Node false a0_163)]] []) = some (zck a0_160 a0_161 a0_162 a0_163 r_) := by
 intro n_
 induction n_ with
 | zero => intro a0_160 a0_161 a0_162 a0_163 r_ h_; cases h_
 | succ n_ ih_ => intro a0_160 a0_161 a0_162 a0_163 r_ h_; exact Si_Size_ok (Fi_Sizen n_) ih_ a0_160 a0_161 a0_162 a0_163 r_ h_
theorem zmw (a0_160 : Int) (a0_161 : ByteArray) (a0_162 : Int) (a0_163 : List T_Node) (r_ : Int) (h_ : Fi_Size a0_160 a0_161 a0_162 a0_163 = some r_) : ev EE (.call 29 [.ag [.sc (.int .i64 a0_160), .sc (.string a0_161), .sc (.int .i64 a0_162), .ls false (r_Node false a0_163)]] []) = some (zck a0_160 a0_161 a0_162 a0_163 r_) := zlf FU a0_160 a0_161 a0_162 a0_163 r_ h_
def zcl (a0_164 : Int) (a0_165 : ByteArray) (a0_166 : Int) (a0_167 : List T_Node) : Int → Ans
 | q97 => .val (.sc (.int .i64 q97)) []
def znW (Ri_Deep : Int → ByteArray → Int → (List T_Node) → Option Int) : Prop := ∀ (a0_164 : Int) (a0_165 : ByteArray) (a0_166 : Int) (a0_167 : List T_Node) (r_ : Int), Ri_Deep a0_164 a0_165 a0_166 a0_167 = some r_ → ev EE (.call 30 [.ag [.sc (.int .i64 a0_164), .sc (.string a0_165), .sc (.int .i64 a0_166), .ls false (r_Node false a0_167)]] []) = some (zcl a0_164 a0_165 a0_166 a0_167 r_)
def Li_Deep_0 (Ri_Deep : Int → ByteArray → Int → (List T_Node) → Option Int) : Nat → Int → (List T_Node) → Int → Int → Option Int
 | 0, _, _, _, _ => none
 | n_ + 1, t3_22, t7_14, t8_10, t9_2 =>
 if t9_2 < t8_10 then
  bS (getI t7_14 t9_2) fun e41 =>
  bS (Ri_Deep e41.op_ e41.s_ e41.n_ e41.kids_) fun r248 =>
  if t3_22 < r248 then
   Li_Deep_0 Ri_Deep n_ r248 t7_14 t8_10 (IntKind.i64.wrap (t9_2 + 1))
  else
   Li_Deep_0 Ri_Deep n_ t3_22 t7_14 t8_10 (IntKind.i64.wrap (t9_2 + 1))
 else
  some t3_22
def zbI (t3_22 : Int) (t7_14 : List T_Node) (t8_10 : Int) (t9_2 : Int) : Int → Ans
 | t3_23 => .out (.exit 0) { np := 0, tm := [(3, .sc (.int .i64 t3_23))], ar := [], bx := [] }
theorem zkq (Ri_Deep) (hRi_Deep : znW Ri_Deep) : ∀ (n_ : Nat) (t3_22 : Int) (t7_14 : List T_Node) (t8_10 : Int) (t9_2 : Int) (r_ : Int), Li_Deep_0 Ri_Deep n_ t3_22 t7_14 t8_10 t9_2 = some r_ → ev EE (.loop zmI [3, 7, 8, 9] [2, 3] { np := 0, tm := [(3, .sc (.int .i64 t3_22)), (7, .ls false (r_Node false t7_14)), (8, .sc (.int .i64 t8_10)), (9, .sc (.int .i64 t9_2))], ar := [], bx := [] }) = some (zbI t3_22 t7_14 t8_10 t9_2 r_) := by
 intro n_
 induction n_ with
 | zero => intro t3_22 t7_14 t8_10 t9_2 r_ h_; simp only [Li_Deep_0] at h_; cases h_
 | succ n_ ih_ =>
  intro t3_22 t7_14 t8_10 t9_2 r_ h_
  rw [zW EE zmI.eq_1]
  simp only [Li_Deep_0] at h_
  rcases bI h_ with ⟨h1_, h_⟩ | ⟨h1_, h_⟩
  ·obtain ⟨e41, h2_, h_⟩ := za h_
   obtain ⟨h2_a, h2_b, h2_c, h2_d⟩ := zj (o := false)  h2_
   try simp [-getElem?_pos] at h2_d
   obtain ⟨r248, h6_, h_⟩ := za h_
   have h6_f := hRi_Deep e41.op_ e41.s_ e41.n_ e41.kids_ _ h6_
   try simp [zcl] at h6_f
   rcases bI h_ with ⟨h7_, h_⟩ | ⟨h7_, h_⟩
   ·have q_ := ih_ r248 t7_14 t8_10 (IntKind.i64.wrap (t9_2 + 1)) _ h_
    rcases r_ with t3_23
    all_goals (try simp [zbI] at q_)
    all_goals simp +decide [-getElem?_pos, h1_, h2_a, h2_b, h2_c, h2_d, h6_f, h7_, q_, zbI]
   have q_ := ih_ t3_22 t7_14 t8_10 (IntKind.i64.wrap (t9_2 + 1)) _ h_
   rcases r_ with t3_23
   all_goals (try simp [zbI] at q_)
   all_goals simp +decide [-getElem?_pos, h1_, h2_a, h2_b, h2_c, h2_d, h6_f, h7_, q_, zbI]
  cases h_
  simp +decide [-getElem?_pos, h1_, zbI]
/-- impl.Deep -/
def Si_Deep (Ri_Deep : Int → ByteArray → Int → (List T_Node) → Option Int) (a0_164 : Int) (a0_165 : ByteArray) (a0_166 : Int) (a0_167 : List T_Node) : Option Int :=
 bS (Li_Deep_0 Ri_Deep FU 0 a0_167 (a0_167.length : Int) 0) fun r249 =>
 some (IntKind.i64.wrap (r249 + 1))
theorem Si_Deep_ok (Ri_Deep) (hRi_Deep : znW Ri_Deep) (a0_164 : Int) (a0_165 : ByteArray) (a0_166 : Int) (a0_167 : List T_Node) (r_ : Int) (h_ : Si_Deep Ri_Deep a0_164 a0_165 a0_166 a0_167 = some r_) : ev EE (.call 30 [.ag [.sc (.int .i64 a0_164), .sc (.string a0_165), .sc (.int .i64 a0_166), .ls false (r_Node false a0_167)]] []) = some (zcl a0_164 a0_165 a0_166 a0_167 r_) := by
 rw [zw]
 simp only [Si_Deep] at h_
 obtain ⟨r249, h1_, h_⟩ := za h_
 have h1_f := zkq Ri_Deep hRi_Deep FU 0 a0_167 (a0_167.length : Int) 0 _ h1_
 try simp [zbI] at h1_f
 cases h_
 simp +decide [-getElem?_pos, zsB, h1_f, zcl]
def Fi_Deepn : Nat → Int → ByteArray → Int → (List T_Node) → Option Int
 | 0 => fun _ _ _ _ => none
 | n_ + 1 => Si_Deep (Fi_Deepn n_)
def Fi_Deep (a0_164 : Int) (a0_165 : ByteArray) (a0_166 : Int) (a0_167 : List T_Node) : Option Int := Fi_Deepn FU a0_164 a0_165 a0_166 a0_167
theorem zlg : ∀ (n_ : Nat) (a0_164 : Int) (a0_165 : ByteArray) (a0_166 : Int) (a0_167 : List T_Node) (r_ : Int), Fi_Deepn n_ a0_164 a0_165 a0_166 a0_167 = some r_ → ev EE (.call 30 [.ag [.sc (.int .i64 a0_164), .sc (.string a0_165), .sc (.int .i64 a0_166), .ls false (r_Node false a0_167)]] []) = some (zcl a0_164 a0_165 a0_166 a0_167 r_) := by
 intro n_
 induction n_ with
 | zero => intro a0_164 a0_165 a0_166 a0_167 r_ h_; cases h_
 | succ n_ ih_ => intro a0_164 a0_165 a0_166 a0_167 r_ h_; exact Si_Deep_ok (Fi_Deepn n_) ih_ a0_164 a0_165 a0_166 a0_167 r_ h_
theorem zmx (a0_164 : Int) (a0_165 : ByteArray) (a0_166 : Int) (a0_167 : List T_Node) (r_ : Int) (h_ : Fi_Deep a0_164 a0_165 a0_166 a0_167 = some r_) : ev EE (.call 30 [.ag [.sc (.int .i64 a0_164), .sc (.string a0_165), .sc (.int .i64 a0_166), .ls false (r_Node false a0_167)]] []) = some (zcl a0_164 a0_165 a0_166 a0_167 r_) := zlg FU a0_164 a0_165 a0_166 a0_167 r_ h_
/-- impl.NodeOk -/
def zeR (a0_85 : Int) (a0_86 : ByteArray) (a0_87 : Int) (a0_88 : List T_Node) : Option Bool :=
 if a0_85 = 1 then
  bS (Fi_allOk a0_85 a0_86 a0_87 a0_88) fun r244 =>
  if r244 = true then
   bS (Fi_Size a0_85 a0_86 a0_87 a0_88) fun r247 =>
   if r247 ≤ 200 then
    bS (Fi_Deep a0_85 a0_86 a0_87 a0_88) fun r250 =>
    some (decide (r250 ≤ 20))
   else
    some false
  else
   some false
 else
  some false
def zb6 (a0_85 : Int) (a0_86 : ByteArray) (a0_87 : Int) (a0_88 : List T_Node) : Bool → Ans
 | q98 => .val (.sc (.bool q98)) []
theorem zkr (a0_85 : Int) (a0_86 : ByteArray) (a0_87 : Int) (a0_88 : List T_Node) (r_ : Bool) (h_ : zeR a0_85 a0_86 a0_87 a0_88 = some r_) : ev EE (.call 18 [.ag [.sc (.int .i64 a0_85), .sc (.string a0_86), .sc (.int .i64 a0_87), .ls false (r_Node false a0_88)]] []) = some (zb6 a0_85 a0_86 a0_87 a0_88 r_) := by
 rw [zw]
 simp only [zeR] at h_
 rcases bI h_ with ⟨h1_, h_⟩ | ⟨h1_, h_⟩
 ·obtain ⟨r244, h2_, h_⟩ := za h_
  have h2_f := zle a0_85 a0_86 a0_87 a0_88 _ h2_
  try simp [zbh] at h2_f
  rcases bI h_ with ⟨h3_, h_⟩ | ⟨h3_, h_⟩
  ·obtain ⟨r247, h4_, h_⟩ := za h_
   have h4_f := zmw a0_85 a0_86 a0_87 a0_88 _ h4_
   try simp [zck] at h4_f
   rcases bI h_ with ⟨h5_, h_⟩ | ⟨h5_, h_⟩
   ·obtain ⟨r250, h6_, h_⟩ := za h_
    have h6_f := zmx a0_85 a0_86 a0_87 a0_88 _ h6_
    try simp [zcl] at h6_f
    cases h_
    simp +decide [-getElem?_pos, zmB, eq_true h1_, h2_f, h3_, h4_f, h5_, h6_f, zb6]
   cases h_
   simp +decide [-getElem?_pos, zmB, eq_true h1_, h2_f, h3_, h4_f, h5_, zb6]
  cases h_
  simp +decide [-getElem?_pos, zmB, eq_true h1_, h2_f, h3_, zb6]
 cases h_
 simp +decide [-getElem?_pos, zmB, h1_, zb6]
def zo (a0_174 : Int) (a0_175 : ByteArray) (a0_176 : Int) (a0_177 : List T_Node) : ByteArray → Ans
 | q101 => .val (.sc (.string q101)) []
def zeu (Ri_exprText : Int → ByteArray → Int → (List T_Node) → Option ByteArray) : Prop := ∀ (a0_174 : Int) (a0_175 : ByteArray) (a0_176 : Int) (a0_177 : List T_Node) (r_ : ByteArray), Ri_exprText a0_174 a0_175 a0_176 a0_177 = some r_ → ev EE (.call 71 [.ag [.sc (.int .i64 a0_174), .sc (.string a0_175), .sc (.int .i64 a0_176), .ls false (r_Node false a0_177)]] []) = some (zo a0_174 a0_175 a0_176 a0_177 r_)
/-- impl.exprText$1 -/
def zu (Ri_exprText : Int → ByteArray → Int → (List T_Node) → Option ByteArray) (a0_178 : Int) (x0_63 : Int) (x0_64 : ByteArray) (x0_65 : Int) (x0_66 : List T_Node) : Option ByteArray :=
 bS (getI x0_66 a0_178) fun e48 =>
 bS (Ri_exprText e48.op_ e48.s_ e48.n_ e48.kids_) fun r254 =>
 some r254
def zt (a0_178 : Int) (x0_63 : Int) (x0_64 : ByteArray) (x0_65 : Int) (x0_66 : List T_Node) : ByteArray → Ans
 | q102 => .val (.sc (.string q102)) [.b [.sc (.int .i64 x0_63), .sc (.string x0_64), .sc (.int .i64 x0_65), .ls false (r_Node false x0_66)]]
theorem zE (Ri_exprText) (hRi_exprText : zeu Ri_exprText) (a0_178 : Int) (x0_63 : Int) (x0_64 : ByteArray) (x0_65 : Int) (x0_66 : List T_Node) (r_ : ByteArray) (h_ : zu Ri_exprText a0_178 x0_63 x0_64 x0_65 x0_66 = some r_) : ev EE (.call 108 [.sc (.int .i64 a0_178), .bx 0 0] [.b [.sc (.int .i64 x0_63), .sc (.string x0_64), .sc (.int .i64 x0_65), .ls false (r_Node false x0_66)]]) = some (zt a0_178 x0_63 x0_64 x0_65 x0_66 r_) := by
 rw [zw]
 simp only [zu] at h_
 obtain ⟨e48, h1_, h_⟩ := za h_
 obtain ⟨h1_a, h1_b, h1_c, h1_d⟩ := zj (o := false)  h1_
 try simp [-getElem?_pos] at h1_d
 obtain ⟨r254, h5_, h_⟩ := za h_
 have h5_f := hRi_exprText e48.op_ e48.s_ e48.n_ e48.kids_ _ h5_
 try simp [zo] at h5_f
 cases h_
 simp +decide [-getElem?_pos, zn0, h1_a, h1_b, h1_c, h1_d, h5_f, zt]
def Li_joined_0 (Ri_exprText : Int → ByteArray → Int → (List T_Node) → Option ByteArray) : Nat → (List ByteArray) → (List T_Node) → Int → Int → Option (List ByteArray)
 | 0, _, _, _, _ => none
 | n_ + 1, t3_25, t6_4, t7_16, t8_12 =>
 if t8_12 < t7_16 then
  bS (getI t6_4 t8_12) fun e49 =>
  bS (Ri_exprText e49.op_ e49.s_ e49.n_ e49.kids_) fun r257 =>
  if lim (t3_25.length + 1) 16 = true then
  Li_joined_0 Ri_exprText n_ (t3_25 ++ [r257]) t6_4 t7_16 (IntKind.i64.wrap (t8_12 + 1))
  else none
 else
  some t3_25
def zb1 (t3_25 : List ByteArray) (t6_4 : List T_Node) (t7_16 : Int) (t8_12 : Int) : (List ByteArray) → Ans
 | t3_26 => .out (.exit 0) { np := 0, tm := [(3, .rf 0 0 t3_26.length)], ar := [(0, .a false (strs t3_26))], bx := [] }
theorem ziE (Ri_exprText) (hRi_exprText : zeu Ri_exprText) : ∀ (n_ : Nat) (t3_25 : List ByteArray) (t6_4 : List T_Node) (t7_16 : Int) (t8_12 : Int) (r_ : (List ByteArray)), Li_joined_0 Ri_exprText n_ t3_25 t6_4 t7_16 t8_12 = some r_ → ev EE (.loop zkw [3, 6, 7, 8] [2, 3] { np := 0, tm := [(3, .rf 0 0 t3_25.length), (6, .ls false (r_Node false t6_4)), (7, .sc (.int .i64 t7_16)), (8, .sc (.int .i64 t8_12))], ar := [(0, .a false (strs t3_25))], bx := [] }) = some (zb1 t3_25 t6_4 t7_16 t8_12 r_) := by
 intro n_
 induction n_ with
 | zero => intro t3_25 t6_4 t7_16 t8_12 r_ h_; simp only [Li_joined_0] at h_; cases h_
 | succ n_ ih_ =>
  intro t3_25 t6_4 t7_16 t8_12 r_ h_
  rw [zW EE zkw.eq_1]
  simp only [Li_joined_0] at h_
  rcases bI h_ with ⟨h1_, h_⟩ | ⟨h1_, h_⟩
  ·obtain ⟨e49, h2_, h_⟩ := za h_
   obtain ⟨h2_a, h2_b, h2_c, h2_d⟩ := zj (o := false)  h2_
   try simp [-getElem?_pos] at h2_d
   obtain ⟨r257, h6_, h_⟩ := za h_
   have h6_f := hRi_exprText e49.op_ e49.s_ e49.n_ e49.kids_ _ h6_
   try simp [zo] at h6_f
   obtain ⟨h7_, h_⟩ := bP h_
   have q_ := ih_ (t3_25 ++ [r257]) t6_4 t7_16 (IntKind.i64.wrap (t8_12 + 1)) _ h_
   rcases r_ with t3_26
   all_goals (try simp [zb1] at q_)
   all_goals simp +decide [-getElem?_pos, h1_, h2_a, h2_b, h2_c, h2_d, h6_f, h7_, q_, zb1]
  cases h_
  simp +decide [-getElem?_pos, h1_, zb1]
/-- impl.joined -/
def zdZ (Ri_exprText : Int → ByteArray → Int → (List T_Node) → Option ByteArray) (a0_179 : List T_Node) : Option ByteArray :=
 bS (Li_joined_0 Ri_exprText FU [] a0_179 (a0_179.length : Int) 0) fun r258 =>
 bS (Fstrings_Join r258 (⟨#[44, 32]⟩ : ByteArray)) fun r259 =>
 some r259
def zdq (a0_179 : List T_Node) : ByteArray → Ans
 | q104 => .val (.sc (.string q104)) []
theorem zgM (Ri_exprText) (hRi_exprText : zeu Ri_exprText) (a0_179 : List T_Node) (r_ : ByteArray) (h_ : zdZ Ri_exprText a0_179 = some r_) : ev EE (.call 109 [.ls false (r_Node false a0_179)] []) = some (zdq a0_179 r_) := by
 rw [zw]
 simp only [zdZ] at h_
 obtain ⟨r258, h1_, h_⟩ := za h_
 have h1_f := ziE Ri_exprText hRi_exprText FU [] a0_179 (a0_179.length : Int) 0 _ h1_
 try simp [zb1] at h1_f
 obtain ⟨r259, h2_, h_⟩ := za h_
 have h2_f := zeH r258 (⟨#[44, 32]⟩ : ByteArray) _ h2_
 try simp [zcS] at h2_f
 cases h_
 simp +decide [-getElem?_pos, zn1, h1_f, h2_f, zdq]
def zaI (a0_168 : List T_Node) : ByteArray → Ans
 | q106 => .val (.sc (.string q106)) []
def zbm (Ri_statements : (List T_Node) → Option ByteArray) : Prop := ∀ (a0_168 : List T_Node) (r_ : ByteArray), Ri_statements a0_168 = some r_ → ev EE (.call 19 [.ls false (r_Node false a0_168)] []) = some (zaI a0_168 r_)
/-- impl.blockText -/
def zbi (Ri_statements : (List T_Node) → Option ByteArray) (a0_180 : Int) (a0_181 : ByteArray) (a0_182 : Int) (a0_183 : List T_Node) : Option ByteArray :=
 bS (Ri_statements a0_183) fun r276 =>
 bS (cat (⟨#[123, 10]⟩ : ByteArray) r276) fun s133 =>
 bS (cat s133 (⟨#[125]⟩ : ByteArray)) fun s134 =>
 some s134
def zbp (a0_180 : Int) (a0_181 : ByteArray) (a0_182 : Int) (a0_183 : List T_Node) : ByteArray → Ans
 | q107 => .val (.sc (.string q107)) []
theorem zcG (Ri_statements) (hRi_statements : zbm Ri_statements) (a0_180 : Int) (a0_181 : ByteArray) (a0_182 : Int) (a0_183 : List T_Node) (r_ : ByteArray) (h_ : zbi Ri_statements a0_180 a0_181 a0_182 a0_183 = some r_) : ev EE (.call 72 [.ag [.sc (.int .i64 a0_180), .sc (.string a0_181), .sc (.int .i64 a0_182), .ls false (r_Node false a0_183)]] []) = some (zbp a0_180 a0_181 a0_182 a0_183 r_) := by
 rw [zw]
 simp only [zbi] at h_
 obtain ⟨r276, h1_, h_⟩ := za h_
 have h1_f := hRi_statements a0_183 _ h1_
 try simp [zaI] at h1_f
 obtain ⟨s133, h2_, h_⟩ := zb h_
 obtain ⟨s134, h3_, h_⟩ := zb h_
 cases h_
 simp +decide [-getElem?_pos, zsH, h1_f, h2_, h3_, zbp]
/-- impl.exprText -/
def zV (Ri_statements : (List T_Node) → Option ByteArray) (Ri_exprText : Int → ByteArray → Int → (List T_Node) → Option ByteArray) (a0_174 : Int) (a0_175 : ByteArray) (a0_176 : Int) (a0_177 : List T_Node) : Option ByteArray :=
 if a0_174 = 10 then
  if a0_176 < 0 then
   bS (zb2 a0_176) fun r252 =>
   bS (cat (⟨#[40]⟩ : ByteArray) r252) fun s94 =>
   bS (cat s94 (⟨#[41]⟩ : ByteArray)) fun s95 =>
   some s95
  else
  bS (zb2 a0_176) fun r253 =>
  some r253
 else
 if a0_174 = 11 then
  bS (cat (⟨#[34]⟩ : ByteArray) a0_175) fun s96 =>
  bS (cat s96 (⟨#[34]⟩ : ByteArray)) fun s97 =>
  some s97
 else
 if a0_174 = 12 then
  bS (getI ([(⟨#[116, 114, 117, 101]⟩ : ByteArray), (⟨#[102, 97, 108, 115, 101]⟩ : ByteArray), (⟨#[110, 117, 108, 108]⟩ : ByteArray), (⟨#[117, 110, 100, 101, 102, 105, 110, 101, 100]⟩ : ByteArray)]) (IntKind.i64.wrap (a0_174 - 12))) fun e44 =>
  some e44
 else
 if a0_174 = 13 then
  bS (getI ([(⟨#[116, 114, 117, 101]⟩ : ByteArray), (⟨#[102, 97, 108, 115, 101]⟩ : ByteArray), (⟨#[110, 117, 108, 108]⟩ : ByteArray), (⟨#[117, 110, 100, 101, 102, 105, 110, 101, 100]⟩ : ByteArray)]) (IntKind.i64.wrap (a0_174 - 12))) fun e45 =>
  some e45
 else
 if a0_174 = 14 then
  bS (getI ([(⟨#[116, 114, 117, 101]⟩ : ByteArray), (⟨#[102, 97, 108, 115, 101]⟩ : ByteArray), (⟨#[110, 117, 108, 108]⟩ : ByteArray), (⟨#[117, 110, 100, 101, 102, 105, 110, 101, 100]⟩ : ByteArray)]) (IntKind.i64.wrap (a0_174 - 12))) fun e46 =>
  some e46
 else
 if a0_174 = 15 then
  bS (getI ([(⟨#[116, 114, 117, 101]⟩ : ByteArray), (⟨#[102, 97, 108, 115, 101]⟩ : ByteArray), (⟨#[110, 117, 108, 108]⟩ : ByteArray), (⟨#[117, 110, 100, 101, 102, 105, 110, 101, 100]⟩ : ByteArray)]) (IntKind.i64.wrap (a0_174 - 12))) fun e47 =>
  some e47
 else
 if a0_174 = 16 then
  some a0_175
 else
 if a0_174 = 17 then
  bS (zu Ri_exprText 0 a0_174 a0_175 a0_176 a0_177) fun r255 =>
  bS (cat (⟨#[40]⟩ : ByteArray) r255) fun s98 =>
  bS (cat s98 (⟨#[41, 46]⟩ : ByteArray)) fun s99 =>
  bS (cat s99 a0_175) fun s100 =>
  some s100
 else
 if a0_174 = 18 then
  bS (zu Ri_exprText 0 a0_174 a0_175 a0_176 a0_177) fun r256 =>
  bS (cat (⟨#[40]⟩ : ByteArray) r256) fun s101 =>
  bS (cat s101 (⟨#[41, 40]⟩ : ByteArray)) fun s102 =>
  if 1 ≤ a0_177.length ∧ a0_177.length ≤ a0_177.length ∧ a0_177.length ≤ a0_177.length then
  bS (zdZ Ri_exprText (List.take (a0_177.length - 1) (List.drop 1 a0_177))) fun r260 =>
  bS (cat s102 r260) fun s103 =>
  bS (cat s103 (⟨#[41]⟩ : ByteArray)) fun s104 =>
  some s104
  else none
 else
 if a0_174 = 19 then
  bS (zu Ri_exprText 0 a0_174 a0_175 a0_176 a0_177) fun r261 =>
  bS (cat (⟨#[40]⟩ : ByteArray) r261) fun s105 =>
  bS (getI ([(⟨#[32, 43, 32]⟩ : ByteArray), (⟨#[32, 45, 32]⟩ : ByteArray), (⟨#[32, 42, 32]⟩ : ByteArray), (⟨#[32, 60, 32]⟩ : ByteArray), (⟨#[32, 61, 61, 32]⟩ : ByteArray)]) (IntKind.i64.wrap (a0_174 - 19))) fun e50 =>
  bS (cat s105 e50) fun s106 =>
  bS (zu Ri_exprText 1 a0_174 a0_175 a0_176 a0_177) fun r262 =>
  bS (cat s106 r262) fun s107 =>
  bS (cat s107 (⟨#[41]⟩ : ByteArray)) fun s108 =>
  some s108
 else
 if a0_174 = 20 then
  bS (zu Ri_exprText 0 a0_174 a0_175 a0_176 a0_177) fun r263 =>
  bS (cat (⟨#[40]⟩ : ByteArray) r263) fun s109 =>
  bS (getI ([(⟨#[32, 43, 32]⟩ : ByteArray), (⟨#[32, 45, 32]⟩ : ByteArray), (⟨#[32, 42, 32]⟩ : ByteArray), (⟨#[32, 60, 32]⟩ : ByteArray), (⟨#[32, 61, 61, 32]⟩ : ByteArray)]) (IntKind.i64.wrap (a0_174 - 19))) fun e51 =>
  bS (cat s109 e51) fun s110 =>
  bS (zu Ri_exprText 1 a0_174 a0_175 a0_176 a0_177) fun r264 =>
  bS (cat s110 r264) fun s111 =>
  bS (cat s111 (⟨#[41]⟩ : ByteArray)) fun s112 =>
  some s112
 else
 if a0_174 = 21 then
  bS (zu Ri_exprText 0 a0_174 a0_175 a0_176 a0_177) fun r265 =>
  bS (cat (⟨#[40]⟩ : ByteArray) r265) fun s113 =>
  bS (getI ([(⟨#[32, 43, 32]⟩ : ByteArray), (⟨#[32, 45, 32]⟩ : ByteArray), (⟨#[32, 42, 32]⟩ : ByteArray), (⟨#[32, 60, 32]⟩ : ByteArray), (⟨#[32, 61, 61, 32]⟩ : ByteArray)]) (IntKind.i64.wrap (a0_174 - 19))) fun e52 =>
  bS (cat s113 e52) fun s114 =>
  bS (zu Ri_exprText 1 a0_174 a0_175 a0_176 a0_177) fun r266 =>
  bS (cat s114 r266) fun s115 =>
  bS (cat s115 (⟨#[41]⟩ : ByteArray)) fun s116 =>
  some s116
 else
 if a0_174 = 22 then
  bS (zu Ri_exprText 0 a0_174 a0_175 a0_176 a0_177) fun r267 =>
  bS (cat (⟨#[40]⟩ : ByteArray) r267) fun s117 =>
  bS (getI ([(⟨#[32, 43, 32]⟩ : ByteArray), (⟨#[32, 45, 32]⟩ : ByteArray), (⟨#[32, 42, 32]⟩ : ByteArray), (⟨#[32, 60, 32]⟩ : ByteArray), (⟨#[32, 61, 61, 32]⟩ : ByteArray)]) (IntKind.i64.wrap (a0_174 - 19))) fun e53 =>
  bS (cat s117 e53) fun s118 =>
  bS (zu Ri_exprText 1 a0_174 a0_175 a0_176 a0_177) fun r268 =>
  bS (cat s118 r268) fun s119 =>
  bS (cat s119 (⟨#[41]⟩ : ByteArray)) fun s120 =>
  some s120
 else
 if a0_174 = 23 then
  bS (zu Ri_exprText 0 a0_174 a0_175 a0_176 a0_177) fun r269 =>
  bS (cat (⟨#[40]⟩ : ByteArray) r269) fun s121 =>
  bS (getI ([(⟨#[32, 43, 32]⟩ : ByteArray), (⟨#[32, 45, 32]⟩ : ByteArray), (⟨#[32, 42, 32]⟩ : ByteArray), (⟨#[32, 60, 32]⟩ : ByteArray), (⟨#[32, 61, 61, 32]⟩ : ByteArray)]) (IntKind.i64.wrap (a0_174 - 19))) fun e54 =>
  bS (cat s121 e54) fun s122 =>
  bS (zu Ri_exprText 1 a0_174 a0_175 a0_176 a0_177) fun r270 =>
  bS (cat s122 r270) fun s123 =>
  bS (cat s123 (⟨#[41]⟩ : ByteArray)) fun s124 =>
  some s124
 else
 if a0_174 = 24 then
  bS (zu Ri_exprText 0 a0_174 a0_175 a0_176 a0_177) fun r271 =>
  bS (cat (⟨#[33, 40]⟩ : ByteArray) r271) fun s125 =>
  bS (cat s125 (⟨#[41]⟩ : ByteArray)) fun s126 =>
  some s126
 else
 if a0_174 = 26 then
  bS (cat a0_175 (⟨#[58, 32]⟩ : ByteArray)) fun s127 =>
  bS (zu Ri_exprText 0 a0_174 a0_175 a0_176 a0_177) fun r272 =>
  bS (cat s127 r272) fun s128 =>
  some s128
 else
 if a0_174 = 25 then
  bS (zdZ Ri_exprText a0_177) fun r273 =>
  bS (cat (⟨#[123]⟩ : ByteArray) r273) fun s129 =>
  bS (cat s129 (⟨#[125]⟩ : ByteArray)) fun s130 =>
  some s130
 else
 bS (Fi_namesOf a0_174 a0_175 a0_176 a0_177) fun r274 =>
 bS (Fstrings_Join r274 (⟨#[44, 32]⟩ : ByteArray)) fun r275 =>
 bS (cat (⟨#[102, 117, 110, 99, 116, 105, 111, 110, 40]⟩ : ByteArray) r275) fun s131 =>
 bS (cat s131 (⟨#[41, 32]⟩ : ByteArray)) fun s132 =>
 bS (getI a0_177 0) fun e55 =>
 bS (zbi Ri_statements e55.op_ e55.s_ e55.n_ e55.kids_) fun r277 =>
 bS (cat s132 r277) fun s135 =>
 some s135
theorem Si_exprText_ok (Ri_statements) (hRi_statements : zbm Ri_statements) (Ri_exprText) (hRi_exprText : zeu Ri_exprText) (a0_174 : Int) (a0_175 : ByteArray) (a0_176 : Int) (a0_177 : List T_Node) (r_ : ByteArray) (h_ : zV Ri_statements Ri_exprText a0_174 a0_175 a0_176 a0_177 = some r_) : ev EE (.call 71 [.ag [.sc (.int .i64 a0_174), .sc (.string a0_175), .sc (.int .i64 a0_176), .ls false (r_Node false a0_177)]] []) = some (zo a0_174 a0_175 a0_176 a0_177 r_) := by
 rw [zw]
 simp only [zV] at h_
 rcases bI h_ with ⟨h1_, h_⟩ | ⟨h1_, h_⟩
 ·rcases bI h_ with ⟨h2_, h_⟩ | ⟨h2_, h_⟩
  ·obtain ⟨r252, h3_, h_⟩ := za h_
   have h3_f := zeI a0_176 _ h3_
   try simp [zcT] at h3_f
   obtain ⟨s94, h4_, h_⟩ := zb h_
   obtain ⟨s95, h5_, h_⟩ := zb h_
   cases h_
   simp +decide [-getElem?_pos, zeq, eq_true h1_, h2_, h3_f, h4_, h5_, zo]
  obtain ⟨r253, h3_, h_⟩ := za h_
  have h3_f := zeI a0_176 _ h3_
  try simp [zcT] at h3_f
  cases h_
  simp +decide [-getElem?_pos, zeq, eq_true h1_, h2_, h3_f, zo]
 rcases bI h_ with ⟨h2_, h_⟩ | ⟨h2_, h_⟩
 ·obtain ⟨s96, h3_, h_⟩ := zb h_
  obtain ⟨s97, h4_, h_⟩ := zb h_
  cases h_
  simp +decide [-getElem?_pos, zeq, h1_, eq_true h2_, h3_, h4_, zo]
 rcases bI h_ with ⟨h3_, h_⟩ | ⟨h3_, h_⟩
 ·obtain ⟨e44, h4_, h_⟩ := za h_
  obtain ⟨h4_a, h4_b, h4_c, h4_d⟩ := zbn  h4_
  try simp [-getElem?_pos] at h4_d
  try simp at h4_b; try simp at h4_c
  cases h_
  simp +decide [-getElem?_pos, zeq, h1_, h2_, eq_true h3_, h4_a, h4_b, h4_c, h4_d, zo]
 rcases bI h_ with ⟨h4_, h_⟩ | ⟨h4_, h_⟩
 ·obtain ⟨e45, h5_, h_⟩ := za h_
  obtain ⟨h5_a, h5_b, h5_c, h5_d⟩ := zbn  h5_
  try simp [-getElem?_pos] at h5_d
  try simp at h5_b; try simp at h5_c
  cases h_
  simp +decide [-getElem?_pos, zeq, h1_, h2_, h3_, eq_true h4_, h5_a, h5_b, h5_c, h5_d, zo]
 rcases bI h_ with ⟨h5_, h_⟩ | ⟨h5_, h_⟩
 ·obtain ⟨e46, h6_, h_⟩ := za h_
  obtain ⟨h6_a, h6_b, h6_c, h6_d⟩ := zbn  h6_
  try simp [-getElem?_pos] at h6_d
  try simp at h6_b; try simp at h6_c
  cases h_
  simp +decide [-getElem?_pos, zeq, h1_, h2_, h3_, h4_, eq_true h5_, h6_a, h6_b, h6_c, h6_d, zo]
 rcases bI h_ with ⟨h6_, h_⟩ | ⟨h6_, h_⟩
 ·obtain ⟨e47, h7_, h_⟩ := za h_
  obtain ⟨h7_a, h7_b, h7_c, h7_d⟩ := zbn  h7_
  try simp [-getElem?_pos] at h7_d
  try simp at h7_b; try simp at h7_c
  cases h_
  simp +decide [-getElem?_pos, zeq, h1_, h2_, h3_, h4_, h5_, eq_true h6_, h7_a, h7_b, h7_c, h7_d, zo]
 rcases bI h_ with ⟨h7_, h_⟩ | ⟨h7_, h_⟩
 ·cases h_
  simp +decide [-getElem?_pos, zeq, h1_, h2_, h3_, h4_, h5_, h6_, eq_true h7_, zo]
 rcases bI h_ with ⟨h8_, h_⟩ | ⟨h8_, h_⟩
 ·obtain ⟨r255, h9_, h_⟩ := za h_
  have h9_f := zE Ri_exprText hRi_exprText 0 a0_174 a0_175 a0_176 a0_177 _ h9_
  try simp [zt] at h9_f
  obtain ⟨s98, h10_, h_⟩ := zb h_
  obtain ⟨s99, h11_, h_⟩ := zb h_
  obtain ⟨s100, h12_, h_⟩ := zb h_
  cases h_
  simp +decide [-getElem?_pos, zeq, h1_, h2_, h3_, h4_, h5_, h6_, h7_, eq_true h8_, h9_f, h10_, h11_, h12_, zo]
 rcases bI h_ with ⟨h9_, h_⟩ | ⟨h9_, h_⟩
 ·obtain ⟨r256, h10_, h_⟩ := za h_
  have h10_f := zE Ri_exprText hRi_exprText 0 a0_174 a0_175 a0_176 a0_177 _ h10_
  try simp [zt] at h10_f
  obtain ⟨s101, h11_, h_⟩ := zb h_
  obtain ⟨s102, h12_, h_⟩ := zb h_
  obtain ⟨h13_, h_⟩ := bP h_
  obtain ⟨r260, h14_, h_⟩ := za h_
  have h14_f := zgM Ri_exprText hRi_exprText (List.take (a0_177.length - 1) (List.drop 1 a0_177)) _ h14_
  try simp [zdq] at h14_f
  obtain ⟨s103, h15_, h_⟩ := zb h_
  obtain ⟨s104, h16_, h_⟩ := zb h_
  cases h_
  simp +decide [-getElem?_pos, zeq, h1_, h2_, h3_, h4_, h5_, h6_, h7_, h8_, eq_true h9_, h10_f, h11_, h12_, h13_, h14_f, h15_, h16_, zo]
 rcases bI h_ with ⟨h10_, h_⟩ | ⟨h10_, h_⟩
 ·obtain ⟨r261, h11_, h_⟩ := za h_
  have h11_f := zE Ri_exprText hRi_exprText 0 a0_174 a0_175 a0_176 a0_177 _ h11_
  try simp [zt] at h11_f
  obtain ⟨s105, h12_, h_⟩ := zb h_
  obtain ⟨e50, h13_, h_⟩ := za h_
  obtain ⟨h13_a, h13_b, h13_c, h13_d⟩ := zbn  h13_
  try simp [-getElem?_pos] at h13_d
  try simp at h13_b; try simp at h13_c
  obtain ⟨s106, h17_, h_⟩ := zb h_
  obtain ⟨r262, h18_, h_⟩ := za h_
  have h18_f := zE Ri_exprText hRi_exprText 1 a0_174 a0_175 a0_176 a0_177 _ h18_
  try simp [zt] at h18_f
  obtain ⟨s107, h19_, h_⟩ := zb h_
  obtain ⟨s108, h20_, h_⟩ := zb h_
  cases h_
  simp +decide [-getElem?_pos, zeq, h1_, h2_, h3_, h4_, h5_, h6_, h7_, h8_, h9_, eq_true h10_, h11_f, h12_, h13_a, h13_b, h13_c, h13_d, h17_, h18_f, h19_, h20_, zo]
 rcases bI h_ with ⟨h11_, h_⟩ | ⟨h11_, h_⟩
 ·obtain ⟨r263, h12_, h_⟩ := za h_
  have h12_f := zE Ri_exprText hRi_exprText 0 a0_174 a0_175 a0_176 a0_177 _ h12_
  try simp [zt] at h12_f
  obtain ⟨s109, h13_, h_⟩ := zb h_
  obtain ⟨e51, h14_, h_⟩ := za h_
  obtain ⟨h14_a, h14_b, h14_c, h14_d⟩ := zbn  h14_
  try simp [-getElem?_pos] at h14_d
  try simp at h14_b; try simp at h14_c
  obtain ⟨s110, h18_, h_⟩ := zb h_
  obtain ⟨r264, h19_, h_⟩ := za h_
  have h19_f := zE Ri_exprText hRi_exprText 1 a0_174 a0_175 a0_176 a0_177 _ h19_
  try simp [zt] at h19_f
  obtain ⟨s111, h20_, h_⟩ := zb h_
  obtain ⟨s112, h21_, h_⟩ := zb h_
  cases h_
  simp +decide [-getElem?_pos, zeq, h1_, h2_, h3_, h4_, h5_, h6_, h7_, h8_, h9_, h10_, eq_true h11_, h12_f, h13_, h14_a, h14_b, h14_c, h14_d, h18_, h19_f, h20_, h21_, zo]
 rcases bI h_ with ⟨h12_, h_⟩ | ⟨h12_, h_⟩
 ·obtain ⟨r265, h13_, h_⟩ := za h_
  have h13_f := zE Ri_exprText hRi_exprText 0 a0_174 a0_175 a0_176 a0_177 _ h13_
  try simp [zt] at h13_f
  obtain ⟨s113, h14_, h_⟩ := zb h_
  obtain ⟨e52, h15_, h_⟩ := za h_
  obtain ⟨h15_a, h15_b, h15_c, h15_d⟩ := zbn  h15_
  try simp [-getElem?_pos] at h15_d
  try simp at h15_b; try simp at h15_c
  obtain ⟨s114, h19_, h_⟩ := zb h_
  obtain ⟨r266, h20_, h_⟩ := za h_
  have h20_f := zE Ri_exprText hRi_exprText 1 a0_174 a0_175 a0_176 a0_177 _ h20_
  try simp [zt] at h20_f
  obtain ⟨s115, h21_, h_⟩ := zb h_
  obtain ⟨s116, h22_, h_⟩ := zb h_
  cases h_
  simp +decide [-getElem?_pos, zeq, h1_, h2_, h3_, h4_, h5_, h6_, h7_, h8_, h9_, h10_, h11_, eq_true h12_, h13_f, h14_, h15_a, h15_b, h15_c, h15_d, h19_, h20_f, h21_, h22_, zo]
 rcases bI h_ with ⟨h13_, h_⟩ | ⟨h13_, h_⟩
 ·obtain ⟨r267, h14_, h_⟩ := za h_
  have h14_f := zE Ri_exprText hRi_exprText 0 a0_174 a0_175 a0_176 a0_177 _ h14_
  try simp [zt] at h14_f
  obtain ⟨s117, h15_, h_⟩ := zb h_
  obtain ⟨e53, h16_, h_⟩ := za h_
  obtain ⟨h16_a, h16_b, h16_c, h16_d⟩ := zbn  h16_
  try simp [-getElem?_pos] at h16_d
  try simp at h16_b; try simp at h16_c
  obtain ⟨s118, h20_, h_⟩ := zb h_
  obtain ⟨r268, h21_, h_⟩ := za h_
  have h21_f := zE Ri_exprText hRi_exprText 1 a0_174 a0_175 a0_176 a0_177 _ h21_
  try simp [zt] at h21_f
  obtain ⟨s119, h22_, h_⟩ := zb h_
  obtain ⟨s120, h23_, h_⟩ := zb h_
  cases h_
  simp +decide [-getElem?_pos, zeq, h1_, h2_, h3_, h4_, h5_, h6_, h7_, h8_, h9_, h10_, h11_, h12_, eq_true h13_, h14_f, h15_, h16_a, h16_b, h16_c, h16_d, h20_, h21_f, h22_, h23_, zo]
 rcases bI h_ with ⟨h14_, h_⟩ | ⟨h14_, h_⟩
 ·obtain ⟨r269, h15_, h_⟩ := za h_
  have h15_f := zE Ri_exprText hRi_exprText 0 a0_174 a0_175 a0_176 a0_177 _ h15_
  try simp [zt] at h15_f
  obtain ⟨s121, h16_, h_⟩ := zb h_
  obtain ⟨e54, h17_, h_⟩ := za h_
  obtain ⟨h17_a, h17_b, h17_c, h17_d⟩ := zbn  h17_
  try simp [-getElem?_pos] at h17_d
  try simp at h17_b; try simp at h17_c
  obtain ⟨s122, h21_, h_⟩ := zb h_
  obtain ⟨r270, h22_, h_⟩ := za h_
  have h22_f := zE Ri_exprText hRi_exprText 1 a0_174 a0_175 a0_176 a0_177 _ h22_
  try simp [zt] at h22_f
  obtain ⟨s123, h23_, h_⟩ := zb h_
  obtain ⟨s124, h24_, h_⟩ := zb h_
  cases h_
  simp +decide [-getElem?_pos, zeq, h1_, h2_, h3_, h4_, h5_, h6_, h7_, h8_, h9_, h10_, h11_, h12_, h13_, eq_true h14_, h15_f, h16_, h17_a, h17_b, h17_c, h17_d, h21_, h22_f, h23_, h24_, zo]
 rcases bI h_ with ⟨h15_, h_⟩ | ⟨h15_, h_⟩
 ·obtain ⟨r271, h16_, h_⟩ := za h_
  have h16_f := zE Ri_exprText hRi_exprText 0 a0_174 a0_175 a0_176 a0_177 _ h16_
  try simp [zt] at h16_f
  obtain ⟨s125, h17_, h_⟩ := zb h_
  obtain ⟨s126, h18_, h_⟩ := zb h_
  cases h_
  simp +decide [-getElem?_pos, zeq, h1_, h2_, h3_, h4_, h5_, h6_, h7_, h8_, h9_, h10_, h11_, h12_, h13_, h14_, eq_true h15_, h16_f, h17_, h18_, zo]
 rcases bI h_ with ⟨h16_, h_⟩ | ⟨h16_, h_⟩
 ·obtain ⟨s127, h17_, h_⟩ := zb h_
  obtain ⟨r272, h18_, h_⟩ := za h_
  have h18_f := zE Ri_exprText hRi_exprText 0 a0_174 a0_175 a0_176 a0_177 _ h18_
  try simp [zt] at h18_f
  obtain ⟨s128, h19_, h_⟩ := zb h_
  cases h_
  simp +decide [-getElem?_pos, zeq, h1_, h2_, h3_, h4_, h5_, h6_, h7_, h8_, h9_, h10_, h11_, h12_, h13_, h14_, h15_, eq_true h16_, h17_, h18_f, h19_, zo]
 rcases bI h_ with ⟨h17_, h_⟩ | ⟨h17_, h_⟩
 ·obtain ⟨r273, h18_, h_⟩ := za h_
  have h18_f := zgM Ri_exprText hRi_exprText a0_177 _ h18_
  try simp [zdq] at h18_f
  obtain ⟨s129, h19_, h_⟩ := zb h_
  obtain ⟨s130, h20_, h_⟩ := zb h_
  cases h_
  simp +decide [-getElem?_pos, zeq, h1_, h2_, h3_, h4_, h5_, h6_, h7_, h8_, h9_, h10_, h11_, h12_, h13_, h14_, h15_, h16_, eq_true h17_, h18_f, h19_, h20_, zo]
 obtain ⟨r274, h18_, h_⟩ := za h_
 have h18_f := zge a0_174 a0_175 a0_176 a0_177 _ h18_
 try simp [zci] at h18_f
 obtain ⟨r275, h19_, h_⟩ := za h_
 have h19_f := zeH r274 (⟨#[44, 32]⟩ : ByteArray) _ h19_
 try simp [zcS] at h19_f
 obtain ⟨s131, h20_, h_⟩ := zb h_
 obtain ⟨s132, h21_, h_⟩ := zb h_
 obtain ⟨e55, h22_, h_⟩ := za h_
 obtain ⟨h22_a, h22_b, h22_c, h22_d⟩ := zj (o := false)  h22_
 try simp [-getElem?_pos] at h22_d
 try simp at h22_b; try simp at h22_c
 obtain ⟨r277, h26_, h_⟩ := za h_
 have h26_f := zcG Ri_statements hRi_statements e55.op_ e55.s_ e55.n_ e55.kids_ _ h26_
 try simp [zbp] at h26_f
 obtain ⟨s135, h27_, h_⟩ := zb h_
 cases h_
 simp +decide [-getElem?_pos, zeq, h1_, h2_, h3_, h4_, h5_, h6_, h7_, h8_, h9_, h10_, h11_, h12_, h13_, h14_, h15_, h16_, h17_, h18_f, h19_f, h20_, h21_, h22_a, h22_b, h22_c, h22_d, h26_f, h27_, zo]
end Go.Pv

namespace Go.Pv
set_option maxRecDepth 100000
set_option maxHeartbeats 40000000
set_option linter.unusedSimpArgs false
set_option linter.unusedVariables false
def Fi_exprTextn (Ri_statements : (List T_Node) → Option ByteArray) : Nat → Int → ByteArray → Int → (List T_Node) → Option ByteArray
 | 0 => fun _ _ _ _ => none
 | n_ + 1 => zV Ri_statements (Fi_exprTextn Ri_statements n_)
def zfv (Ri_statements : (List T_Node) → Option ByteArray) (a0_174 : Int) (a0_175 : ByteArray) (a0_176 : Int) (a0_177 : List T_Node) : Option ByteArray := Fi_exprTextn Ri_statements FU a0_174 a0_175 a0_176 a0_177
theorem zif (Ri_statements) (hRi_statements : zbm Ri_statements) : ∀ (n_ : Nat) (a0_174 : Int) (a0_175 : ByteArray) (a0_176 : Int) (a0_177 : List T_Node) (r_ : ByteArray), Fi_exprTextn Ri_statements n_ a0_174 a0_175 a0_176 a0_177 = some r_ → ev EE (.call 71 [.ag [.sc (.int .i64 a0_174), .sc (.string a0_175), .sc (.int .i64 a0_176), .ls false (r_Node false a0_177)]] []) = some (zo a0_174 a0_175 a0_176 a0_177 r_) := by
 intro n_
 induction n_ with
 | zero => intro a0_174 a0_175 a0_176 a0_177 r_ h_; cases h_
 | succ n_ ih_ => intro a0_174 a0_175 a0_176 a0_177 r_ h_; exact Si_exprText_ok Ri_statements hRi_statements (Fi_exprTextn Ri_statements n_) ih_ a0_174 a0_175 a0_176 a0_177 r_ h_
theorem ziF (Ri_statements) (hRi_statements : zbm Ri_statements) (a0_174 : Int) (a0_175 : ByteArray) (a0_176 : Int) (a0_177 : List T_Node) (r_ : ByteArray) (h_ : zfv Ri_statements a0_174 a0_175 a0_176 a0_177 = some r_) : ev EE (.call 71 [.ag [.sc (.int .i64 a0_174), .sc (.string a0_175), .sc (.int .i64 a0_176), .ls false (r_Node false a0_177)]] []) = some (zo a0_174 a0_175 a0_176 a0_177 r_) := zif Ri_statements hRi_statements FU a0_174 a0_175 a0_176 a0_177 r_ h_
/-- impl.statement$1 -/
def zK (Ri_statements : (List T_Node) → Option ByteArray) (a0_173 : Int) (x0_59 : Int) (x0_60 : ByteArray) (x0_61 : Int) (x0_62 : List T_Node) : Option ByteArray :=
 bS (getI x0_62 a0_173) fun e43 =>
 bS (zfv Ri_statements e43.op_ e43.s_ e43.n_ e43.kids_) fun r278 =>
 some r278
def zQ (a0_173 : Int) (x0_59 : Int) (x0_60 : ByteArray) (x0_61 : Int) (x0_62 : List T_Node) : ByteArray → Ans
 | q108 => .val (.sc (.string q108)) [.b [.sc (.int .i64 x0_59), .sc (.string x0_60), .sc (.int .i64 x0_61), .ls false (r_Node false x0_62)]]
theorem zac (Ri_statements) (hRi_statements : zbm Ri_statements) (a0_173 : Int) (x0_59 : Int) (x0_60 : ByteArray) (x0_61 : Int) (x0_62 : List T_Node) (r_ : ByteArray) (h_ : zK Ri_statements a0_173 x0_59 x0_60 x0_61 x0_62 = some r_) : ev EE (.call 70 [.sc (.int .i64 a0_173), .bx 0 0] [.b [.sc (.int .i64 x0_59), .sc (.string x0_60), .sc (.int .i64 x0_61), .ls false (r_Node false x0_62)]]) = some (zQ a0_173 x0_59 x0_60 x0_61 x0_62 r_) := by
 rw [zw]
 simp only [zK] at h_
 obtain ⟨e43, h1_, h_⟩ := za h_
 obtain ⟨h1_a, h1_b, h1_c, h1_d⟩ := zj (o := false)  h1_
 try simp [-getElem?_pos] at h1_d
 obtain ⟨r278, h5_, h_⟩ := za h_
 have h5_f := ziF Ri_statements hRi_statements e43.op_ e43.s_ e43.n_ e43.kids_ _ h5_
 try simp [zo] at h5_f
 cases h_
 simp +decide [-getElem?_pos, zsG, h1_a, h1_b, h1_c, h1_d, h5_f, zQ]
/-- impl.statement -/
def Fi_statement (Ri_statements : (List T_Node) → Option ByteArray) (a0_169 : Int) (a0_170 : ByteArray) (a0_171 : Int) (a0_172 : List T_Node) : Option ByteArray :=
 if a0_169 = 2 then
  bS (cat (⟨#[108, 101, 116, 32]⟩ : ByteArray) a0_170) fun s92 =>
  bS (cat s92 (⟨#[32, 61, 32]⟩ : ByteArray)) fun s93 =>
  bS (zK Ri_statements 0 a0_169 a0_170 a0_171 a0_172) fun r279 =>
  bS (cat s93 r279) fun s136 =>
  bS (cat s136 (⟨#[59]⟩ : ByteArray)) fun s137 =>
  some s137
 else
 if a0_169 = 3 then
  bS (cat a0_170 (⟨#[32, 61, 32]⟩ : ByteArray)) fun s138 =>
  bS (zK Ri_statements 0 a0_169 a0_170 a0_171 a0_172) fun r280 =>
  bS (cat s138 r280) fun s139 =>
  bS (cat s139 (⟨#[59]⟩ : ByteArray)) fun s140 =>
  some s140
 else
 if a0_169 = 4 then
  bS (zK Ri_statements 0 a0_169 a0_170 a0_171 a0_172) fun r281 =>
  bS (cat (⟨#[40]⟩ : ByteArray) r281) fun s141 =>
  bS (cat s141 (⟨#[41, 46]⟩ : ByteArray)) fun s142 =>
  bS (cat s142 a0_170) fun s143 =>
  bS (cat s143 (⟨#[32, 61, 32]⟩ : ByteArray)) fun s144 =>
  bS (zK Ri_statements 1 a0_169 a0_170 a0_171 a0_172) fun r282 =>
  bS (cat s144 r282) fun s145 =>
  bS (cat s145 (⟨#[59]⟩ : ByteArray)) fun s146 =>
  some s146
 else
 if a0_169 = 5 then
  bS (zK Ri_statements 0 a0_169 a0_170 a0_171 a0_172) fun r283 =>
  bS (cat (⟨#[105, 102, 32, 40]⟩ : ByteArray) r283) fun s147 =>
  bS (cat s147 (⟨#[41, 32]⟩ : ByteArray)) fun s148 =>
  bS (getI a0_172 1) fun e56 =>
  bS (zbi Ri_statements e56.op_ e56.s_ e56.n_ e56.kids_) fun r284 =>
  bS (cat s148 r284) fun s149 =>
  if (a0_172.length : Int) = 3 then
   bS (getI a0_172 2) fun e57 =>
   bS (zbi Ri_statements e57.op_ e57.s_ e57.n_ e57.kids_) fun r285 =>
   bS (cat (⟨#[32, 101, 108, 115, 101, 32]⟩ : ByteArray) r285) fun s150 =>
   bS (cat s149 s150) fun s151 =>
   some s151
  else
   some s149
 else
 if a0_169 = 6 then
  bS (zK Ri_statements 0 a0_169 a0_170 a0_171 a0_172) fun r286 =>
  bS (cat (⟨#[119, 104, 105, 108, 101, 32, 40]⟩ : ByteArray) r286) fun s152 =>
  bS (cat s152 (⟨#[41, 32]⟩ : ByteArray)) fun s153 =>
  bS (getI a0_172 1) fun e58 =>
  bS (zbi Ri_statements e58.op_ e58.s_ e58.n_ e58.kids_) fun r287 =>
  bS (cat s153 r287) fun s154 =>
  some s154
 else
 if a0_169 = 7 then
  bS (zK Ri_statements 0 a0_169 a0_170 a0_171 a0_172) fun r288 =>
  bS (cat (⟨#[114, 101, 116, 117, 114, 110, 32]⟩ : ByteArray) r288) fun s155 =>
  bS (cat s155 (⟨#[59]⟩ : ByteArray)) fun s156 =>
  some s156
 else
 if a0_169 = 8 then
  bS (zK Ri_statements 0 a0_169 a0_170 a0_171 a0_172) fun r289 =>
  bS (cat (⟨#[112, 114, 105, 110, 116, 32]⟩ : ByteArray) r289) fun s157 =>
  bS (cat s157 (⟨#[59]⟩ : ByteArray)) fun s158 =>
  some s158
 else
 bS (zK Ri_statements 0 a0_169 a0_170 a0_171 a0_172) fun r290 =>
 bS (cat r290 (⟨#[59]⟩ : ByteArray)) fun s159 =>
 some s159
def z6 (a0_169 : Int) (a0_170 : ByteArray) (a0_171 : Int) (a0_172 : List T_Node) : ByteArray → Ans
 | q109 => .val (.sc (.string q109)) []
theorem zig (Ri_statements) (hRi_statements : zbm Ri_statements) (a0_169 : Int) (a0_170 : ByteArray) (a0_171 : Int) (a0_172 : List T_Node) (r_ : ByteArray) (h_ : Fi_statement Ri_statements a0_169 a0_170 a0_171 a0_172 = some r_) : ev EE (.call 37 [.ag [.sc (.int .i64 a0_169), .sc (.string a0_170), .sc (.int .i64 a0_171), .ls false (r_Node false a0_172)]] []) = some (z6 a0_169 a0_170 a0_171 a0_172 r_) := by
 rw [zw]
 simp only [Fi_statement] at h_
 rcases bI h_ with ⟨h1_, h_⟩ | ⟨h1_, h_⟩
 ·obtain ⟨s92, h2_, h_⟩ := zb h_
  obtain ⟨s93, h3_, h_⟩ := zb h_
  obtain ⟨r279, h4_, h_⟩ := za h_
  have h4_f := zac Ri_statements hRi_statements 0 a0_169 a0_170 a0_171 a0_172 _ h4_
  try simp [zQ] at h4_f
  obtain ⟨s136, h5_, h_⟩ := zb h_
  obtain ⟨s137, h6_, h_⟩ := zb h_
  cases h_
  simp +decide [-getElem?_pos, zii, eq_true h1_, h2_, h3_, h4_f, h5_, h6_, z6]
 rcases bI h_ with ⟨h2_, h_⟩ | ⟨h2_, h_⟩
 ·obtain ⟨s138, h3_, h_⟩ := zb h_
  obtain ⟨r280, h4_, h_⟩ := za h_
  have h4_f := zac Ri_statements hRi_statements 0 a0_169 a0_170 a0_171 a0_172 _ h4_
  try simp [zQ] at h4_f
  obtain ⟨s139, h5_, h_⟩ := zb h_
  obtain ⟨s140, h6_, h_⟩ := zb h_
  cases h_
  simp +decide [-getElem?_pos, zii, h1_, eq_true h2_, h3_, h4_f, h5_, h6_, z6]
 rcases bI h_ with ⟨h3_, h_⟩ | ⟨h3_, h_⟩
 ·obtain ⟨r281, h4_, h_⟩ := za h_
  have h4_f := zac Ri_statements hRi_statements 0 a0_169 a0_170 a0_171 a0_172 _ h4_
  try simp [zQ] at h4_f
  obtain ⟨s141, h5_, h_⟩ := zb h_
  obtain ⟨s142, h6_, h_⟩ := zb h_
  obtain ⟨s143, h7_, h_⟩ := zb h_
  obtain ⟨s144, h8_, h_⟩ := zb h_
  obtain ⟨r282, h9_, h_⟩ := za h_
  have h9_f := zac Ri_statements hRi_statements 1 a0_169 a0_170 a0_171 a0_172 _ h9_
  try simp [zQ] at h9_f
  obtain ⟨s145, h10_, h_⟩ := zb h_
  obtain ⟨s146, h11_, h_⟩ := zb h_
  cases h_
  simp +decide [-getElem?_pos, zii, h1_, h2_, eq_true h3_, h4_f, h5_, h6_, h7_, h8_, h9_f, h10_, h11_, z6]
 rcases bI h_ with ⟨h4_, h_⟩ | ⟨h4_, h_⟩
 ·obtain ⟨r283, h5_, h_⟩ := za h_
  have h5_f := zac Ri_statements hRi_statements 0 a0_169 a0_170 a0_171 a0_172 _ h5_
  try simp [zQ] at h5_f
  obtain ⟨s147, h6_, h_⟩ := zb h_
  obtain ⟨s148, h7_, h_⟩ := zb h_
  obtain ⟨e56, h8_, h_⟩ := za h_
  obtain ⟨h8_a, h8_b, h8_c, h8_d⟩ := zj (o := false)  h8_
  try simp [-getElem?_pos] at h8_d
  try simp at h8_b; try simp at h8_c
  obtain ⟨r284, h12_, h_⟩ := za h_
  have h12_f := zcG Ri_statements hRi_statements e56.op_ e56.s_ e56.n_ e56.kids_ _ h12_
  try simp [zbp] at h12_f
  obtain ⟨s149, h13_, h_⟩ := zb h_
  rcases bI h_ with ⟨h14_, h_⟩ | ⟨h14_, h_⟩
  ·have h14_s := h14_; try simp at h14_s
   obtain ⟨e57, h16_, h_⟩ := za h_
   obtain ⟨h16_a, h16_b, h16_c, h16_d⟩ := zj (o := false)  h16_
   try simp [-getElem?_pos] at h16_d
   try simp at h16_b; try simp at h16_c
   obtain ⟨r285, h20_, h_⟩ := za h_
   have h20_f := zcG Ri_statements hRi_statements e57.op_ e57.s_ e57.n_ e57.kids_ _ h20_
   try simp [zbp] at h20_f
   obtain ⟨s150, h21_, h_⟩ := zb h_
   obtain ⟨s151, h22_, h_⟩ := zb h_
   cases h_
   simp +decide [-getElem?_pos, zii, h1_, h2_, h3_, eq_true h4_, h5_f, h6_, h7_, h8_a, h8_b, h8_c, h8_d, h12_f, h13_, eq_true h14_, eq_true h14_s, h16_a, h16_b, h16_c, h16_d, h20_f, h21_, h22_, z6]
  have h14_s := h14_; try simp at h14_s
  cases h_
  simp +decide [-getElem?_pos, zii, h1_, h2_, h3_, eq_true h4_, h5_f, h6_, h7_, h8_a, h8_b, h8_c, h8_d, h12_f, h13_, h14_, h14_s, z6]
 rcases bI h_ with ⟨h5_, h_⟩ | ⟨h5_, h_⟩
 ·obtain ⟨r286, h6_, h_⟩ := za h_
  have h6_f := zac Ri_statements hRi_statements 0 a0_169 a0_170 a0_171 a0_172 _ h6_
  try simp [zQ] at h6_f
  obtain ⟨s152, h7_, h_⟩ := zb h_
  obtain ⟨s153, h8_, h_⟩ := zb h_
  obtain ⟨e58, h9_, h_⟩ := za h_
  obtain ⟨h9_a, h9_b, h9_c, h9_d⟩ := zj (o := false)  h9_
  try simp [-getElem?_pos] at h9_d
  try simp at h9_b; try simp at h9_c
  obtain ⟨r287, h13_, h_⟩ := za h_
  have h13_f := zcG Ri_statements hRi_statements e58.op_ e58.s_ e58.n_ e58.kids_ _ h13_
  try simp [zbp] at h13_f
  obtain ⟨s154, h14_, h_⟩ := zb h_
  cases h_
  simp +decide [-getElem?_pos, zii, h1_, h2_, h3_, h4_, eq_true h5_, h6_f, h7_, h8_, h9_a, h9_b, h9_c, h9_d, h13_f, h14_, z6]
 rcases bI h_ with ⟨h6_, h_⟩ | ⟨h6_, h_⟩
 ·obtain ⟨r288, h7_, h_⟩ := za h_
  have h7_f := zac Ri_statements hRi_statements 0 a0_169 a0_170 a0_171 a0_172 _ h7_
  try simp [zQ] at h7_f
  obtain ⟨s155, h8_, h_⟩ := zb h_
  obtain ⟨s156, h9_, h_⟩ := zb h_
  cases h_
  simp +decide [-getElem?_pos, zii, h1_, h2_, h3_, h4_, h5_, eq_true h6_, h7_f, h8_, h9_, z6]
 rcases bI h_ with ⟨h7_, h_⟩ | ⟨h7_, h_⟩
 ·obtain ⟨r289, h8_, h_⟩ := za h_
  have h8_f := zac Ri_statements hRi_statements 0 a0_169 a0_170 a0_171 a0_172 _ h8_
  try simp [zQ] at h8_f
  obtain ⟨s157, h9_, h_⟩ := zb h_
  obtain ⟨s158, h10_, h_⟩ := zb h_
  cases h_
  simp +decide [-getElem?_pos, zii, h1_, h2_, h3_, h4_, h5_, h6_, eq_true h7_, h8_f, h9_, h10_, z6]
 obtain ⟨r290, h8_, h_⟩ := za h_
 have h8_f := zac Ri_statements hRi_statements 0 a0_169 a0_170 a0_171 a0_172 _ h8_
 try simp [zQ] at h8_f
 obtain ⟨s159, h9_, h_⟩ := zb h_
 cases h_
 simp +decide [-getElem?_pos, zii, h1_, h2_, h3_, h4_, h5_, h6_, h7_, h8_f, h9_, z6]
def Li_statements_0 (Ri_statements : (List T_Node) → Option ByteArray) : Nat → (List Int) → (List T_Node) → Int → Int → Option (List Int)
 | 0, _, _, _, _ => none
 | n_ + 1, t3_24, t6_3, t7_15, t8_11 =>
 if t8_11 < t7_15 then
  bS (getI t6_3 t8_11) fun e42 =>
  bS (Fi_statement Ri_statements e42.op_ e42.s_ e42.n_ e42.kids_) fun r291 =>
  bS (cat r291 (⟨#[10]⟩ : ByteArray)) fun s160 =>
  if lim (t3_24.length + s160.size) 1 = true then
  Li_statements_0 Ri_statements n_ (t3_24 ++ (zdM s160)) t6_3 t7_15 (IntKind.i64.wrap (t8_11 + 1))
  else none
 else
  some t3_24
def zbc (t3_24 : List Int) (t6_3 : List T_Node) (t7_15 : Int) (t8_11 : Int) : (List Int) → Ans
 | t3_27 => .out (.exit 0) { np := 0, tm := [(3, .rf 0 0 t3_27.length)], ar := [(0, .a false (byi t3_27))], bx := [] }
theorem zgp (Ri_statements) (hRi_statements : zbm Ri_statements) : ∀ (n_ : Nat) (t3_24 : List Int) (t6_3 : List T_Node) (t7_15 : Int) (t8_11 : Int) (r_ : (List Int)), Li_statements_0 Ri_statements n_ t3_24 t6_3 t7_15 t8_11 = some r_ → ev EE (.loop zmC [3, 6, 7, 8] [2, 3] { np := 0, tm := [(3, .rf 0 0 t3_24.length), (6, .ls false (r_Node false t6_3)), (7, .sc (.int .i64 t7_15)), (8, .sc (.int .i64 t8_11))], ar := [(0, .a false (byi t3_24))], bx := [] }) = some (zbc t3_24 t6_3 t7_15 t8_11 r_) := by
 intro n_
 induction n_ with
 | zero => intro t3_24 t6_3 t7_15 t8_11 r_ h_; simp only [Li_statements_0] at h_; cases h_
 | succ n_ ih_ =>
  intro t3_24 t6_3 t7_15 t8_11 r_ h_
  rw [zW EE zmC.eq_1]
  simp only [Li_statements_0] at h_
  rcases bI h_ with ⟨h1_, h_⟩ | ⟨h1_, h_⟩
  ·obtain ⟨e42, h2_, h_⟩ := za h_
   obtain ⟨h2_a, h2_b, h2_c, h2_d⟩ := zj (o := false)  h2_
   try simp [-getElem?_pos] at h2_d
   obtain ⟨r291, h6_, h_⟩ := za h_
   have h6_f := zig Ri_statements hRi_statements e42.op_ e42.s_ e42.n_ e42.kids_ _ h6_
   try simp [z6] at h6_f
   obtain ⟨s160, h7_, h_⟩ := zb h_
   obtain ⟨h8_, h_⟩ := bP h_
   have q_ := ih_ (t3_24 ++ (zdM s160)) t6_3 t7_15 (IntKind.i64.wrap (t8_11 + 1)) _ h_
   rcases r_ with t3_27
   all_goals (try simp [zbc] at q_)
   all_goals simp +decide [-getElem?_pos, h1_, h2_a, h2_b, h2_c, h2_d, h6_f, h7_, h8_, q_, zbc]
  cases h_
  simp +decide [-getElem?_pos, h1_, zbc]
/-- impl.statements -/
def Si_statements (Ri_statements : (List T_Node) → Option ByteArray) (a0_168 : List T_Node) : Option ByteArray :=
 bS (Li_statements_0 Ri_statements FU [] a0_168 (a0_168.length : Int) 0) fun r292 =>
 some (znR r292)
theorem Si_statements_ok (Ri_statements) (hRi_statements : zbm Ri_statements) (a0_168 : List T_Node) (r_ : ByteArray) (h_ : Si_statements Ri_statements a0_168 = some r_) : ev EE (.call 19 [.ls false (r_Node false a0_168)] []) = some (zaI a0_168 r_) := by
 rw [zw]
 simp only [Si_statements] at h_
 obtain ⟨r292, h1_, h_⟩ := za h_
 have h1_f := zgp Ri_statements hRi_statements FU [] a0_168 (a0_168.length : Int) 0 _ h1_
 try simp [zbc] at h1_f
 cases h_
 simp +decide [-getElem?_pos, zsx, h1_f, zaI]
def Fi_statementsn : Nat → (List T_Node) → Option ByteArray
 | 0 => fun _ => none
 | n_ + 1 => Si_statements (Fi_statementsn n_)
def Fi_statements (a0_168 : List T_Node) : Option ByteArray := Fi_statementsn FU a0_168
theorem zgN : ∀ (n_ : Nat) (a0_168 : List T_Node) (r_ : ByteArray), Fi_statementsn n_ a0_168 = some r_ → ev EE (.call 19 [.ls false (r_Node false a0_168)] []) = some (zaI a0_168 r_) := by
 intro n_
 induction n_ with
 | zero => intro a0_168 r_ h_; cases h_
 | succ n_ ih_ => intro a0_168 r_ h_; exact Si_statements_ok (Fi_statementsn n_) ih_ a0_168 r_ h_
theorem zhv (a0_168 : List T_Node) (r_ : ByteArray) (h_ : Fi_statements a0_168 = some r_) : ev EE (.call 19 [.ls false (r_Node false a0_168)] []) = some (zaI a0_168 r_) := zgN FU a0_168 r_ h_
/-- impl.Write -/
def zfw (a0_81 : Int) (a0_82 : ByteArray) (a0_83 : Int) (a0_84 : List T_Node) : Option ByteArray :=
 bS (zeR a0_81 a0_82 a0_83 a0_84) fun r251 =>
 if r251 = true then
  bS (Fi_statements a0_84) fun r293 =>
  some r293
 else
  some (⟨#[]⟩ : ByteArray)
def zdV (a0_81 : Int) (a0_82 : ByteArray) (a0_83 : Int) (a0_84 : List T_Node) : ByteArray → Ans
 | q110 => .val (.sc (.string q110)) []
theorem zlh (a0_81 : Int) (a0_82 : ByteArray) (a0_83 : Int) (a0_84 : List T_Node) (r_ : ByteArray) (h_ : zfw a0_81 a0_82 a0_83 a0_84 = some r_) : ev EE (.call 8 [.ag [.sc (.int .i64 a0_81), .sc (.string a0_82), .sc (.int .i64 a0_83), .ls false (r_Node false a0_84)]] []) = some (zdV a0_81 a0_82 a0_83 a0_84 r_) := by
 rw [zw]
 simp only [zfw] at h_
 obtain ⟨r251, h1_, h_⟩ := za h_
 have h1_f := zkr a0_81 a0_82 a0_83 a0_84 _ h1_
 try simp [zb6] at h1_f
 rcases bI h_ with ⟨h2_, h_⟩ | ⟨h2_, h_⟩
 ·obtain ⟨r293, h3_, h_⟩ := za h_
  have h3_f := zhv a0_84 _ h3_
  try simp [zaI] at h3_f
  cases h_
  simp +decide [-getElem?_pos, ir8, h1_f, h2_, h3_f, zdV]
 cases h_
 simp +decide [-getElem?_pos, ir8, h1_f, h2_, zdV]
def zar (a0_184 : Int) (a0_185 : ByteArray) (a0_186 : Int) (a0_187 : List T_Node) (a1_19 : Int) (a1_20 : ByteArray) (a1_21 : Int) (a1_22 : List T_Node) : Bool → Ans
 | q111 => .val (.sc (.bool q111)) []
def zhw (Rw_eqNode : Int → ByteArray → Int → (List T_Node) → Int → ByteArray → Int → (List T_Node) → Option Bool) : Prop := ∀ (a0_184 : Int) (a0_185 : ByteArray) (a0_186 : Int) (a0_187 : List T_Node) (a1_19 : Int) (a1_20 : ByteArray) (a1_21 : Int) (a1_22 : List T_Node) (r_ : Bool), Rw_eqNode a0_184 a0_185 a0_186 a0_187 a1_19 a1_20 a1_21 a1_22 = some r_ → ev EE (.call 9 [.ag [.sc (.int .i64 a0_184), .sc (.string a0_185), .sc (.int .i64 a0_186), .ls false (r_Node false a0_187)], .ag [.sc (.int .i64 a1_19), .sc (.string a1_20), .sc (.int .i64 a1_21), .ls false (r_Node false a1_22)]] []) = some (zar a0_184 a0_185 a0_186 a0_187 a1_19 a1_20 a1_21 a1_22 r_)
def Lw_eqNodeS_0 (Rw_eqNode : Int → ByteArray → Int → (List T_Node) → Int → ByteArray → Int → (List T_Node) → Option Bool) : Nat → (List T_Node) → (List T_Node) → Int → Option (Bool ⊕ Unit)
 | 0, _, _, _ => none
 | n_ + 1, t0_19, t1_15, t5_9 =>
 if t5_9 < (t0_19.length : Int) then
  bS (getI t0_19 t5_9) fun e59 =>
  bS (getI t1_15 t5_9) fun e60 =>
  bS (Rw_eqNode e59.op_ e59.s_ e59.n_ e59.kids_ e60.op_ e60.s_ e60.n_ e60.kids_) fun r295 =>
  if r295 = true then
   Lw_eqNodeS_0 Rw_eqNode n_ t0_19 t1_15 (IntKind.i64.wrap (t5_9 + 1))
  else
   some (.inl false)
 else
  some (.inr ())
def zaZ (t0_19 : List T_Node) (t1_15 : List T_Node) (t5_9 : Int) : Bool ⊕ Unit → Ans
 | .inl t4_25 => .out .ret { np := 0, tm := [(4, .sc (.bool t4_25))], ar := [], bx := [] }
 | .inr _ => .out (.exit 0) { np := 0, tm := [], ar := [], bx := [] }
theorem zih (Rw_eqNode) (hRw_eqNode : zhw Rw_eqNode) : ∀ (n_ : Nat) (t0_19 : List T_Node) (t1_15 : List T_Node) (t5_9 : Int) (r_ : Bool ⊕ Unit), Lw_eqNodeS_0 Rw_eqNode n_ t0_19 t1_15 t5_9 = some r_ → ev EE (.loop zmD [0, 1, 5] [4] { np := 0, tm := [(0, .ls false (r_Node false t0_19)), (1, .ls false (r_Node false t1_15)), (5, .sc (.int .i64 t5_9))], ar := [], bx := [] }) = some (zaZ t0_19 t1_15 t5_9 r_) := by
 intro n_
 induction n_ with
 | zero => intro t0_19 t1_15 t5_9 r_ h_; simp only [Lw_eqNodeS_0] at h_; cases h_
 | succ n_ ih_ =>
  intro t0_19 t1_15 t5_9 r_ h_
  rw [zW EE zmD.eq_1]
  simp only [Lw_eqNodeS_0] at h_
  rcases bI h_ with ⟨h1_, h_⟩ | ⟨h1_, h_⟩
  ·have h1_s := h1_; try simp at h1_s
   obtain ⟨e59, h3_, h_⟩ := za h_
   obtain ⟨h3_a, h3_b, h3_c, h3_d⟩ := zj (o := false)  h3_
   try simp [-getElem?_pos] at h3_d
   obtain ⟨e60, h7_, h_⟩ := za h_
   obtain ⟨h7_a, h7_b, h7_c, h7_d⟩ := zj (o := false)  h7_
   try simp [-getElem?_pos] at h7_d
   obtain ⟨r295, h11_, h_⟩ := za h_
   have h11_f := hRw_eqNode e59.op_ e59.s_ e59.n_ e59.kids_ e60.op_ e60.s_ e60.n_ e60.kids_ _ h11_
   try simp [zar] at h11_f
   rcases bI h_ with ⟨h12_, h_⟩ | ⟨h12_, h_⟩
   ·have q_ := ih_ t0_19 t1_15 (IntKind.i64.wrap (t5_9 + 1)) _ h_
    rcases r_ with t4_25 | _
    all_goals (try simp [zaZ] at q_)
    all_goals simp +decide [-getElem?_pos, h1_, h1_s, h3_a, h3_b, h3_c, h3_d, h7_a, h7_b, h7_c, h7_d, h11_f, h12_, q_, zaZ]
   cases h_
   simp +decide [-getElem?_pos, h1_, h1_s, h3_a, h3_b, h3_c, h3_d, h7_a, h7_b, h7_c, h7_d, h11_f, h12_, zaZ]
  have h1_s := h1_; try simp at h1_s
  cases h_
  simp +decide [-getElem?_pos, h1_, h1_s, zaZ]
/-- laws.eqNodeS -/
def ze7 (Rw_eqNode : Int → ByteArray → Int → (List T_Node) → Int → ByteArray → Int → (List T_Node) → Option Bool) (a0_188 : List T_Node) (a1_23 : List T_Node) : Option Bool :=
 if (a0_188.length : Int) = (a1_23.length : Int) then
  bS (Lw_eqNodeS_0 Rw_eqNode FU a0_188 a1_23 0) fun r_ => match r_ with
  | .inl r296 =>
   some r296
  | .inr () =>
   some true
 else
  some false
def zcm (a0_188 : List T_Node) (a1_23 : List T_Node) : Bool → Ans
 | q112 => .val (.sc (.bool q112)) []
theorem zjx (Rw_eqNode) (hRw_eqNode : zhw Rw_eqNode) (a0_188 : List T_Node) (a1_23 : List T_Node) (r_ : Bool) (h_ : ze7 Rw_eqNode a0_188 a1_23 = some r_) : ev EE (.call 20 [.ls false (r_Node false a0_188), .ls false (r_Node false a1_23)] []) = some (zcm a0_188 a1_23 r_) := by
 rw [zw]
 simp only [ze7] at h_
 rcases bI h_ with ⟨h1_, h_⟩ | ⟨h1_, h_⟩
 ·have h1_s := h1_; try simp at h1_s
  obtain ⟨r_2, h3_, h_⟩ := za h_
  have h3_f := zih Rw_eqNode hRw_eqNode FU a0_188 a1_23 0 _ h3_
  rcases r_2 with r296 | _
  ·try dsimp only at h_
   try simp [zaZ] at h3_f
   cases h_
   simp +decide [-getElem?_pos, zoG, eq_true h1_, eq_true h1_s, h3_f, zcm]
  ·try dsimp only at h_
   try simp [zaZ] at h3_f
   cases h_
   simp +decide [-getElem?_pos, zoG, eq_true h1_, eq_true h1_s, h3_f, zcm]
 have h1_s := h1_; try simp at h1_s
 cases h_
 simp +decide [-getElem?_pos, zoG, h1_, h1_s, zcm]
/-- laws.eqNode -/
def Sw_eqNode (Rw_eqNode : Int → ByteArray → Int → (List T_Node) → Int → ByteArray → Int → (List T_Node) → Option Bool) (a0_184 : Int) (a0_185 : ByteArray) (a0_186 : Int) (a0_187 : List T_Node) (a1_19 : Int) (a1_20 : ByteArray) (a1_21 : Int) (a1_22 : List T_Node) : Option Bool :=
 if a0_184 = a1_19 then
  if a0_185 = a1_20 then
   if a0_186 = a1_21 then
    bS (ze7 Rw_eqNode a0_187 a1_22) fun r297 =>
    if r297 = true then
     some true
    else
     some false
   else
    some false
  else
   some false
 else
  some false
theorem Sw_eqNode_ok (Rw_eqNode) (hRw_eqNode : zhw Rw_eqNode) (a0_184 : Int) (a0_185 : ByteArray) (a0_186 : Int) (a0_187 : List T_Node) (a1_19 : Int) (a1_20 : ByteArray) (a1_21 : Int) (a1_22 : List T_Node) (r_ : Bool) (h_ : Sw_eqNode Rw_eqNode a0_184 a0_185 a0_186 a0_187 a1_19 a1_20 a1_21 a1_22 = some r_) : ev EE (.call 9 [.ag [.sc (.int .i64 a0_184), .sc (.string a0_185), .sc (.int .i64 a0_186), .ls false (r_Node false a0_187)], .ag [.sc (.int .i64 a1_19), .sc (.string a1_20), .sc (.int .i64 a1_21), .ls false (r_Node false a1_22)]] []) = some (zar a0_184 a0_185 a0_186 a0_187 a1_19 a1_20 a1_21 a1_22 r_) := by
 rw [zw]
 simp only [Sw_eqNode] at h_
 rcases bI h_ with ⟨h1_, h_⟩ | ⟨h1_, h_⟩
 ·rcases bI h_ with ⟨h2_, h_⟩ | ⟨h2_, h_⟩
  ·rcases bI h_ with ⟨h3_, h_⟩ | ⟨h3_, h_⟩
   ·obtain ⟨r297, h4_, h_⟩ := za h_
    have h4_f := zjx Rw_eqNode hRw_eqNode a0_187 a1_22 _ h4_
    try simp [zcm] at h4_f
    rcases bI h_ with ⟨h5_, h_⟩ | ⟨h5_, h_⟩
    ·cases h_
     simp +decide [-getElem?_pos, ir9, eq_true h1_, eq_true h2_, eq_true h3_, h4_f, h5_, zar]
    cases h_
    simp +decide [-getElem?_pos, ir9, eq_true h1_, eq_true h2_, eq_true h3_, h4_f, h5_, zar]
   cases h_
   simp +decide [-getElem?_pos, ir9, eq_true h1_, eq_true h2_, h3_, zar]
  cases h_
  simp +decide [-getElem?_pos, ir9, eq_true h1_, h2_, zar]
 cases h_
 simp +decide [-getElem?_pos, ir9, h1_, zar]
def Fw_eqNoden : Nat → Int → ByteArray → Int → (List T_Node) → Int → ByteArray → Int → (List T_Node) → Option Bool
 | 0 => fun _ _ _ _ _ _ _ _ => none
 | n_ + 1 => Sw_eqNode (Fw_eqNoden n_)
def Fw_eqNode (a0_184 : Int) (a0_185 : ByteArray) (a0_186 : Int) (a0_187 : List T_Node) (a1_19 : Int) (a1_20 : ByteArray) (a1_21 : Int) (a1_22 : List T_Node) : Option Bool := Fw_eqNoden FU a0_184 a0_185 a0_186 a0_187 a1_19 a1_20 a1_21 a1_22
theorem zjy : ∀ (n_ : Nat) (a0_184 : Int) (a0_185 : ByteArray) (a0_186 : Int) (a0_187 : List T_Node) (a1_19 : Int) (a1_20 : ByteArray) (a1_21 : Int) (a1_22 : List T_Node) (r_ : Bool), Fw_eqNoden n_ a0_184 a0_185 a0_186 a0_187 a1_19 a1_20 a1_21 a1_22 = some r_ → ev EE (.call 9 [.ag [.sc (.int .i64 a0_184), .sc (.string a0_185), .sc (.int .i64 a0_186), .ls false (r_Node false a0_187)], .ag [.sc (.int .i64 a1_19), .sc (.string a1_20), .sc (.int .i64 a1_21), .ls false (r_Node false a1_22)]] []) = some (zar a0_184 a0_185 a0_186 a0_187 a1_19 a1_20 a1_21 a1_22 r_) := by
 intro n_
 induction n_ with
 | zero => intro a0_184 a0_185 a0_186 a0_187 a1_19 a1_20 a1_21 a1_22 r_ h_; cases h_
 | succ n_ ih_ => intro a0_184 a0_185 a0_186 a0_187 a1_19 a1_20 a1_21 a1_22 r_ h_; exact Sw_eqNode_ok (Fw_eqNoden n_) ih_ a0_184 a0_185 a0_186 a0_187 a1_19 a1_20 a1_21 a1_22 r_ h_
theorem zks (a0_184 : Int) (a0_185 : ByteArray) (a0_186 : Int) (a0_187 : List T_Node) (a1_19 : Int) (a1_20 : ByteArray) (a1_21 : Int) (a1_22 : List T_Node) (r_ : Bool) (h_ : Fw_eqNode a0_184 a0_185 a0_186 a0_187 a1_19 a1_20 a1_21 a1_22 = some r_) : ev EE (.call 9 [.ag [.sc (.int .i64 a0_184), .sc (.string a0_185), .sc (.int .i64 a0_186), .ls false (r_Node false a0_187)], .ag [.sc (.int .i64 a1_19), .sc (.string a1_20), .sc (.int .i64 a1_21), .ls false (r_Node false a1_22)]] []) = some (zar a0_184 a0_185 a0_186 a0_187 a1_19 a1_20 a1_21 a1_22 r_) := zjy FU a0_184 a0_185 a0_186 a0_187 a1_19 a1_20 a1_21 a1_22 r_ h_
end Go.Pv

namespace Go.Pv
set_option maxRecDepth 100000
set_option maxHeartbeats 40000000
set_option linter.unusedSimpArgs false
set_option linter.unusedVariables false
/-- laws.FnExactWrite -/
def zcH (a0_1 : Int) (a0_2 : ByteArray) (a0_3 : Int) (a0_4 : List T_Node) : Option Bool :=
 bS (zhp a0_1 a0_2 a0_3 a0_4 1048576) fun r6 =>
 if r6 < 0 then
  some true
 else
 bS (Fw_toNode a0_1 a0_2 a0_3 a0_4) fun (r13, r14, r15, r16) =>
 bS (zfq r13 r14 r15 r16) fun r156 =>
 bS (zfw r13 r14 r15 r16) fun r294 =>
 if r294 = r156 then
  bS (Fw_eqNode r13 r14 r15 r16 r13 r14 r15 r16) fun r298 =>
  if r298 = true then
   some true
  else
   some false
 else
  some false
def zdL (a0_1 : Int) (a0_2 : ByteArray) (a0_3 : Int) (a0_4 : List T_Node) : Bool → Ans
 | q113 => .val (.sc (.bool q113)) []
end Go.Pv

