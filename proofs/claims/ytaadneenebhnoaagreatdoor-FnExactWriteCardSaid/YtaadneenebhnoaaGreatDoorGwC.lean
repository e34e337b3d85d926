/- Proof: the functions as Lean functions, third part. No condition. -/
import Derived.Test.YtaadneenebhnoaaGreatDoorGwB
set_option autoImplicit true
set_option relaxedAutoImplicit true
set_option linter.unusedSimpArgs false
set_option linter.unusedVariables false
namespace Go.Pv
set_option maxRecDepth 100000
set_option maxHeartbeats 40000000
set_option linter.unusedSimpArgs false
set_option linter.unusedVariables false
def Fs_l13Stmtn : Nat → Int → ByteArray → Int → (List T_Node) → Option ByteArray
 | 0 => fun _ _ _ _ => none
 | n_ + 1 => Ss_l13Stmt (Fs_l13Stmtn n_)
def Fs_l13Stmt (a0_65 : Int) (a0_66 : ByteArray) (a0_67 : Int) (a0_68 : List T_Node) : Option ByteArray := Fs_l13Stmtn FU a0_65 a0_66 a0_67 a0_68
theorem ziz : ∀ (n_ : Nat) (a0_65 : Int) (a0_66 : ByteArray) (a0_67 : Int) (a0_68 : List T_Node) (r_ : ByteArray), Fs_l13Stmtn n_ a0_65 a0_66 a0_67 a0_68 = some r_ → ev EE (.call 16 [.ag [.sc (.int .i64 a0_65), .sc (.string a0_66), .sc (.int .i64 a0_67), .ls false (r_Node false a0_68)]] []) = some (zy a0_65 a0_66 a0_67 a0_68 r_) := by
 intro n_
 induction n_ with
 | zero => intro a0_65 a0_66 a0_67 a0_68 r_ h_; cases h_
 | succ n_ ih_ => intro a0_65 a0_66 a0_67 a0_68 r_ h_; exact Ss_l13Stmt_ok (Fs_l13Stmtn n_) ih_ a0_65 a0_66 a0_67 a0_68 r_ h_
theorem zju (a0_65 : Int) (a0_66 : ByteArray) (a0_67 : Int) (a0_68 : List T_Node) (r_ : ByteArray) (h_ : Fs_l13Stmt a0_65 a0_66 a0_67 a0_68 = some r_) : ev EE (.call 16 [.ag [.sc (.int .i64 a0_65), .sc (.string a0_66), .sc (.int .i64 a0_67), .ls false (r_Node false a0_68)]] []) = some (zy a0_65 a0_66 a0_67 a0_68 r_) := ziz FU a0_65 a0_66 a0_67 a0_68 r_ h_
def Ls_Write_0 : Nat → ByteArray → Int → Int → ByteArray → Int → (List T_Node) → Option ByteArray
 | 0, _, _, _, _, _, _ => none
 | n_ + 1, t3_14, t4_16, x0_41, x0_42, x0_43, x0_44 =>
 if t4_16 < (x0_44.length : Int) then
  bS (getI x0_44 t4_16) fun e12 =>
  bS (Fs_l13Stmt e12.op_ e12.s_ e12.n_ e12.kids_) fun r154 =>
  bS (cat t3_14 r154) fun s91 =>
  Ls_Write_0 n_ s91 (IntKind.i64.wrap (t4_16 + 1)) x0_41 x0_42 x0_43 x0_44
 else
  some t3_14
def zcg (t3_14 : ByteArray) (t4_16 : Int) (x0_41 : Int) (x0_42 : ByteArray) (x0_43 : Int) (x0_44 : List T_Node) : ByteArray → Ans
 | t3_19 => .out (.exit 0) { np := 0, tm := [(3, .sc (.string t3_19))], ar := [], bx := [] }
theorem zjv : ∀ (n_ : Nat) (t3_14 : ByteArray) (t4_16 : Int) (x0_41 : Int) (x0_42 : ByteArray) (x0_43 : Int) (x0_44 : List T_Node) (r_ : ByteArray), Ls_Write_0 n_ t3_14 t4_16 x0_41 x0_42 x0_43 x0_44 = some r_ → ev EE (.loop zpR [1, 3, 4] [2, 3] { np := 0, tm := [(1, .bx 0 0), (3, .sc (.string t3_14)), (4, .sc (.int .i64 t4_16))], ar := [], bx := [(0, .b [.sc (.int .i64 x0_41), .sc (.string x0_42), .sc (.int .i64 x0_43), .ls false (r_Node false x0_44)])] }) = some (zcg t3_14 t4_16 x0_41 x0_42 x0_43 x0_44 r_) := by
 intro n_
 induction n_ with
 | zero => intro t3_14 t4_16 x0_41 x0_42 x0_43 x0_44 r_ h_; simp only [Ls_Write_0] at h_; cases h_
 | succ n_ ih_ =>
  intro t3_14 t4_16 x0_41 x0_42 x0_43 x0_44 r_ h_
  rw [zW EE zpR.eq_1]
  simp only [Ls_Write_0] at h_
  rcases bI h_ with ⟨h1_, h_⟩ | ⟨h1_, h_⟩
  ·have h1_s := h1_; try simp at h1_s
   obtain ⟨e12, h3_, h_⟩ := za h_
   obtain ⟨h3_a, h3_b, h3_c, h3_d⟩ := zj (o := false)  h3_
   try simp [-getElem?_pos] at h3_d
   obtain ⟨r154, h7_, h_⟩ := za h_
   have h7_f := zju e12.op_ e12.s_ e12.n_ e12.kids_ _ h7_
   try simp [zy] at h7_f
   obtain ⟨s91, h8_, h_⟩ := zb h_
   have q_ := ih_ s91 (IntKind.i64.wrap (t4_16 + 1)) x0_41 x0_42 x0_43 x0_44 _ h_
   rcases r_ with t3_19
   all_goals (try simp [zcg] at q_)
   all_goals simp +decide [-getElem?_pos, h1_, h1_s, h3_a, h3_b, h3_c, h3_d, h7_f, h8_, q_, zcg]
  have h1_s := h1_; try simp at h1_s
  cases h_
  simp +decide [-getElem?_pos, h1_, h1_s, zcg]
/-- spec.Write -/
def zfq (a0_15 : Int) (a0_16 : ByteArray) (a0_17 : Int) (a0_18 : List T_Node) : Option ByteArray :=
 bS (zeL a0_15 a0_16 a0_17 a0_18) fun r129 =>
 if r129 = true then
  bS (Ls_Write_0 FU (⟨#[]⟩ : ByteArray) 0 a0_15 a0_16 a0_17 a0_18) fun r155 =>
  some r155
 else
  some (⟨#[]⟩ : ByteArray)
def zdO (a0_15 : Int) (a0_16 : ByteArray) (a0_17 : Int) (a0_18 : List T_Node) : ByteArray → Ans
 | q56 => .val (.sc (.string q56)) []
theorem zla (a0_15 : Int) (a0_16 : ByteArray) (a0_17 : Int) (a0_18 : List T_Node) (r_ : ByteArray) (h_ : zfq a0_15 a0_16 a0_17 a0_18 = some r_) : ev EE (.call 6 [.ag [.sc (.int .i64 a0_15), .sc (.string a0_16), .sc (.int .i64 a0_17), .ls false (r_Node false a0_18)]] []) = some (zdO a0_15 a0_16 a0_17 a0_18 r_) := by
 rw [zw]
 simp only [zfq] at h_
 obtain ⟨r129, h1_, h_⟩ := za h_
 have h1_f := zkk a0_15 a0_16 a0_17 a0_18 _ h1_
 try simp [zb4] at h1_f
 rcases bI h_ with ⟨h2_, h_⟩ | ⟨h2_, h_⟩
 ·obtain ⟨r155, h3_, h_⟩ := za h_
  have h3_f := zjv FU (⟨#[]⟩ : ByteArray) 0 a0_15 a0_16 a0_17 a0_18 _ h3_
  try simp [zcg] at h3_f
  cases h_
  simp +decide [-getElem?_pos, ir6, h1_f, h2_, h3_f, zdO]
 cases h_
 simp +decide [-getElem?_pos, ir6, h1_f, h2_, zdO]
/-- impl.within -/
def zaf (a0_108 : Int) (a1_14 : Int) (a2_2 : Int) : Option Bool :=
 if a1_14 ≤ a0_108 then
  some (decide (a0_108 ≤ a2_2))
 else
  some false
def zL (a0_108 : Int) (a1_14 : Int) (a2_2 : Int) : Bool → Ans
 | q57 => .val (.sc (.bool q57)) []
theorem zX (a0_108 : Int) (a1_14 : Int) (a2_2 : Int) (r_ : Bool) (h_ : zaf a0_108 a1_14 a2_2 = some r_) : ev EE (.call 102 [.sc (.int .i64 a0_108), .sc (.int .i64 a1_14), .sc (.int .i64 a2_2)] []) = some (zL a0_108 a1_14 a2_2 r_) := by
 rw [zw]
 simp only [zaf] at h_
 rcases bI h_ with ⟨h1_, h_⟩ | ⟨h1_, h_⟩
 ·cases h_
  simp +decide [-getElem?_pos, zlm, h1_, zL]
 cases h_
 simp +decide [-getElem?_pos, zlm, h1_, zL]
/-- impl.isStatement -/
def zch (a0_104 : Int) (a0_105 : ByteArray) (a0_106 : Int) (a0_107 : List T_Node) : Option Bool :=
 bS (zaf a0_104 2 9) fun r157 =>
 some r157
def zcI (a0_104 : Int) (a0_105 : ByteArray) (a0_106 : Int) (a0_107 : List T_Node) : Bool → Ans
 | q58 => .val (.sc (.bool q58)) []
theorem zgI (a0_104 : Int) (a0_105 : ByteArray) (a0_106 : Int) (a0_107 : List T_Node) (r_ : Bool) (h_ : zch a0_104 a0_105 a0_106 a0_107 = some r_) : ev EE (.call 100 [.ag [.sc (.int .i64 a0_104), .sc (.string a0_105), .sc (.int .i64 a0_106), .ls false (r_Node false a0_107)]] []) = some (zcI a0_104 a0_105 a0_106 a0_107 r_) := by
 rw [zw]
 simp only [zch] at h_
 obtain ⟨r157, h1_, h_⟩ := za h_
 have h1_f := zX a0_104 2 9 _ h1_
 try simp [zL] at h1_f
 cases h_
 simp +decide [-getElem?_pos, znX, h1_f, zcI]
/-- impl.kidsOk$1$1 -/
def zbY (a0_100 : Int) (a0_101 : ByteArray) (a0_102 : Int) (a0_103 : List T_Node) : Option Bool :=
 bS (zch a0_100 a0_101 a0_102 a0_103) fun r158 =>
 some (!r158)
def zcx (a0_100 : Int) (a0_101 : ByteArray) (a0_102 : Int) (a0_103 : List T_Node) : Bool → Ans
 | q59 => .val (.sc (.bool q59)) [.b [.fn 100 []]]
theorem zgm (a0_100 : Int) (a0_101 : ByteArray) (a0_102 : Int) (a0_103 : List T_Node) (r_ : Bool) (h_ : zbY a0_100 a0_101 a0_102 a0_103 = some r_) : ev EE (.call 97 [.ag [.sc (.int .i64 a0_100), .sc (.string a0_101), .sc (.int .i64 a0_102), .ls false (r_Node false a0_103)], .bx 0 0] [.b [.fn 100 []]]) = some (zcx a0_100 a0_101 a0_102 a0_103 r_) := by
 rw [zw]
 simp only [zbY] at h_
 obtain ⟨r158, h1_, h_⟩ := za h_
 have h1_f := zgI a0_100 a0_101 a0_102 a0_103 _ h1_
 try simp [zcI] at h1_f
 cases h_
 simp +decide [-getElem?_pos, zoM, h1_f, zcx]
def Lslices_IndexFunc_Node_0 : Nat → (List T_Node) → Int → Int → Option (Int ⊕ Unit)
 | 0, _, _, _ => none
 | n_ + 1, t0_11, t7_7, t8_3 =>
 if t8_3 < t7_7 then
  bS (getI t0_11 t8_3) fun e30 =>
  bS (zbY e30.op_ e30.s_ e30.n_ e30.kids_) fun r159 =>
  if r159 = true then
   some (.inl t8_3)
  else
   Lslices_IndexFunc_Node_0 n_ t0_11 t7_7 (IntKind.i64.wrap (t8_3 + 1))
 else
  some (.inr ())
def zO (t0_11 : List T_Node) (t7_7 : Int) (t8_3 : Int) : Int ⊕ Unit → Ans
 | .inl t4_19 => .out .ret { np := 1, tm := [(4, .sc (.int .i64 t4_19))], ar := [], bx := [(0, .b [.fn 100 []])] }
 | .inr _ => .out (.exit 0) { np := 1, tm := [], ar := [], bx := [(0, .b [.fn 100 []])] }
theorem zdP : ∀ (n_ : Nat) (t0_11 : List T_Node) (t7_7 : Int) (t8_3 : Int) (r_ : Int ⊕ Unit), Lslices_IndexFunc_Node_0 n_ t0_11 t7_7 t8_3 = some r_ → ev EE (.loop zdW [0, 1, 7, 8] [4] { np := 1, tm := [(0, .ls false (r_Node false t0_11)), (1, .fn 97 [.bx 0 0]), (7, .sc (.int .i64 t7_7)), (8, .sc (.int .i64 t8_3))], ar := [], bx := [(0, .b [.fn 100 []])] }) = some (zO t0_11 t7_7 t8_3 r_) := by
 intro n_
 induction n_ with
 | zero => intro t0_11 t7_7 t8_3 r_ h_; simp only [Lslices_IndexFunc_Node_0] at h_; cases h_
 | succ n_ ih_ =>
  intro t0_11 t7_7 t8_3 r_ h_
  rw [zW EE zdW.eq_1]
  simp only [Lslices_IndexFunc_Node_0] at h_
  rcases bI h_ with ⟨h1_, h_⟩ | ⟨h1_, h_⟩
  ·obtain ⟨e30, h2_, h_⟩ := za h_
   obtain ⟨h2_a, h2_b, h2_c, h2_d⟩ := zj (o := false)  h2_
   try simp [-getElem?_pos] at h2_d
   obtain ⟨r159, h6_, h_⟩ := za h_
   have h6_f := zgm e30.op_ e30.s_ e30.n_ e30.kids_ _ h6_
   try simp [zcx] at h6_f
   rcases bI h_ with ⟨h7_, h_⟩ | ⟨h7_, h_⟩
   ·cases h_
    simp +decide [-getElem?_pos, h1_, h2_a, h2_b, h2_c, h2_d, h6_f, h7_, zO]
   have q_ := ih_ t0_11 t7_7 (IntKind.i64.wrap (t8_3 + 1)) _ h_
   rcases r_ with t4_19 | _
   all_goals (try simp [zO] at q_)
   all_goals simp +decide [-getElem?_pos, h1_, h2_a, h2_b, h2_c, h2_d, h6_f, h7_, q_, zO]
  cases h_
  simp +decide [-getElem?_pos, h1_, zO]
/-- impl.Node] -/
def zbf (a0_99 : List T_Node) : Option Int :=
 bS (Lslices_IndexFunc_Node_0 FU a0_99 (a0_99.length : Int) 0) fun r_ => match r_ with
 | .inl r160 =>
  some r160
 | .inr () =>
  some (-1)
def zaH (a0_99 : List T_Node) : Int → Ans
 | q60 => .val (.sc (.int .i64 q60)) [.b [.fn 100 []]]
theorem zeo (a0_99 : List T_Node) (r_ : Int) (h_ : zbf a0_99 = some r_) : ev EE (.call 107 [.ls false (r_Node false a0_99), .fn 97 [.bx 0 0]] [.b [.fn 100 []]]) = some (zaH a0_99 r_) := by
 rw [zw]
 simp only [zbf] at h_
 obtain ⟨r_0, h1_, h_⟩ := za h_
 have h1_f := zdP FU a0_99 (a0_99.length : Int) 0 _ h1_
 rcases r_0 with r160 | _
 ·try dsimp only at h_
  try simp [zO] at h1_f
  cases h_
  simp +decide [-getElem?_pos, zfA, h1_f, zaH]
 ·try dsimp only at h_
  try simp [zO] at h1_f
  cases h_
  simp +decide [-getElem?_pos, zfA, h1_f, zaH]
/-- impl.Node] -/
def zaU (a0_98 : List T_Node) : Option Bool :=
 bS (zbf a0_98) fun r161 =>
 some (decide (0 ≤ r161))
def za8 (a0_98 : List T_Node) : Bool → Ans
 | q61 => .val (.sc (.bool q61)) [.b [.fn 100 []]]
theorem zdH (a0_98 : List T_Node) (r_ : Bool) (h_ : zaU a0_98 = some r_) : ev EE (.call 68 [.ls false (r_Node false a0_98), .fn 97 [.bx 0 0]] [.b [.fn 100 []]]) = some (za8 a0_98 r_) := by
 rw [zw]
 simp only [zaU] at h_
 obtain ⟨r161, h1_, h_⟩ := za h_
 have h1_f := zeo a0_98 _ h1_
 try simp [zaH] at h1_f
 cases h_
 simp +decide [-getElem?_pos, zmS, h1_f, za8]
/-- impl.kidsOk$1 -/
def zcW (a0_97 : List T_Node) : Option Bool :=
 bS (zaU a0_97) fun r162 =>
 some (!r162)
def zdc (a0_97 : List T_Node) : Bool → Ans
 | q62 => .val (.sc (.bool q62)) []
theorem zid (a0_97 : List T_Node) (r_ : Bool) (h_ : zcW a0_97 = some r_) : ev EE (.call 96 [.ls false (r_Node false a0_97), .fn 100 []] []) = some (zdc a0_97 r_) := by
 rw [zw]
 simp only [zcW] at h_
 obtain ⟨r162, h1_, h_⟩ := za h_
 have h1_f := zdH a0_97 _ h1_
 try simp [za8] at h1_f
 cases h_
 simp +decide [-getElem?_pos, zoL, h1_f, zdc]
/-- impl.isExpr -/
def zdd (a0_116 : Int) (a0_117 : ByteArray) (a0_118 : Int) (a0_119 : List T_Node) : Option Bool :=
 bS (zaf a0_116 10 27) fun r164 =>
 if r164 = true then
  some (!(decide (a0_116 = 26)))
 else
  some false
def zb5 (a0_116 : Int) (a0_117 : ByteArray) (a0_118 : Int) (a0_119 : List T_Node) : Bool → Ans
 | q63 => .val (.sc (.bool q63)) []
theorem ze5 (a0_116 : Int) (a0_117 : ByteArray) (a0_118 : Int) (a0_119 : List T_Node) (r_ : Bool) (h_ : zdd a0_116 a0_117 a0_118 a0_119 = some r_) : ev EE (.call 101 [.ag [.sc (.int .i64 a0_116), .sc (.string a0_117), .sc (.int .i64 a0_118), .ls false (r_Node false a0_119)]] []) = some (zb5 a0_116 a0_117 a0_118 a0_119 r_) := by
 rw [zw]
 simp only [zdd] at h_
 obtain ⟨r164, h1_, h_⟩ := za h_
 have h1_f := zX a0_116 10 27 _ h1_
 try simp [zL] at h1_f
 rcases bI h_ with ⟨h2_, h_⟩ | ⟨h2_, h_⟩
 ·cases h_
  simp +decide [-getElem?_pos, zll, h1_f, h2_, zb5]
 cases h_
 simp +decide [-getElem?_pos, zll, h1_f, h2_, zb5]
/-- impl.kidsOk$1$1 -/
def zbC (a0_112 : Int) (a0_113 : ByteArray) (a0_114 : Int) (a0_115 : List T_Node) : Option Bool :=
 bS (zdd a0_112 a0_113 a0_114 a0_115) fun r165 =>
 some (!r165)
def zb7 (a0_112 : Int) (a0_113 : ByteArray) (a0_114 : Int) (a0_115 : List T_Node) : Bool → Ans
 | q64 => .val (.sc (.bool q64)) [.b [.fn 101 []]]
theorem zfr (a0_112 : Int) (a0_113 : ByteArray) (a0_114 : Int) (a0_115 : List T_Node) (r_ : Bool) (h_ : zbC a0_112 a0_113 a0_114 a0_115 = some r_) : ev EE (.call 97 [.ag [.sc (.int .i64 a0_112), .sc (.string a0_113), .sc (.int .i64 a0_114), .ls false (r_Node false a0_115)], .bx 0 0] [.b [.fn 101 []]]) = some (zb7 a0_112 a0_113 a0_114 a0_115 r_) := by
 rw [zw]
 simp only [zbC] at h_
 obtain ⟨r165, h1_, h_⟩ := za h_
 have h1_f := ze5 a0_112 a0_113 a0_114 a0_115 _ h1_
 try simp [zb5] at h1_f
 cases h_
 simp +decide [-getElem?_pos, zoM, h1_f, zb7]
def Lslices_IndexFunc_Node_0_2 : Nat → (List T_Node) → Int → Int → Option (Int ⊕ Unit)
 | 0, _, _, _ => none
 | n_ + 1, t0_12, t7_8, t8_4 =>
 if t8_4 < t7_8 then
  bS (getI t0_12 t8_4) fun e31 =>
  bS (zbC e31.op_ e31.s_ e31.n_ e31.kids_) fun r166 =>
  if r166 = true then
   some (.inl t8_4)
  else
   Lslices_IndexFunc_Node_0_2 n_ t0_12 t7_8 (IntKind.i64.wrap (t8_4 + 1))
 else
  some (.inr ())
def zF (t0_12 : List T_Node) (t7_8 : Int) (t8_4 : Int) : Int ⊕ Unit → Ans
 | .inl t4_20 => .out .ret { np := 1, tm := [(4, .sc (.int .i64 t4_20))], ar := [], bx := [(0, .b [.fn 101 []])] }
 | .inr _ => .out (.exit 0) { np := 1, tm := [], ar := [], bx := [(0, .b [.fn 101 []])] }
theorem zdt : ∀ (n_ : Nat) (t0_12 : List T_Node) (t7_8 : Int) (t8_4 : Int) (r_ : Int ⊕ Unit), Lslices_IndexFunc_Node_0_2 n_ t0_12 t7_8 t8_4 = some r_ → ev EE (.loop zdW [0, 1, 7, 8] [4] { np := 1, tm := [(0, .ls false (r_Node false t0_12)), (1, .fn 97 [.bx 0 0]), (7, .sc (.int .i64 t7_8)), (8, .sc (.int .i64 t8_4))], ar := [], bx := [(0, .b [.fn 101 []])] }) = some (zF t0_12 t7_8 t8_4 r_) := by
 intro n_
 induction n_ with
 | zero => intro t0_12 t7_8 t8_4 r_ h_; simp only [Lslices_IndexFunc_Node_0_2] at h_; cases h_
 | succ n_ ih_ =>
  intro t0_12 t7_8 t8_4 r_ h_
  rw [zW EE zdW.eq_1]
  simp only [Lslices_IndexFunc_Node_0_2] at h_
  rcases bI h_ with ⟨h1_, h_⟩ | ⟨h1_, h_⟩
  ·obtain ⟨e31, h2_, h_⟩ := za h_
   obtain ⟨h2_a, h2_b, h2_c, h2_d⟩ := zj (o := false)  h2_
   try simp [-getElem?_pos] at h2_d
   obtain ⟨r166, h6_, h_⟩ := za h_
   have h6_f := zfr e31.op_ e31.s_ e31.n_ e31.kids_ _ h6_
   try simp [zb7] at h6_f
   rcases bI h_ with ⟨h7_, h_⟩ | ⟨h7_, h_⟩
   ·cases h_
    simp +decide [-getElem?_pos, h1_, h2_a, h2_b, h2_c, h2_d, h6_f, h7_, zF]
   have q_ := ih_ t0_12 t7_8 (IntKind.i64.wrap (t8_4 + 1)) _ h_
   rcases r_ with t4_20 | _
   all_goals (try simp [zF] at q_)
   all_goals simp +decide [-getElem?_pos, h1_, h2_a, h2_b, h2_c, h2_d, h6_f, h7_, q_, zF]
  cases h_
  simp +decide [-getElem?_pos, h1_, zF]
/-- impl.Node] -/
def za2 (a0_111 : List T_Node) : Option Int :=
 bS (Lslices_IndexFunc_Node_0_2 FU a0_111 (a0_111.length : Int) 0) fun r_ => match r_ with
 | .inl r167 =>
  some r167
 | .inr () =>
  some (-1)
def zas (a0_111 : List T_Node) : Int → Ans
 | q65 => .val (.sc (.int .i64 q65)) [.b [.fn 101 []]]
theorem zdQ (a0_111 : List T_Node) (r_ : Int) (h_ : za2 a0_111 = some r_) : ev EE (.call 107 [.ls false (r_Node false a0_111), .fn 97 [.bx 0 0]] [.b [.fn 101 []]]) = some (zas a0_111 r_) := by
 rw [zw]
 simp only [za2] at h_
 obtain ⟨r_0, h1_, h_⟩ := za h_
 have h1_f := zdt FU a0_111 (a0_111.length : Int) 0 _ h1_
 rcases r_0 with r167 | _
 ·try dsimp only at h_
  try simp [zF] at h1_f
  cases h_
  simp +decide [-getElem?_pos, zfA, h1_f, zas]
 ·try dsimp only at h_
  try simp [zF] at h1_f
  cases h_
  simp +decide [-getElem?_pos, zfA, h1_f, zas]
/-- impl.Node] -/
def zaB (a0_110 : List T_Node) : Option Bool :=
 bS (za2 a0_110) fun r168 =>
 some (decide (0 ≤ r168))
def zaP (a0_110 : List T_Node) : Bool → Ans
 | q66 => .val (.sc (.bool q66)) [.b [.fn 101 []]]
theorem zde (a0_110 : List T_Node) (r_ : Bool) (h_ : zaB a0_110 = some r_) : ev EE (.call 68 [.ls false (r_Node false a0_110), .fn 97 [.bx 0 0]] [.b [.fn 101 []]]) = some (zaP a0_110 r_) := by
 rw [zw]
 simp only [zaB] at h_
 obtain ⟨r168, h1_, h_⟩ := za h_
 have h1_f := zdQ a0_110 _ h1_
 try simp [zas] at h1_f
 cases h_
 simp +decide [-getElem?_pos, zmS, h1_f, zaP]
/-- impl.kidsOk$1 -/
def zB (a0_109 : List T_Node) : Option Bool :=
 bS (zaB a0_109) fun r169 =>
 some (!r169)
def zp (a0_109 : List T_Node) : Bool → Ans
 | q67 => .val (.sc (.bool q67)) []
theorem zC (a0_109 : List T_Node) (r_ : Bool) (h_ : zB a0_109 = some r_) : ev EE (.call 96 [.ls false (r_Node false a0_109), .fn 101 []] []) = some (zp a0_109 r_) := by
 rw [zw]
 simp only [zB] at h_
 obtain ⟨r169, h1_, h_⟩ := za h_
 have h1_f := zde a0_109 _ h1_
 try simp [zaP] at h1_f
 cases h_
 simp +decide [-getElem?_pos, zoL, h1_f, zp]
/-- impl.kidsOk$2 -/
def zct (a0_120 : Int) : Option Int :=
 some a0_120
def zcu (a0_120 : Int) : Int → Ans
 | q68 => .val (.fn 99 [.bx 0 0]) [.b [.sc (.int .i64 q68)]]
theorem zfj (a0_120 : Int) (r_ : Int) (h_ : zct a0_120 = some r_) : ev EE (.call 98 [.sc (.int .i64 a0_120)] []) = some (zcu a0_120 r_) := by
 rw [zw]
 simp only [zct] at h_
 cases h_
 simp +decide [-getElem?_pos, zsJ, zcu]
/-- impl.kidsOk$2$1 -/
def zbZ (a0_128 : Int) (a0_129 : ByteArray) (a0_130 : Int) (a0_131 : List T_Node) (x0_58 : Int) : Option Bool :=
 some (decide (a0_128 = x0_58))
def zcy (a0_128 : Int) (a0_129 : ByteArray) (a0_130 : Int) (a0_131 : List T_Node) (x0_58 : Int) : Bool → Ans
 | q69 => .val (.sc (.bool q69)) [.b [.sc (.int .i64 x0_58)]]
theorem zgn (a0_128 : Int) (a0_129 : ByteArray) (a0_130 : Int) (a0_131 : List T_Node) (x0_58 : Int) (r_ : Bool) (h_ : zbZ a0_128 a0_129 a0_130 a0_131 x0_58 = some r_) : ev EE (.call 99 [.ag [.sc (.int .i64 a0_128), .sc (.string a0_129), .sc (.int .i64 a0_130), .ls false (r_Node false a0_131)], .bx 0 0] [.b [.sc (.int .i64 x0_58)]]) = some (zcy a0_128 a0_129 a0_130 a0_131 x0_58 r_) := by
 rw [zw]
 simp only [zbZ] at h_
 cases h_
 simp +decide [-getElem?_pos, zsK, zcy]
/-- impl.kidsOk$1$1 -/
def zbD (a0_124 : Int) (a0_125 : ByteArray) (a0_126 : Int) (a0_127 : List T_Node) (x1_4 : Int) : Option Bool :=
 bS (zbZ a0_124 a0_125 a0_126 a0_127 x1_4) fun r187 =>
 some (!r187)
def zb8 (a0_124 : Int) (a0_125 : ByteArray) (a0_126 : Int) (a0_127 : List T_Node) (x1_4 : Int) : Bool → Ans
 | q70 => .val (.sc (.bool q70)) [.b [.fn 99 [.bx 1 0]], .b [.sc (.int .i64 x1_4)]]
theorem zfs (a0_124 : Int) (a0_125 : ByteArray) (a0_126 : Int) (a0_127 : List T_Node) (x1_4 : Int) (r_ : Bool) (h_ : zbD a0_124 a0_125 a0_126 a0_127 x1_4 = some r_) : ev EE (.call 97 [.ag [.sc (.int .i64 a0_124), .sc (.string a0_125), .sc (.int .i64 a0_126), .ls false (r_Node false a0_127)], .bx 0 0] [.b [.fn 99 [.bx 1 0]], .b [.sc (.int .i64 x1_4)]]) = some (zb8 a0_124 a0_125 a0_126 a0_127 x1_4 r_) := by
 rw [zw]
 simp only [zbD] at h_
 obtain ⟨r187, h1_, h_⟩ := za h_
 have h1_f := zgn a0_124 a0_125 a0_126 a0_127 x1_4 _ h1_
 try simp [zcy] at h1_f
 cases h_
 simp +decide [-getElem?_pos, zoM, h1_f, zb8]
def Lslices_IndexFunc_Node_0_3 : Nat → (List T_Node) → Int → Int → Int → Option (Int ⊕ Unit)
 | 0, _, _, _, _ => none
 | n_ + 1, t0_13, t7_9, t8_5, x1_3 =>
 if t8_5 < t7_9 then
  bS (getI t0_13 t8_5) fun e33 =>
  bS (zbD e33.op_ e33.s_ e33.n_ e33.kids_ x1_3) fun r188 =>
  if r188 = true then
   some (.inl t8_5)
  else
   Lslices_IndexFunc_Node_0_3 n_ t0_13 t7_9 (IntKind.i64.wrap (t8_5 + 1)) x1_3
 else
  some (.inr ())
def zG (t0_13 : List T_Node) (t7_9 : Int) (t8_5 : Int) (x1_3 : Int) : Int ⊕ Unit → Ans
 | .inl t4_21 => .out .ret { np := 2, tm := [(4, .sc (.int .i64 t4_21))], ar := [], bx := [(0, .b [.fn 99 [.bx 1 0]]), (1, .b [.sc (.int .i64 x1_3)])] }
 | .inr _ => .out (.exit 0) { np := 2, tm := [], ar := [], bx := [(0, .b [.fn 99 [.bx 1 0]]), (1, .b [.sc (.int .i64 x1_3)])] }
theorem zdu : ∀ (n_ : Nat) (t0_13 : List T_Node) (t7_9 : Int) (t8_5 : Int) (x1_3 : Int) (r_ : Int ⊕ Unit), Lslices_IndexFunc_Node_0_3 n_ t0_13 t7_9 t8_5 x1_3 = some r_ → ev EE (.loop zdW [0, 1, 7, 8] [4] { np := 2, tm := [(0, .ls false (r_Node false t0_13)), (1, .fn 97 [.bx 0 0]), (7, .sc (.int .i64 t7_9)), (8, .sc (.int .i64 t8_5))], ar := [], bx := [(0, .b [.fn 99 [.bx 1 0]]), (1, .b [.sc (.int .i64 x1_3)])] }) = some (zG t0_13 t7_9 t8_5 x1_3 r_) := by
 intro n_
 induction n_ with
 | zero => intro t0_13 t7_9 t8_5 x1_3 r_ h_; simp only [Lslices_IndexFunc_Node_0_3] at h_; cases h_
 | succ n_ ih_ =>
  intro t0_13 t7_9 t8_5 x1_3 r_ h_
  rw [zW EE zdW.eq_1]
  simp only [Lslices_IndexFunc_Node_0_3] at h_
  rcases bI h_ with ⟨h1_, h_⟩ | ⟨h1_, h_⟩
  ·obtain ⟨e33, h2_, h_⟩ := za h_
   obtain ⟨h2_a, h2_b, h2_c, h2_d⟩ := zj (o := false)  h2_
   try simp [-getElem?_pos] at h2_d
   obtain ⟨r188, h6_, h_⟩ := za h_
   have h6_f := zfs e33.op_ e33.s_ e33.n_ e33.kids_ x1_3 _ h6_
   try simp [zb8] at h6_f
   rcases bI h_ with ⟨h7_, h_⟩ | ⟨h7_, h_⟩
   ·cases h_
    simp +decide [-getElem?_pos, h1_, h2_a, h2_b, h2_c, h2_d, h6_f, h7_, zG]
   have q_ := ih_ t0_13 t7_9 (IntKind.i64.wrap (t8_5 + 1)) x1_3 _ h_
   rcases r_ with t4_21 | _
   all_goals (try simp [zG] at q_)
   all_goals simp +decide [-getElem?_pos, h1_, h2_a, h2_b, h2_c, h2_d, h6_f, h7_, q_, zG]
  cases h_
  simp +decide [-getElem?_pos, h1_, zG]
/-- impl.Node] -/
def za3 (a0_123 : List T_Node) (x1_2 : Int) : Option Int :=
 bS (Lslices_IndexFunc_Node_0_3 FU a0_123 (a0_123.length : Int) 0 x1_2) fun r_ => match r_ with
 | .inl r189 =>
  some r189
 | .inr () =>
  some (-1)
def zat (a0_123 : List T_Node) (x1_2 : Int) : Int → Ans
 | q71 => .val (.sc (.int .i64 q71)) [.b [.fn 99 [.bx 1 0]], .b [.sc (.int .i64 x1_2)]]
theorem zdR (a0_123 : List T_Node) (x1_2 : Int) (r_ : Int) (h_ : za3 a0_123 x1_2 = some r_) : ev EE (.call 107 [.ls false (r_Node false a0_123), .fn 97 [.bx 0 0]] [.b [.fn 99 [.bx 1 0]], .b [.sc (.int .i64 x1_2)]]) = some (zat a0_123 x1_2 r_) := by
 rw [zw]
 simp only [za3] at h_
 obtain ⟨r_0, h1_, h_⟩ := za h_
 have h1_f := zdu FU a0_123 (a0_123.length : Int) 0 x1_2 _ h1_
 rcases r_0 with r189 | _
 ·try dsimp only at h_
  try simp [zG] at h1_f
  cases h_
  simp +decide [-getElem?_pos, zfA, h1_f, zat]
 ·try dsimp only at h_
  try simp [zG] at h1_f
  cases h_
  simp +decide [-getElem?_pos, zfA, h1_f, zat]
/-- impl.Node] -/
def zaC (a0_122 : List T_Node) (x1_1 : Int) : Option Bool :=
 bS (za3 a0_122 x1_1) fun r190 =>
 some (decide (0 ≤ r190))
def zaQ (a0_122 : List T_Node) (x1_1 : Int) : Bool → Ans
 | q72 => .val (.sc (.bool q72)) [.b [.fn 99 [.bx 1 0]], .b [.sc (.int .i64 x1_1)]]
theorem zdf (a0_122 : List T_Node) (x1_1 : Int) (r_ : Bool) (h_ : zaC a0_122 x1_1 = some r_) : ev EE (.call 68 [.ls false (r_Node false a0_122), .fn 97 [.bx 0 0]] [.b [.fn 99 [.bx 1 0]], .b [.sc (.int .i64 x1_1)]]) = some (zaQ a0_122 x1_1 r_) := by
 rw [zw]
 simp only [zaC] at h_
 obtain ⟨r190, h1_, h_⟩ := za h_
 have h1_f := zdR a0_122 x1_1 _ h1_
 try simp [zat] at h1_f
 cases h_
 simp +decide [-getElem?_pos, zmS, h1_f, zaQ]
/-- impl.kidsOk$1 -/
def zbQ (a0_121 : List T_Node) (x0_57 : Int) : Option Bool :=
 bS (zaC a0_121 x0_57) fun r191 =>
 some (!r191)
def zbW (a0_121 : List T_Node) (x0_57 : Int) : Bool → Ans
 | q73 => .val (.sc (.bool q73)) [.b [.sc (.int .i64 x0_57)]]
theorem zet (a0_121 : List T_Node) (x0_57 : Int) (r_ : Bool) (h_ : zbQ a0_121 x0_57 = some r_) : ev EE (.call 96 [.ls false (r_Node false a0_121), .fn 99 [.bx 0 0]] [.b [.sc (.int .i64 x0_57)]]) = some (zbW a0_121 x0_57 r_) := by
 rw [zw]
 simp only [zbQ] at h_
 obtain ⟨r191, h1_, h_⟩ := za h_
 have h1_f := zdf a0_121 x0_57 _ h1_
 try simp [zaQ] at h1_f
 cases h_
 simp +decide [-getElem?_pos, zoL, h1_f, zbW]
/-- impl.kidsOk -/
def zeM (a0_93 : Int) (a0_94 : ByteArray) (a0_95 : Int) (a0_96 : List T_Node) : Option Bool :=
 if a0_93 = 1 then
  bS (zcW a0_96) fun r163 =>
  some r163
 else
 if a0_93 = 2 then
  if (a0_96.length : Int) = 1 then
   bS (zB a0_96) fun r170 =>
   some r170
  else
   some false
 else
 if a0_93 = 3 then
  if (a0_96.length : Int) = 1 then
   bS (zB a0_96) fun r171 =>
   some r171
  else
   some false
 else
 if a0_93 = 7 then
  if (a0_96.length : Int) = 1 then
   bS (zB a0_96) fun r172 =>
   some r172
  else
   some false
 else
 if a0_93 = 8 then
  if (a0_96.length : Int) = 1 then
   bS (zB a0_96) fun r173 =>
   some r173
  else
   some false
 else
 if a0_93 = 9 then
  if (a0_96.length : Int) = 1 then
   bS (zB a0_96) fun r174 =>
   some r174
  else
   some false
 else
 if a0_93 = 17 then
  if (a0_96.length : Int) = 1 then
   bS (zB a0_96) fun r175 =>
   some r175
  else
   some false
 else
 if a0_93 = 24 then
  if (a0_96.length : Int) = 1 then
   bS (zB a0_96) fun r176 =>
   some r176
  else
   some false
 else
 if a0_93 = 26 then
  if (a0_96.length : Int) = 1 then
   bS (zB a0_96) fun r177 =>
   some r177
  else
   some false
 else
 if a0_93 = 4 then
  if (a0_96.length : Int) = 2 then
   bS (zB a0_96) fun r178 =>
   some r178
  else
   some false
 else
 if a0_93 = 19 then
  if (a0_96.length : Int) = 2 then
   bS (zB a0_96) fun r179 =>
   some r179
  else
   some false
 else
 if a0_93 = 20 then
  if (a0_96.length : Int) = 2 then
   bS (zB a0_96) fun r180 =>
   some r180
  else
   some false
 else
 if a0_93 = 21 then
  if (a0_96.length : Int) = 2 then
   bS (zB a0_96) fun r181 =>
   some r181
  else
   some false
 else
 if a0_93 = 22 then
  if (a0_96.length : Int) = 2 then
   bS (zB a0_96) fun r182 =>
   some r182
  else
   some false
 else
 if a0_93 = 23 then
  if (a0_96.length : Int) = 2 then
   bS (zB a0_96) fun r183 =>
   some r183
  else
   some false
 else
 if a0_93 = 5 then
  bS (zaf (a0_96.length : Int) 2 3) fun r184 =>
  if r184 = true then
   bS (getI a0_96 0) fun e32 =>
   bS (zdd e32.op_ e32.s_ e32.n_ e32.kids_) fun r185 =>
   if r185 = true then
    if 1 ≤ a0_96.length ∧ a0_96.length ≤ a0_96.length ∧ a0_96.length ≤ a0_96.length then
    bS (zct 1) fun r186 =>
    bS (zbQ (List.take (a0_96.length - 1) (List.drop 1 a0_96)) r186) fun r192 =>
    some r192
    else none
   else
    some false
  else
   some false
 else
 if a0_93 = 6 then
  if (a0_96.length : Int) = 2 then
   bS (getI a0_96 0) fun e34 =>
   bS (zdd e34.op_ e34.s_ e34.n_ e34.kids_) fun r193 =>
   if r193 = true then
    bS (getI a0_96 1) fun e35 =>
    some (decide (e35.op_ = 1))
   else
    some false
  else
   some false
 else
 if a0_93 = 18 then
  if 1 ≤ (a0_96.length : Int) then
   bS (zB a0_96) fun r194 =>
   some r194
  else
   some false
 else
 if a0_93 = 25 then
  bS (zct 26) fun r195 =>
  bS (zbQ a0_96 r195) fun r196 =>
  some r196
 else
 if a0_93 = 27 then
  if (a0_96.length : Int) = 1 then
   bS (getI a0_96 0) fun e36 =>
   some (decide (e36.op_ = 1))
  else
   some false
 else
 bS (zaf a0_93 10 16) fun r197 =>
 if r197 = true then
  some (decide ((a0_96.length : Int) = 0))
 else
  some false
def zi (a0_93 : Int) (a0_94 : ByteArray) (a0_95 : Int) (a0_96 : List T_Node) : Bool → Ans
 | q74 => .val (.sc (.bool q74)) []
theorem zkl (a0_93 : Int) (a0_94 : ByteArray) (a0_95 : Int) (a0_96 : List T_Node) (r_ : Bool) (h_ : zeM a0_93 a0_94 a0_95 a0_96 = some r_) : ev EE (.call 66 [.ag [.sc (.int .i64 a0_93), .sc (.string a0_94), .sc (.int .i64 a0_95), .ls false (r_Node false a0_96)]] []) = some (zi a0_93 a0_94 a0_95 a0_96 r_) := by
 rw [zw]
 simp only [zeM] at h_
 rcases bI h_ with ⟨h1_, h_⟩ | ⟨h1_, h_⟩
 ·obtain ⟨r163, h2_, h_⟩ := za h_
  have h2_f := zid a0_96 _ h2_
  try simp [zdc] at h2_f
  cases h_
  simp +decide [-getElem?_pos, zbt, eq_true h1_, h2_f, zi]
 rcases bI h_ with ⟨h2_, h_⟩ | ⟨h2_, h_⟩
 ·rcases bI h_ with ⟨h3_, h_⟩ | ⟨h3_, h_⟩
  ·have h3_s := h3_; try simp at h3_s
   obtain ⟨r170, h5_, h_⟩ := za h_
   have h5_f := zC a0_96 _ h5_
   try simp [zp] at h5_f
   cases h_
   simp +decide [-getElem?_pos, zbt, h1_, eq_true h2_, eq_true h3_, eq_true h3_s, h5_f, zi]
  have h3_s := h3_; try simp at h3_s
  cases h_
  simp +decide [-getElem?_pos, zbt, h1_, eq_true h2_, h3_, h3_s, zi]
 rcases bI h_ with ⟨h3_, h_⟩ | ⟨h3_, h_⟩
 ·rcases bI h_ with ⟨h4_, h_⟩ | ⟨h4_, h_⟩
  ·have h4_s := h4_; try simp at h4_s
   obtain ⟨r171, h6_, h_⟩ := za h_
   have h6_f := zC a0_96 _ h6_
   try simp [zp] at h6_f
   cases h_
   simp +decide [-getElem?_pos, zbt, h1_, h2_, eq_true h3_, eq_true h4_, eq_true h4_s, h6_f, zi]
  have h4_s := h4_; try simp at h4_s
  cases h_
  simp +decide [-getElem?_pos, zbt, h1_, h2_, eq_true h3_, h4_, h4_s, zi]
 rcases bI h_ with ⟨h4_, h_⟩ | ⟨h4_, h_⟩
 ·rcases bI h_ with ⟨h5_, h_⟩ | ⟨h5_, h_⟩
  ·have h5_s := h5_; try simp at h5_s
   obtain ⟨r172, h7_, h_⟩ := za h_
   have h7_f := zC a0_96 _ h7_
   try simp [zp] at h7_f
   cases h_
   simp +decide [-getElem?_pos, zbt, h1_, h2_, h3_, eq_true h4_, eq_true h5_, eq_true h5_s, h7_f, zi]
  have h5_s := h5_; try simp at h5_s
  cases h_
  simp +decide [-getElem?_pos, zbt, h1_, h2_, h3_, eq_true h4_, h5_, h5_s, zi]
 rcases bI h_ with ⟨h5_, h_⟩ | ⟨h5_, h_⟩
 ·rcases bI h_ with ⟨h6_, h_⟩ | ⟨h6_, h_⟩
  ·have h6_s := h6_; try simp at h6_s
   obtain ⟨r173, h8_, h_⟩ := za h_
   have h8_f := zC a0_96 _ h8_
   try simp [zp] at h8_f
   cases h_
   simp +decide [-getElem?_pos, zbt, h1_, h2_, h3_, h4_, eq_true h5_, eq_true h6_, eq_true h6_s, h8_f, zi]
  have h6_s := h6_; try simp at h6_s
  cases h_
  simp +decide [-getElem?_pos, zbt, h1_, h2_, h3_, h4_, eq_true h5_, h6_, h6_s, zi]
 rcases bI h_ with ⟨h6_, h_⟩ | ⟨h6_, h_⟩
 ·rcases bI h_ with ⟨h7_, h_⟩ | ⟨h7_, h_⟩
  ·have h7_s := h7_; try simp at h7_s
   obtain ⟨r174, h9_, h_⟩ := za h_
   have h9_f := zC a0_96 _ h9_
   try simp [zp] at h9_f
   cases h_
   simp +decide [-getElem?_pos, zbt, h1_, h2_, h3_, h4_, h5_, eq_true h6_, eq_true h7_, eq_true h7_s, h9_f, zi]
  have h7_s := h7_; try simp at h7_s
  cases h_
  simp +decide [-getElem?_pos, zbt, h1_, h2_, h3_, h4_, h5_, eq_true h6_, h7_, h7_s, zi]
 rcases bI h_ with ⟨h7_, h_⟩ | ⟨h7_, h_⟩
 ·rcases bI h_ with ⟨h8_, h_⟩ | ⟨h8_, h_⟩
  ·have h8_s := h8_; try simp at h8_s
   obtain ⟨r175, h10_, h_⟩ := za h_
   have h10_f := zC a0_96 _ h10_
   try simp [zp] at h10_f
   cases h_
   simp +decide [-getElem?_pos, zbt, h1_, h2_, h3_, h4_, h5_, h6_, eq_true h7_, eq_true h8_, eq_true h8_s, h10_f, zi]
  have h8_s := h8_; try simp at h8_s
  cases h_
  simp +decide [-getElem?_pos, zbt, h1_, h2_, h3_, h4_, h5_, h6_, eq_true h7_, h8_, h8_s, zi]
 rcases bI h_ with ⟨h8_, h_⟩ | ⟨h8_, h_⟩
 ·rcases bI h_ with ⟨h9_, h_⟩ | ⟨h9_, h_⟩
  ·have h9_s := h9_; try simp at h9_s
   obtain ⟨r176, h11_, h_⟩ := za h_
   have h11_f := zC a0_96 _ h11_
   try simp [zp] at h11_f
   cases h_
   simp +decide [-getElem?_pos, zbt, h1_, h2_, h3_, h4_, h5_, h6_, h7_, eq_true h8_, eq_true h9_, eq_true h9_s, h11_f, zi]
  have h9_s := h9_; try simp at h9_s
  cases h_
  simp +decide [-getElem?_pos, zbt, h1_, h2_, h3_, h4_, h5_, h6_, h7_, eq_true h8_, h9_, h9_s, zi]
 rcases bI h_ with ⟨h9_, h_⟩ | ⟨h9_, h_⟩
 ·rcases bI h_ with ⟨h10_, h_⟩ | ⟨h10_, h_⟩
  ·have h10_s := h10_; try simp at h10_s
   obtain ⟨r177, h12_, h_⟩ := za h_
   have h12_f := zC a0_96 _ h12_
   try simp [zp] at h12_f
   cases h_
   simp +decide [-getElem?_pos, zbt, h1_, h2_, h3_, h4_, h5_, h6_, h7_, h8_, eq_true h9_, eq_true h10_, eq_true h10_s, h12_f, zi]
  have h10_s := h10_; try simp at h10_s
  cases h_
  simp +decide [-getElem?_pos, zbt, h1_, h2_, h3_, h4_, h5_, h6_, h7_, h8_, eq_true h9_, h10_, h10_s, zi]
 rcases bI h_ with ⟨h10_, h_⟩ | ⟨h10_, h_⟩
 ·rcases bI h_ with ⟨h11_, h_⟩ | ⟨h11_, h_⟩
  ·have h11_s := h11_; try simp at h11_s
   obtain ⟨r178, h13_, h_⟩ := za h_
   have h13_f := zC a0_96 _ h13_
   try simp [zp] at h13_f
   cases h_
   simp +decide [-getElem?_pos, zbt, h1_, h2_, h3_, h4_, h5_, h6_, h7_, h8_, h9_, eq_true h10_, eq_true h11_, eq_true h11_s, h13_f, zi]
  have h11_s := h11_; try simp at h11_s
  cases h_
  simp +decide [-getElem?_pos, zbt, h1_, h2_, h3_, h4_, h5_, h6_, h7_, h8_, h9_, eq_true h10_, h11_, h11_s, zi]
 rcases bI h_ with ⟨h11_, h_⟩ | ⟨h11_, h_⟩
 ·rcases bI h_ with ⟨h12_, h_⟩ | ⟨h12_, h_⟩
  ·have h12_s := h12_; try simp at h12_s
   obtain ⟨r179, h14_, h_⟩ := za h_
   have h14_f := zC a0_96 _ h14_
   try simp [zp] at h14_f
   cases h_
   simp +decide [-getElem?_pos, zbt, h1_, h2_, h3_, h4_, h5_, h6_, h7_, h8_, h9_, h10_, eq_true h11_, eq_true h12_, eq_true h12_s, h14_f, zi]
  have h12_s := h12_; try simp at h12_s
  cases h_
  simp +decide [-getElem?_pos, zbt, h1_, h2_, h3_, h4_, h5_, h6_, h7_, h8_, h9_, h10_, eq_true h11_, h12_, h12_s, zi]
 rcases bI h_ with ⟨h12_, h_⟩ | ⟨h12_, h_⟩
 ·rcases bI h_ with ⟨h13_, h_⟩ | ⟨h13_, h_⟩
  ·have h13_s := h13_; try simp at h13_s
   obtain ⟨r180, h15_, h_⟩ := za h_
   have h15_f := zC a0_96 _ h15_
   try simp [zp] at h15_f
   cases h_
   simp +decide [-getElem?_pos, zbt, h1_, h2_, h3_, h4_, h5_, h6_, h7_, h8_, h9_, h10_, h11_, eq_true h12_, eq_true h13_, eq_true h13_s, h15_f, zi]
  have h13_s := h13_; try simp at h13_s
  cases h_
  simp +decide [-getElem?_pos, zbt, h1_, h2_, h3_, h4_, h5_, h6_, h7_, h8_, h9_, h10_, h11_, eq_true h12_, h13_, h13_s, zi]
 rcases bI h_ with ⟨h13_, h_⟩ | ⟨h13_, h_⟩
 ·rcases bI h_ with ⟨h14_, h_⟩ | ⟨h14_, h_⟩
  ·have h14_s := h14_; try simp at h14_s
   obtain ⟨r181, h16_, h_⟩ := za h_
   have h16_f := zC a0_96 _ h16_
   try simp [zp] at h16_f
   cases h_
   simp +decide [-getElem?_pos, zbt, h1_, h2_, h3_, h4_, h5_, h6_, h7_, h8_, h9_, h10_, h11_, h12_, eq_true h13_, eq_true h14_, eq_true h14_s, h16_f, zi]
  have h14_s := h14_; try simp at h14_s
  cases h_
  simp +decide [-getElem?_pos, zbt, h1_, h2_, h3_, h4_, h5_, h6_, h7_, h8_, h9_, h10_, h11_, h12_, eq_true h13_, h14_, h14_s, zi]
 rcases bI h_ with ⟨h14_, h_⟩ | ⟨h14_, h_⟩
 ·rcases bI h_ with ⟨h15_, h_⟩ | ⟨h15_, h_⟩
  ·have h15_s := h15_; try simp at h15_s
   obtain ⟨r182, h17_, h_⟩ := za h_
   have h17_f := zC a0_96 _ h17_
   try simp [zp] at h17_f
   cases h_
   simp +decide [-getElem?_pos, zbt, h1_, h2_, h3_, h4_, h5_, h6_, h7_, h8_, h9_, h10_, h11_, h12_, h13_, eq_true h14_, eq_true h15_, eq_true h15_s, h17_f, zi]
  have h15_s := h15_; try simp at h15_s
  cases h_
  simp +decide [-getElem?_pos, zbt, h1_, h2_, h3_, h4_, h5_, h6_, h7_, h8_, h9_, h10_, h11_, h12_, h13_, eq_true h14_, h15_, h15_s, zi]
 rcases bI h_ with ⟨h15_, h_⟩ | ⟨h15_, h_⟩
 ·rcases bI h_ with ⟨h16_, h_⟩ | ⟨h16_, h_⟩
  ·have h16_s := h16_; try simp at h16_s
   obtain ⟨r183, h18_, h_⟩ := za h_
   have h18_f := zC a0_96 _ h18_
   try simp [zp] at h18_f
   cases h_
   simp +decide [-getElem?_pos, zbt, h1_, h2_, h3_, h4_, h5_, h6_, h7_, h8_, h9_, h10_, h11_, h12_, h13_, h14_, eq_true h15_, eq_true h16_, eq_true h16_s, h18_f, zi]
  have h16_s := h16_; try simp at h16_s
  cases h_
  simp +decide [-getElem?_pos, zbt, h1_, h2_, h3_, h4_, h5_, h6_, h7_, h8_, h9_, h10_, h11_, h12_, h13_, h14_, eq_true h15_, h16_, h16_s, zi]
 rcases bI h_ with ⟨h16_, h_⟩ | ⟨h16_, h_⟩
 ·obtain ⟨r184, h17_, h_⟩ := za h_
  have h17_f := zX (a0_96.length : Int) 2 3 _ h17_
  try simp [zL] at h17_f
  rcases bI h_ with ⟨h18_, h_⟩ | ⟨h18_, h_⟩
  ·obtain ⟨e32, h19_, h_⟩ := za h_
   obtain ⟨h19_a, h19_b, h19_c, h19_d⟩ := zj (o := false)  h19_
   try simp [-getElem?_pos] at h19_d
   try simp at h19_b; try simp at h19_c
   obtain ⟨r185, h23_, h_⟩ := za h_
   have h23_f := ze5 e32.op_ e32.s_ e32.n_ e32.kids_ _ h23_
   try simp [zb5] at h23_f
   rcases bI h_ with ⟨h24_, h_⟩ | ⟨h24_, h_⟩
   ·obtain ⟨h25_, h_⟩ := bP h_
    obtain ⟨r186, h26_, h_⟩ := za h_
    have h26_f := zfj 1 _ h26_
    try simp [zcu] at h26_f
    obtain ⟨r192, h27_, h_⟩ := za h_
    have h27_f := zet (List.take (a0_96.length - 1) (List.drop 1 a0_96)) r186 _ h27_
    try simp [zbW] at h27_f
    cases h_
    simp +decide [-getElem?_pos, zbt, h1_, h2_, h3_, h4_, h5_, h6_, h7_, h8_, h9_, h10_, h11_, h12_, h13_, h14_, h15_, eq_true h16_, h17_f, h18_, h19_a, h19_b, h19_c, h19_d, h23_f, h24_, h25_, h26_f, h27_f, zi]
   cases h_
   simp +decide [-getElem?_pos, zbt, h1_, h2_, h3_, h4_, h5_, h6_, h7_, h8_, h9_, h10_, h11_, h12_, h13_, h14_, h15_, eq_true h16_, h17_f, h18_, h19_a, h19_b, h19_c, h19_d, h23_f, h24_, zi]
  cases h_
  simp +decide [-getElem?_pos, zbt, h1_, h2_, h3_, h4_, h5_, h6_, h7_, h8_, h9_, h10_, h11_, h12_, h13_, h14_, h15_, eq_true h16_, h17_f, h18_, zi]
 rcases bI h_ with ⟨h17_, h_⟩ | ⟨h17_, h_⟩
 ·rcases bI h_ with ⟨h18_, h_⟩ | ⟨h18_, h_⟩
  ·have h18_s := h18_; try simp at h18_s
   obtain ⟨e34, h20_, h_⟩ := za h_
   obtain ⟨h20_a, h20_b, h20_c, h20_d⟩ := zj (o := false)  h20_
   try simp [-getElem?_pos] at h20_d
   try simp at h20_b; try simp at h20_c
   obtain ⟨r193, h24_, h_⟩ := za h_
   have h24_f := ze5 e34.op_ e34.s_ e34.n_ e34.kids_ _ h24_
   try simp [zb5] at h24_f
   rcases bI h_ with ⟨h25_, h_⟩ | ⟨h25_, h_⟩
   ·obtain ⟨e35, h26_, h_⟩ := za h_
    obtain ⟨h26_a, h26_b, h26_c, h26_d⟩ := zj (o := false)  h26_
    try simp [-getElem?_pos] at h26_d
    try simp at h26_b; try simp at h26_c
    cases h_
    simp +decide [-getElem?_pos, zbt, h1_, h2_, h3_, h4_, h5_, h6_, h7_, h8_, h9_, h10_, h11_, h12_, h13_, h14_, h15_, h16_, eq_true h17_, eq_true h18_, eq_true h18_s, h20_a, h20_b, h20_c, h20_d, h24_f, h25_, h26_a, h26_b, h26_c, h26_d, zi]
   cases h_
   simp +decide [-getElem?_pos, zbt, h1_, h2_, h3_, h4_, h5_, h6_, h7_, h8_, h9_, h10_, h11_, h12_, h13_, h14_, h15_, h16_, eq_true h17_, eq_true h18_, eq_true h18_s, h20_a, h20_b, h20_c, h20_d, h24_f, h25_, zi]
  have h18_s := h18_; try simp at h18_s
  cases h_
  simp +decide [-getElem?_pos, zbt, h1_, h2_, h3_, h4_, h5_, h6_, h7_, h8_, h9_, h10_, h11_, h12_, h13_, h14_, h15_, h16_, eq_true h17_, h18_, h18_s, zi]
 rcases bI h_ with ⟨h18_, h_⟩ | ⟨h18_, h_⟩
 ·rcases bI h_ with ⟨h19_, h_⟩ | ⟨h19_, h_⟩
  ·have h19_s := h19_; try simp at h19_s
   obtain ⟨r194, h21_, h_⟩ := za h_
   have h21_f := zC a0_96 _ h21_
   try simp [zp] at h21_f
   cases h_
   simp +decide [-getElem?_pos, zbt, h1_, h2_, h3_, h4_, h5_, h6_, h7_, h8_, h9_, h10_, h11_, h12_, h13_, h14_, h15_, h16_, h17_, eq_true h18_, h19_, h19_s, h21_f, zi]
  have h19_s := h19_; try simp at h19_s
  cases h_
  simp +decide [-getElem?_pos, zbt, h1_, h2_, h3_, h4_, h5_, h6_, h7_, h8_, h9_, h10_, h11_, h12_, h13_, h14_, h15_, h16_, h17_, eq_true h18_, h19_, h19_s, zi]
 rcases bI h_ with ⟨h19_, h_⟩ | ⟨h19_, h_⟩
 ·obtain ⟨r195, h20_, h_⟩ := za h_
  have h20_f := zfj 26 _ h20_
  try simp [zcu] at h20_f
  obtain ⟨r196, h21_, h_⟩ := za h_
  have h21_f := zet a0_96 r195 _ h21_
  try simp [zbW] at h21_f
  cases h_
  simp +decide [-getElem?_pos, zbt, h1_, h2_, h3_, h4_, h5_, h6_, h7_, h8_, h9_, h10_, h11_, h12_, h13_, h14_, h15_, h16_, h17_, h18_, eq_true h19_, h20_f, h21_f, zi]
 rcases bI h_ with ⟨h20_, h_⟩ | ⟨h20_, h_⟩
 ·rcases bI h_ with ⟨h21_, h_⟩ | ⟨h21_, h_⟩
  ·have h21_s := h21_; try simp at h21_s
   obtain ⟨e36, h23_, h_⟩ := za h_
   obtain ⟨h23_a, h23_b, h23_c, h23_d⟩ := zj (o := false)  h23_
   try simp [-getElem?_pos] at h23_d
   try simp at h23_b; try simp at h23_c
   cases h_
   simp +decide [-getElem?_pos, zbt, h1_, h2_, h3_, h4_, h5_, h6_, h7_, h8_, h9_, h10_, h11_, h12_, h13_, h14_, h15_, h16_, h17_, h18_, h19_, eq_true h20_, eq_true h21_, eq_true h21_s, h23_a, h23_b, h23_c, h23_d, zi]
  have h21_s := h21_; try simp at h21_s
  cases h_
  simp +decide [-getElem?_pos, zbt, h1_, h2_, h3_, h4_, h5_, h6_, h7_, h8_, h9_, h10_, h11_, h12_, h13_, h14_, h15_, h16_, h17_, h18_, h19_, eq_true h20_, h21_, h21_s, zi]
 obtain ⟨r197, h21_, h_⟩ := za h_
 have h21_f := zX a0_93 10 16 _ h21_
 try simp [zL] at h21_f
 rcases bI h_ with ⟨h22_, h_⟩ | ⟨h22_, h_⟩
 ·cases h_
  simp +decide [-getElem?_pos, zbt, h1_, h2_, h3_, h4_, h5_, h6_, h7_, h8_, h9_, h10_, h11_, h12_, h13_, h14_, h15_, h16_, h17_, h18_, h19_, h20_, h21_f, h22_, zi]
 cases h_
 simp +decide [-getElem?_pos, zbt, h1_, h2_, h3_, h4_, h5_, h6_, h7_, h8_, h9_, h10_, h11_, h12_, h13_, h14_, h15_, h16_, h17_, h18_, h19_, h20_, h21_f, h22_, zi]
end Go.Pv

namespace Go.Pv
set_option maxRecDepth 100000
set_option maxHeartbeats 40000000
set_option linter.unusedSimpArgs false
set_option linter.unusedVariables false
/-- impl.letter -/
def zeN (a0_138 : Int) : Option Bool :=
 if 97 ≤ a0_138 then
  if a0_138 ≤ 122 then
   some true
  else
  if 65 ≤ a0_138 then
   some (decide (a0_138 ≤ 90))
  else
   some false
 else
 if 65 ≤ a0_138 then
  some (decide (a0_138 ≤ 90))
 else
  some false
def zbl (a0_138 : Int) : Bool → Ans
 | q75 => .val (.sc (.bool q75)) []
theorem zgJ (a0_138 : Int) (r_ : Bool) (h_ : zeN a0_138 = some r_) : ev EE (.call 83 [.sc (.int .u8 a0_138)] []) = some (zbl a0_138 r_) := by
 rw [zw]
 simp only [zeN] at h_
 rcases bI h_ with ⟨h1_, h_⟩ | ⟨h1_, h_⟩
 ·rcases bI h_ with ⟨h2_, h_⟩ | ⟨h2_, h_⟩
  ·cases h_
   simp +decide [-getElem?_pos, zlk, h1_, h2_, zbl]
  rcases bI h_ with ⟨h3_, h_⟩ | ⟨h3_, h_⟩
  ·cases h_
   simp +decide [-getElem?_pos, zlk, h1_, h2_, h3_, zbl]
  cases h_
  simp +decide [-getElem?_pos, zlk, h1_, h2_, h3_, zbl]
 rcases bI h_ with ⟨h2_, h_⟩ | ⟨h2_, h_⟩
 ·cases h_
  simp +decide [-getElem?_pos, zlk, h1_, h2_, zbl]
 cases h_
 simp +decide [-getElem?_pos, zlk, h1_, h2_, zbl]
/-- impl.digit -/
def zgK (a0_141 : Int) : Option Bool :=
 if 48 ≤ a0_141 then
  some (decide (a0_141 ≤ 57))
 else
  some false
def zdS (a0_141 : Int) : Bool → Ans
 | q76 => .val (.sc (.bool q76)) []
theorem zlb (a0_141 : Int) (r_ : Bool) (h_ : zgK a0_141 = some r_) : ev EE (.call 86 [.sc (.int .u8 a0_141)] []) = some (zdS a0_141 r_) := by
 rw [zw]
 simp only [zgK] at h_
 rcases bI h_ with ⟨h1_, h_⟩ | ⟨h1_, h_⟩
 ·cases h_
  simp +decide [-getElem?_pos, zp0, h1_, zdS]
 cases h_
 simp +decide [-getElem?_pos, zp0, h1_, zdS]
/-- impl.nameOk$1 -/
def zcX (a0_140 : Int) : Option Bool :=
 bS (zeN a0_140) fun r201 =>
 if r201 = true then
  some true
 else
 bS (zgK a0_140) fun r202 =>
 some r202
def zcv (a0_140 : Int) : Bool → Ans
 | q77 => .val (.sc (.bool q77)) []
theorem zie (a0_140 : Int) (r_ : Bool) (h_ : zcX a0_140 = some r_) : ev EE (.call 135 [.sc (.int .u8 a0_140)] []) = some (zcv a0_140 r_) := by
 rw [zw]
 simp only [zcX] at h_
 obtain ⟨r201, h1_, h_⟩ := za h_
 have h1_f := zgJ a0_140 _ h1_
 try simp [zbl] at h1_f
 rcases bI h_ with ⟨h2_, h_⟩ | ⟨h2_, h_⟩
 ·cases h_
  simp +decide [-getElem?_pos, zlq, h1_f, h2_, zcv]
 obtain ⟨r202, h3_, h_⟩ := za h_
 have h3_f := zlb a0_140 _ h3_
 try simp [zdS] at h3_f
 cases h_
 simp +decide [-getElem?_pos, zlq, h1_f, h2_, h3_f, zcv]
def Li_run_0 : Nat → ByteArray → Int → Option Int
 | 0, _, _ => none
 | n_ + 1, t0_14, t1_10 =>
 if t1_10 < (t0_14.size : Int) then
  bS (zen t0_14 t1_10) fun b15 =>
  bS (zcX (b15.toNat : Int)) fun r203 =>
  if r203 = true then
   Li_run_0 n_ t0_14 (IntKind.i64.wrap (t1_10 + 1))
  else
   some t1_10
 else
  some t1_10
def zcw (t0_14 : ByteArray) (t1_10 : Int) : Int → Ans
 | t1_11 => .out (.exit 0) { np := 0, tm := [(1, .sc (.int .i64 t1_11))], ar := [], bx := [] }
theorem zlc : ∀ (n_ : Nat) (t0_14 : ByteArray) (t1_10 : Int) (r_ : Int), Li_run_0 n_ t0_14 t1_10 = some r_ → ev EE (.loop ziH [0, 1, 2] [1, 6] { np := 0, tm := [(0, .sc (.string t0_14)), (1, .sc (.int .i64 t1_10)), (2, .fn 135 [])], ar := [], bx := [] }) = some (zcw t0_14 t1_10 r_) := by
 intro n_
 induction n_ with
 | zero => intro t0_14 t1_10 r_ h_; simp only [Li_run_0] at h_; cases h_
 | succ n_ ih_ =>
  intro t0_14 t1_10 r_ h_
  rw [zW EE ziH.eq_1]
  simp only [Li_run_0] at h_
  rcases bI h_ with ⟨h1_, h_⟩ | ⟨h1_, h_⟩
  ·have h1_s := h1_; try simp at h1_s
   obtain ⟨b15, h3_, h_⟩ := za h_
   obtain ⟨h3_a, h3_b, h3_c, h3_d⟩ := zaM h3_
   try simp [-getElem?_pos] at h3_d
   obtain ⟨r203, h7_, h_⟩ := za h_
   have h7_f := zie (b15.toNat : Int) _ h7_
   try simp [zcv] at h7_f
   rcases bI h_ with ⟨h8_, h_⟩ | ⟨h8_, h_⟩
   ·have q_ := ih_ t0_14 (IntKind.i64.wrap (t1_10 + 1)) _ h_
    rcases r_ with t1_11
    all_goals (try simp [zcw] at q_)
    all_goals simp +decide [-getElem?_pos, h1_, h1_s, h3_a, h3_b, h3_c, h3_d, h7_f, h8_, q_, zcw]
   cases h_
   simp +decide [-getElem?_pos, h1_, h1_s, h3_a, h3_b, h3_c, h3_d, h7_f, h8_, zcw]
  have h1_s := h1_; try simp at h1_s
  cases h_
  simp +decide [-getElem?_pos, h1_, h1_s, zcw]
/-- impl.run -/
def ziA (a0_139 : ByteArray) (a1_15 : Int) : Option Int :=
 bS (Li_run_0 FU a0_139 a1_15) fun r204 =>
 some r204
def zgo (a0_139 : ByteArray) (a1_15 : Int) : Int → Ans
 | q78 => .val (.sc (.int .i64 q78)) []
theorem zoE (a0_139 : ByteArray) (a1_15 : Int) (r_ : Int) (h_ : ziA a0_139 a1_15 = some r_) : ev EE (.call 84 [.sc (.string a0_139), .sc (.int .i64 a1_15), .fn 135 []] []) = some (zgo a0_139 a1_15 r_) := by
 rw [zw]
 simp only [ziA] at h_
 obtain ⟨r204, h1_, h_⟩ := za h_
 have h1_f := zlc FU a0_139 a1_15 _ h1_
 try simp [zcw] at h1_f
 cases h_
 simp +decide [-getElem?_pos, zpZ, h1_f, zgo]
/-- impl.nameOk -/
def zeO (a0_137 : ByteArray) : Option Bool :=
 bS (zaf (a0_137.size : Int) 1 12) fun r199 =>
 if r199 = true then
  bS (zen a0_137 0) fun b14 =>
  bS (zeN (b14.toNat : Int)) fun r200 =>
  if r200 = true then
   bS (ziA a0_137 0) fun r205 =>
   some (decide (r205 = (a0_137.size : Int)))
  else
   some false
 else
  some false
def zcD (a0_137 : ByteArray) : Bool → Ans
 | q79 => .val (.sc (.bool q79)) []
theorem zkm (a0_137 : ByteArray) (r_ : Bool) (h_ : zeO a0_137 = some r_) : ev EE (.call 119 [.sc (.string a0_137)] []) = some (zcD a0_137 r_) := by
 rw [zw]
 simp only [zeO] at h_
 obtain ⟨r199, h1_, h_⟩ := za h_
 have h1_f := zX (a0_137.size : Int) 1 12 _ h1_
 try simp [zL] at h1_f
 rcases bI h_ with ⟨h2_, h_⟩ | ⟨h2_, h_⟩
 ·obtain ⟨b14, h3_, h_⟩ := za h_
  obtain ⟨h3_a, h3_b, h3_c, h3_d⟩ := zaM h3_
  try simp [-getElem?_pos] at h3_d
  try simp at h3_b; try simp at h3_c
  obtain ⟨r200, h7_, h_⟩ := za h_
  have h7_f := zgJ (b14.toNat : Int) _ h7_
  try simp [zbl] at h7_f
  rcases bI h_ with ⟨h8_, h_⟩ | ⟨h8_, h_⟩
  ·obtain ⟨r205, h9_, h_⟩ := za h_
   have h9_f := zoE a0_137 0 _ h9_
   try simp [zgo] at h9_f
   cases h_
   simp +decide [-getElem?_pos, zjE, h1_f, h2_, h3_a, h3_b, h3_c, h3_d, h7_f, h8_, h9_f, zcD]
  cases h_
  simp +decide [-getElem?_pos, zjE, h1_f, h2_, h3_a, h3_b, h3_c, h3_d, h7_f, h8_, zcD]
 cases h_
 simp +decide [-getElem?_pos, zjE, h1_f, h2_, zcD]
def Lslices_Index_string_0 : Nat → (List ByteArray) → ByteArray → Int → Int → Option (Int ⊕ Unit)
 | 0, _, _, _, _ => none
 | n_ + 1, t0_15, t1_12, t7_10, t8_6 =>
 if t8_6 < t7_10 then
  bS (getI t0_15 t8_6) fun e37 =>
  if t1_12 = e37 then
   some (.inl t8_6)
  else
   Lslices_Index_string_0 n_ t0_15 t1_12 t7_10 (IntKind.i64.wrap (t8_6 + 1))
 else
  some (.inr ())
def zS (t0_15 : List ByteArray) (t1_12 : ByteArray) (t7_10 : Int) (t8_6 : Int) : Int ⊕ Unit → Ans
 | .inl t4_22 => .out .ret { np := 0, tm := [(4, .sc (.int .i64 t4_22))], ar := [], bx := [] }
 | .inr _ => .out (.exit 0) { np := 0, tm := [], ar := [], bx := [] }
theorem zep : ∀ (n_ : Nat) (t0_15 : List ByteArray) (t1_12 : ByteArray) (t7_10 : Int) (t8_6 : Int) (r_ : Int ⊕ Unit), Lslices_Index_string_0 n_ t0_15 t1_12 t7_10 t8_6 = some r_ → ev EE (.loop zky [0, 1, 7, 8] [4] { np := 0, tm := [(0, .ls false (strs t0_15)), (1, .sc (.string t1_12)), (7, .sc (.int .i64 t7_10)), (8, .sc (.int .i64 t8_6))], ar := [], bx := [] }) = some (zS t0_15 t1_12 t7_10 t8_6 r_) := by
 intro n_
 induction n_ with
 | zero => intro t0_15 t1_12 t7_10 t8_6 r_ h_; simp only [Lslices_Index_string_0] at h_; cases h_
 | succ n_ ih_ =>
  intro t0_15 t1_12 t7_10 t8_6 r_ h_
  rw [zW EE zky.eq_1]
  simp only [Lslices_Index_string_0] at h_
  rcases bI h_ with ⟨h1_, h_⟩ | ⟨h1_, h_⟩
  ·obtain ⟨e37, h2_, h_⟩ := za h_
   obtain ⟨h2_a, h2_b, h2_c, h2_d⟩ := zbn  h2_
   try simp [-getElem?_pos] at h2_d
   rcases bI h_ with ⟨h6_, h_⟩ | ⟨h6_, h_⟩
   ·cases h_
    simp +decide [-getElem?_pos, h1_, h2_a, h2_b, h2_c, h2_d, eq_true h6_, zS]
   have q_ := ih_ t0_15 t1_12 t7_10 (IntKind.i64.wrap (t8_6 + 1)) _ h_
   rcases r_ with t4_22 | _
   all_goals (try simp [zS] at q_)
   all_goals simp +decide [-getElem?_pos, h1_, h2_a, h2_b, h2_c, h2_d, h6_, q_, zS]
  cases h_
  simp +decide [-getElem?_pos, h1_, zS]
/-- slices.Index[[]string,string] -/
def zbE (a0_144 : List ByteArray) (a1_17 : ByteArray) : Option Int :=
 bS (Lslices_Index_string_0 FU a0_144 a1_17 (a0_144.length : Int) 0) fun r_ => match r_ with
 | .inl r207 =>
  some r207
 | .inr () =>
  some (-1)
def za4 (a0_144 : List ByteArray) (a1_17 : ByteArray) : Int → Ans
 | q80 => .val (.sc (.int .i64 q80)) []
theorem zeP (a0_144 : List ByteArray) (a1_17 : ByteArray) (r_ : Int) (h_ : zbE a0_144 a1_17 = some r_) : ev EE (.call 151 [.ls false (strs a0_144), .sc (.string a1_17)] []) = some (za4 a0_144 a1_17 r_) := by
 rw [zw]
 simp only [zbE] at h_
 obtain ⟨r_0, h1_, h_⟩ := za h_
 have h1_f := zep FU a0_144 a1_17 (a0_144.length : Int) 0 _ h1_
 rcases r_0 with r207 | _
 ·try dsimp only at h_
  try simp [zS] at h1_f
  cases h_
  simp +decide [-getElem?_pos, zlr, h1_f, za4]
 ·try dsimp only at h_
  try simp [zS] at h1_f
  cases h_
  simp +decide [-getElem?_pos, zlr, h1_f, za4]
/-- slices.Contains[[]string,string] -/
def Fslices_Contains_string (a0_143 : List ByteArray) (a1_16 : ByteArray) : Option Bool :=
 bS (zbE a0_143 a1_16) fun r208 =>
 some (decide (0 ≤ r208))
def zbg (a0_143 : List ByteArray) (a1_16 : ByteArray) : Bool → Ans
 | q81 => .val (.sc (.bool q81)) []
theorem zee (a0_143 : List ByteArray) (a1_16 : ByteArray) (r_ : Bool) (h_ : Fslices_Contains_string a0_143 a1_16 = some r_) : ev EE (.call 133 [.ls false (strs a0_143), .sc (.string a1_16)] []) = some (zbg a0_143 a1_16 r_) := by
 rw [zw]
 simp only [Fslices_Contains_string] at h_
 obtain ⟨r208, h1_, h_⟩ := za h_
 have h1_f := zeP a0_143 a1_16 _ h1_
 try simp [za4] at h1_f
 cases h_
 simp +decide [-getElem?_pos, zn3, h1_f, zbg]
/-- impl.isWord -/
def zeQ (a0_142 : ByteArray) : Option Bool :=
 bS (Fslices_Contains_string ([(⟨#[108, 101, 116]⟩ : ByteArray), (⟨#[105, 102]⟩ : ByteArray), (⟨#[101, 108, 115, 101]⟩ : ByteArray), (⟨#[119, 104, 105, 108, 101]⟩ : ByteArray), (⟨#[114, 101, 116, 117, 114, 110]⟩ : ByteArray), (⟨#[112, 114, 105, 110, 116]⟩ : ByteArray), (⟨#[102, 117, 110, 99, 116, 105, 111, 110]⟩ : ByteArray), (⟨#[116, 114, 117, 101]⟩ : ByteArray), (⟨#[102, 97, 108, 115, 101]⟩ : ByteArray), (⟨#[110, 117, 108, 108]⟩ : ByteArray), (⟨#[117, 110, 100, 101, 102, 105, 110, 101, 100]⟩ : ByteArray), (⟨#[112, 114, 111, 116, 111]⟩ : ByteArray)]) a0_142) fun r209 =>
 some r209
def zeC (a0_142 : ByteArray) : Bool → Ans
 | q82 => .val (.sc (.bool q82)) []
theorem zkn (a0_142 : ByteArray) (r_ : Bool) (h_ : zeQ a0_142 = some r_) : ev EE (.call 117 [.sc (.string a0_142)] []) = some (zeC a0_142 r_) := by
 rw [zw]
 simp only [zeQ] at h_
 obtain ⟨r209, h1_, h_⟩ := za h_
 have h1_f := zee ([(⟨#[108, 101, 116]⟩ : ByteArray), (⟨#[105, 102]⟩ : ByteArray), (⟨#[101, 108, 115, 101]⟩ : ByteArray), (⟨#[119, 104, 105, 108, 101]⟩ : ByteArray), (⟨#[114, 101, 116, 117, 114, 110]⟩ : ByteArray), (⟨#[112, 114, 105, 110, 116]⟩ : ByteArray), (⟨#[102, 117, 110, 99, 116, 105, 111, 110]⟩ : ByteArray), (⟨#[116, 114, 117, 101]⟩ : ByteArray), (⟨#[102, 97, 108, 115, 101]⟩ : ByteArray), (⟨#[110, 117, 108, 108]⟩ : ByteArray), (⟨#[117, 110, 100, 101, 102, 105, 110, 101, 100]⟩ : ByteArray), (⟨#[112, 114, 111, 116, 111]⟩ : ByteArray)]) a0_142 _ h1_
 try simp [zbg] at h1_f
 cases h_
 simp +decide [-getElem?_pos, zn2, h1_f, zeC]
/-- impl.properName -/
def zaq (a0_136 : ByteArray) : Option Bool :=
 bS (zeO a0_136) fun r206 =>
 if r206 = true then
  bS (zeQ a0_136) fun r210 =>
  some (!r210)
 else
  some false
def z8 (a0_136 : ByteArray) : Bool → Ans
 | q83 => .val (.sc (.bool q83)) []
theorem zaY (a0_136 : ByteArray) (r_ : Bool) (h_ : zaq a0_136 = some r_) : ev EE (.call 103 [.sc (.string a0_136)] []) = some (z8 a0_136 r_) := by
 rw [zw]
 simp only [zaq] at h_
 obtain ⟨r206, h1_, h_⟩ := za h_
 have h1_f := zkm a0_136 _ h1_
 try simp [zcD] at h1_f
 rcases bI h_ with ⟨h2_, h_⟩ | ⟨h2_, h_⟩
 ·obtain ⟨r210, h3_, h_⟩ := za h_
  have h3_f := zkn a0_136 _ h3_
  try simp [zeC] at h3_f
  cases h_
  simp +decide [-getElem?_pos, zln, h1_f, h2_, h3_f, z8]
 cases h_
 simp +decide [-getElem?_pos, zln, h1_f, h2_, z8]
/-- impl.textByte -/
def zdv (a0_146 : Int) : Option Bool :=
 if 32 ≤ a0_146 then
  if a0_146 ≤ 126 then
   some (!(decide (a0_146 = 34)))
  else
   some false
 else
  some false
def zb0 (a0_146 : Int) : Bool → Ans
 | q84 => .val (.sc (.bool q84)) []
theorem ziB (a0_146 : Int) (r_ : Bool) (h_ : zdv a0_146 = some r_) : ev EE (.call 89 [.sc (.int .u8 a0_146)] []) = some (zb0 a0_146 r_) := by
 rw [zw]
 simp only [zdv] at h_
 rcases bI h_ with ⟨h1_, h_⟩ | ⟨h1_, h_⟩
 ·rcases bI h_ with ⟨h2_, h_⟩ | ⟨h2_, h_⟩
  ·cases h_
   simp +decide [-getElem?_pos, zoK, h1_, h2_, zb0]
  cases h_
  simp +decide [-getElem?_pos, zoK, h1_, h2_, zb0]
 cases h_
 simp +decide [-getElem?_pos, zoK, h1_, zb0]
def Li_run_0_2 : Nat → ByteArray → Int → Option Int
 | 0, _, _ => none
 | n_ + 1, t0_16, t1_13 =>
 if t1_13 < (t0_16.size : Int) then
  bS (zen t0_16 t1_13) fun b16 =>
  bS (zdv (b16.toNat : Int)) fun r225 =>
  if r225 = true then
   Li_run_0_2 n_ t0_16 (IntKind.i64.wrap (t1_13 + 1))
  else
   some t1_13
 else
  some t1_13
def zbR (t0_16 : ByteArray) (t1_13 : Int) : Int → Ans
 | t1_14 => .out (.exit 0) { np := 0, tm := [(1, .sc (.int .i64 t1_14))], ar := [], bx := [] }
theorem zjw : ∀ (n_ : Nat) (t0_16 : ByteArray) (t1_13 : Int) (r_ : Int), Li_run_0_2 n_ t0_16 t1_13 = some r_ → ev EE (.loop ziH [0, 1, 2] [1, 6] { np := 0, tm := [(0, .sc (.string t0_16)), (1, .sc (.int .i64 t1_13)), (2, .fn 89 [])], ar := [], bx := [] }) = some (zbR t0_16 t1_13 r_) := by
 intro n_
 induction n_ with
 | zero => intro t0_16 t1_13 r_ h_; simp only [Li_run_0_2] at h_; cases h_
 | succ n_ ih_ =>
  intro t0_16 t1_13 r_ h_
  rw [zW EE ziH.eq_1]
  simp only [Li_run_0_2] at h_
  rcases bI h_ with ⟨h1_, h_⟩ | ⟨h1_, h_⟩
  ·have h1_s := h1_; try simp at h1_s
   obtain ⟨b16, h3_, h_⟩ := za h_
   obtain ⟨h3_a, h3_b, h3_c, h3_d⟩ := zaM h3_
   try simp [-getElem?_pos] at h3_d
   obtain ⟨r225, h7_, h_⟩ := za h_
   have h7_f := ziB (b16.toNat : Int) _ h7_
   try simp [zb0] at h7_f
   rcases bI h_ with ⟨h8_, h_⟩ | ⟨h8_, h_⟩
   ·have q_ := ih_ t0_16 (IntKind.i64.wrap (t1_13 + 1)) _ h_
    rcases r_ with t1_14
    all_goals (try simp [zbR] at q_)
    all_goals simp +decide [-getElem?_pos, h1_, h1_s, h3_a, h3_b, h3_c, h3_d, h7_f, h8_, q_, zbR]
   cases h_
   simp +decide [-getElem?_pos, h1_, h1_s, h3_a, h3_b, h3_c, h3_d, h7_f, h8_, zbR]
  have h1_s := h1_; try simp at h1_s
  cases h_
  simp +decide [-getElem?_pos, h1_, h1_s, zbR]
/-- impl.run -/
def zft (a0_145 : ByteArray) (a1_18 : Int) : Option Int :=
 bS (Li_run_0_2 FU a0_145 a1_18) fun r226 =>
 some r226
def ze6 (a0_145 : ByteArray) (a1_18 : Int) : Int → Ans
 | q85 => .val (.sc (.int .i64 q85)) []
theorem zld (a0_145 : ByteArray) (a1_18 : Int) (r_ : Int) (h_ : zft a0_145 a1_18 = some r_) : ev EE (.call 84 [.sc (.string a0_145), .sc (.int .i64 a1_18), .fn 89 []] []) = some (ze6 a0_145 a1_18 r_) := by
 rw [zw]
 simp only [zft] at h_
 obtain ⟨r226, h1_, h_⟩ := za h_
 have h1_f := zjw FU a0_145 a1_18 _ h1_
 try simp [zbR] at h1_f
 cases h_
 simp +decide [-getElem?_pos, zpZ, h1_f, ze6]
/-- impl.namesOf -/
def Fi_namesOf (a0_147 : Int) (a0_148 : ByteArray) (a0_149 : Int) (a0_150 : List T_Node) : Option (List ByteArray) :=
 if a0_148 = (⟨#[]⟩ : ByteArray) then
  some []
 else
 bS (zcR a0_148 (⟨#[32]⟩ : ByteArray)) fun r229 =>
 some r229
def zci (a0_147 : Int) (a0_148 : ByteArray) (a0_149 : Int) (a0_150 : List T_Node) : (List ByteArray) → Ans
 | q87 => .val (.ls true (strs q87)) []
theorem zge (a0_147 : Int) (a0_148 : ByteArray) (a0_149 : Int) (a0_150 : List T_Node) (r_ : (List ByteArray)) (h_ : Fi_namesOf a0_147 a0_148 a0_149 a0_150 = some r_) : ev EE (.call 105 [.ag [.sc (.int .i64 a0_147), .sc (.string a0_148), .sc (.int .i64 a0_149), .ls false (r_Node false a0_150)]] []) = some (zci a0_147 a0_148 a0_149 a0_150 r_) := by
 rw [zw]
 simp only [Fi_namesOf] at h_
 rcases bI h_ with ⟨h1_, h_⟩ | ⟨h1_, h_⟩
 ·cases h_
  simp +decide [-getElem?_pos, zlo, eq_true h1_, zci]
 obtain ⟨r229, h2_, h_⟩ := za h_
 have h2_f := zgE a0_148 (⟨#[32]⟩ : ByteArray) _ h2_
 try simp [zd6] at h2_f
 cases h_
 simp +decide [-getElem?_pos, zlo, h1_, h2_f, zci]
/-- impl.fieldsOk$1 -/
def zcj (a0_153 : ByteArray) : Option Bool :=
 bS (zaq a0_153) fun r231 =>
 some (!r231)
def zcJ (a0_153 : ByteArray) : Bool → Ans
 | q88 => .val (.sc (.bool q88)) []
theorem zgL (a0_153 : ByteArray) (r_ : Bool) (h_ : zcj a0_153 = some r_) : ev EE (.call 106 [.sc (.string a0_153)] []) = some (zcJ a0_153 r_) := by
 rw [zw]
 simp only [zcj] at h_
 obtain ⟨r231, h1_, h_⟩ := za h_
 have h1_f := zaY a0_153 _ h1_
 try simp [z8] at h1_f
 cases h_
 simp +decide [-getElem?_pos, znZ, h1_f, zcJ]
def Lslices_IndexFunc_string_0 : Nat → (List ByteArray) → Int → Int → Option (Int ⊕ Unit)
 | 0, _, _, _ => none
 | n_ + 1, t0_17, t7_11, t8_7 =>
 if t8_7 < t7_11 then
  bS (getI t0_17 t8_7) fun e38 =>
  bS (zcj e38) fun r232 =>
  if r232 = true then
   some (.inl t8_7)
  else
   Lslices_IndexFunc_string_0 n_ t0_17 t7_11 (IntKind.i64.wrap (t8_7 + 1))
 else
  some (.inr ())
def zH (t0_17 : List ByteArray) (t7_11 : Int) (t8_7 : Int) : Int ⊕ Unit → Ans
 | .inl t4_23 => .out .ret { np := 0, tm := [(4, .sc (.int .i64 t4_23))], ar := [], bx := [] }
 | .inr _ => .out (.exit 0) { np := 0, tm := [], ar := [], bx := [] }
theorem zdw : ∀ (n_ : Nat) (t0_17 : List ByteArray) (t7_11 : Int) (t8_7 : Int) (r_ : Int ⊕ Unit), Lslices_IndexFunc_string_0 n_ t0_17 t7_11 t8_7 = some r_ → ev EE (.loop zkx [0, 1, 7, 8] [4] { np := 0, tm := [(0, .ls false (strs t0_17)), (1, .fn 106 []), (7, .sc (.int .i64 t7_11)), (8, .sc (.int .i64 t8_7))], ar := [], bx := [] }) = some (zH t0_17 t7_11 t8_7 r_) := by
 intro n_
 induction n_ with
 | zero => intro t0_17 t7_11 t8_7 r_ h_; simp only [Lslices_IndexFunc_string_0] at h_; cases h_
 | succ n_ ih_ =>
  intro t0_17 t7_11 t8_7 r_ h_
  rw [zW EE zkx.eq_1]
  simp only [Lslices_IndexFunc_string_0] at h_
  rcases bI h_ with ⟨h1_, h_⟩ | ⟨h1_, h_⟩
  ·obtain ⟨e38, h2_, h_⟩ := za h_
   obtain ⟨h2_a, h2_b, h2_c, h2_d⟩ := zbn  h2_
   try simp [-getElem?_pos] at h2_d
   obtain ⟨r232, h6_, h_⟩ := za h_
   have h6_f := zgL e38 _ h6_
   try simp [zcJ] at h6_f
   rcases bI h_ with ⟨h7_, h_⟩ | ⟨h7_, h_⟩
   ·cases h_
    simp +decide [-getElem?_pos, h1_, h2_a, h2_b, h2_c, h2_d, h6_f, h7_, zH]
   have q_ := ih_ t0_17 t7_11 (IntKind.i64.wrap (t8_7 + 1)) _ h_
   rcases r_ with t4_23 | _
   all_goals (try simp [zH] at q_)
   all_goals simp +decide [-getElem?_pos, h1_, h2_a, h2_b, h2_c, h2_d, h6_f, h7_, q_, zH]
  cases h_
  simp +decide [-getElem?_pos, h1_, zH]
/-- slices.IndexFunc[[]string,string] -/
def za5 (a0_152 : List ByteArray) : Option Int :=
 bS (Lslices_IndexFunc_string_0 FU a0_152 (a0_152.length : Int) 0) fun r_ => match r_ with
 | .inl r233 =>
  some r233
 | .inr () =>
  some (-1)
def zau (a0_152 : List ByteArray) : Int → Ans
 | q89 => .val (.sc (.int .i64 q89)) []
theorem zdT (a0_152 : List ByteArray) (r_ : Int) (h_ : za5 a0_152 = some r_) : ev EE (.call 120 [.ls false (strs a0_152), .fn 106 []] []) = some (zau a0_152 r_) := by
 rw [zw]
 simp only [za5] at h_
 obtain ⟨r_0, h1_, h_⟩ := za h_
 have h1_f := zdw FU a0_152 (a0_152.length : Int) 0 _ h1_
 rcases r_0 with r233 | _
 ·try dsimp only at h_
  try simp [zH] at h1_f
  cases h_
  simp +decide [-getElem?_pos, zlp, h1_f, zau]
 ·try dsimp only at h_
  try simp [zH] at h1_f
  cases h_
  simp +decide [-getElem?_pos, zlp, h1_f, zau]
/-- slices.ContainsFunc[[]string,string] -/
def zah (a0_151 : List ByteArray) : Option Bool :=
 bS (za5 a0_151) fun r234 =>
 some (decide (0 ≤ r234))
def zaR (a0_151 : List ByteArray) : Bool → Ans
 | q90 => .val (.sc (.bool q90)) []
theorem zdg (a0_151 : List ByteArray) (r_ : Bool) (h_ : zah a0_151 = some r_) : ev EE (.call 104 [.ls false (strs a0_151), .fn 106 []] []) = some (zaR a0_151 r_) := by
 rw [zw]
 simp only [zah] at h_
 obtain ⟨r234, h1_, h_⟩ := za h_
 have h1_f := zdT a0_151 _ h1_
 try simp [zau] at h1_f
 cases h_
 simp +decide [-getElem?_pos, znY, h1_f, zaR]
/-- impl.fieldsOk -/
def zdx (a0_132 : Int) (a0_133 : ByteArray) (a0_134 : Int) (a0_135 : List T_Node) : Option Bool :=
 if a0_132 = 2 then
  bS (zaq a0_133) fun r211 =>
  if r211 = true then
   if a0_132 = 10 then
    bS (zaf a0_134 (-2147483647) 2147483647) fun r212 =>
    if r212 = true then
     some true
    else
     some (decide (a0_134 = 0))
   else
    some (decide (a0_134 = 0))
  else
   some false
 else
 if a0_132 = 3 then
  bS (zaq a0_133) fun r213 =>
  if r213 = true then
   if a0_132 = 10 then
    bS (zaf a0_134 (-2147483647) 2147483647) fun r214 =>
    if r214 = true then
     some true
    else
     some (decide (a0_134 = 0))
   else
    some (decide (a0_134 = 0))
  else
   some false
 else
 if a0_132 = 16 then
  bS (zaq a0_133) fun r215 =>
  if r215 = true then
   if a0_132 = 10 then
    bS (zaf a0_134 (-2147483647) 2147483647) fun r216 =>
    if r216 = true then
     some true
    else
     some (decide (a0_134 = 0))
   else
    some (decide (a0_134 = 0))
  else
   some false
 else
 if a0_132 = 26 then
  bS (zaq a0_133) fun r217 =>
  if r217 = true then
   if a0_132 = 10 then
    bS (zaf a0_134 (-2147483647) 2147483647) fun r218 =>
    if r218 = true then
     some true
    else
     some (decide (a0_134 = 0))
   else
    some (decide (a0_134 = 0))
  else
   some false
 else
 if a0_132 = 4 then
  bS (zaq a0_133) fun r219 =>
  if r219 = true then
   if a0_132 = 10 then
    bS (zaf a0_134 (-2147483647) 2147483647) fun r220 =>
    if r220 = true then
     some true
    else
     some (decide (a0_134 = 0))
   else
    some (decide (a0_134 = 0))
  else
  if a0_133 = (⟨#[112, 114, 111, 116, 111]⟩ : ByteArray) then
   if a0_132 = 10 then
    bS (zaf a0_134 (-2147483647) 2147483647) fun r221 =>
    if r221 = true then
     some true
    else
     some (decide (a0_134 = 0))
   else
    some (decide (a0_134 = 0))
  else
   some false
 else
 if a0_132 = 17 then
  bS (zaq a0_133) fun r222 =>
  if r222 = true then
   if a0_132 = 10 then
    bS (zaf a0_134 (-2147483647) 2147483647) fun r223 =>
    if r223 = true then
     some true
    else
     some (decide (a0_134 = 0))
   else
    some (decide (a0_134 = 0))
  else
  if a0_133 = (⟨#[112, 114, 111, 116, 111]⟩ : ByteArray) then
   if a0_132 = 10 then
    bS (zaf a0_134 (-2147483647) 2147483647) fun r224 =>
    if r224 = true then
     some true
    else
     some (decide (a0_134 = 0))
   else
    some (decide (a0_134 = 0))
  else
   some false
 else
 if a0_132 = 11 then
  if (a0_133.size : Int) ≤ 30 then
   bS (zft a0_133 0) fun r227 =>
   if r227 = (a0_133.size : Int) then
    if a0_132 = 10 then
     bS (zaf a0_134 (-2147483647) 2147483647) fun r228 =>
     if r228 = true then
      some true
     else
      some (decide (a0_134 = 0))
    else
     some (decide (a0_134 = 0))
   else
    some false
  else
   some false
 else
 if a0_132 = 27 then
  bS (Fi_namesOf a0_132 a0_133 a0_134 a0_135) fun r230 =>
  bS (zah r230) fun r235 =>
  if r235 = true then
   some false
  else
  if a0_132 = 10 then
   bS (zaf a0_134 (-2147483647) 2147483647) fun r236 =>
   if r236 = true then
    some true
   else
    some (decide (a0_134 = 0))
  else
   some (decide (a0_134 = 0))
 else
 if a0_133 = (⟨#[]⟩ : ByteArray) then
  if a0_132 = 10 then
   bS (zaf a0_134 (-2147483647) 2147483647) fun r237 =>
   if r237 = true then
    some true
   else
    some (decide (a0_134 = 0))
  else
   some (decide (a0_134 = 0))
 else
  some false
def ze (a0_132 : Int) (a0_133 : ByteArray) (a0_134 : Int) (a0_135 : List T_Node) : Bool → Ans
 | q91 => .val (.sc (.bool q91)) []
theorem ziC (a0_132 : Int) (a0_133 : ByteArray) (a0_134 : Int) (a0_135 : List T_Node) (r_ : Bool) (h_ : zdx a0_132 a0_133 a0_134 a0_135 = some r_) : ev EE (.call 67 [.ag [.sc (.int .i64 a0_132), .sc (.string a0_133), .sc (.int .i64 a0_134), .ls false (r_Node false a0_135)]] []) = some (ze a0_132 a0_133 a0_134 a0_135 r_) := by
 rw [zw]
 simp only [zdx] at h_
 rcases bI h_ with ⟨h1_, h_⟩ | ⟨h1_, h_⟩
 ·obtain ⟨r211, h2_, h_⟩ := za h_
  have h2_f := zaY a0_133 _ h2_
  try simp [z8] at h2_f
  rcases bI h_ with ⟨h3_, h_⟩ | ⟨h3_, h_⟩
  ·rcases bI h_ with ⟨h4_, h_⟩ | ⟨h4_, h_⟩
   ·obtain ⟨r212, h5_, h_⟩ := za h_
    have h5_f := zX a0_134 (-2147483647) 2147483647 _ h5_
    try simp [zL] at h5_f
    rcases bI h_ with ⟨h6_, h_⟩ | ⟨h6_, h_⟩
    ·cases h_
     simp +decide [-getElem?_pos, zbr, eq_true h1_, h2_f, h3_, eq_true h4_, h5_f, h6_, ze]
    cases h_
    simp +decide [-getElem?_pos, zbr, eq_true h1_, h2_f, h3_, eq_true h4_, h5_f, h6_, ze]
   cases h_
   simp +decide [-getElem?_pos, zbr, eq_true h1_, h2_f, h3_, h4_, ze]
  cases h_
  simp +decide [-getElem?_pos, zbr, eq_true h1_, h2_f, h3_, ze]
 rcases bI h_ with ⟨h2_, h_⟩ | ⟨h2_, h_⟩
 ·obtain ⟨r213, h3_, h_⟩ := za h_
  have h3_f := zaY a0_133 _ h3_
  try simp [z8] at h3_f
  rcases bI h_ with ⟨h4_, h_⟩ | ⟨h4_, h_⟩
  ·rcases bI h_ with ⟨h5_, h_⟩ | ⟨h5_, h_⟩
   ·obtain ⟨r214, h6_, h_⟩ := za h_
    have h6_f := zX a0_134 (-2147483647) 2147483647 _ h6_
    try simp [zL] at h6_f
    rcases bI h_ with ⟨h7_, h_⟩ | ⟨h7_, h_⟩
    ·cases h_
     simp +decide [-getElem?_pos, zbr, h1_, eq_true h2_, h3_f, h4_, eq_true h5_, h6_f, h7_, ze]
    cases h_
    simp +decide [-getElem?_pos, zbr, h1_, eq_true h2_, h3_f, h4_, eq_true h5_, h6_f, h7_, ze]
   cases h_
   simp +decide [-getElem?_pos, zbr, h1_, eq_true h2_, h3_f, h4_, h5_, ze]
  cases h_
  simp +decide [-getElem?_pos, zbr, h1_, eq_true h2_, h3_f, h4_, ze]
 rcases bI h_ with ⟨h3_, h_⟩ | ⟨h3_, h_⟩
 ·obtain ⟨r215, h4_, h_⟩ := za h_
  have h4_f := zaY a0_133 _ h4_
  try simp [z8] at h4_f
  rcases bI h_ with ⟨h5_, h_⟩ | ⟨h5_, h_⟩
  ·rcases bI h_ with ⟨h6_, h_⟩ | ⟨h6_, h_⟩
   ·obtain ⟨r216, h7_, h_⟩ := za h_
    have h7_f := zX a0_134 (-2147483647) 2147483647 _ h7_
    try simp [zL] at h7_f
    rcases bI h_ with ⟨h8_, h_⟩ | ⟨h8_, h_⟩
    ·cases h_
     simp +decide [-getElem?_pos, zbr, h1_, h2_, eq_true h3_, h4_f, h5_, eq_true h6_, h7_f, h8_, ze]
    cases h_
    simp +decide [-getElem?_pos, zbr, h1_, h2_, eq_true h3_, h4_f, h5_, eq_true h6_, h7_f, h8_, ze]
   cases h_
   simp +decide [-getElem?_pos, zbr, h1_, h2_, eq_true h3_, h4_f, h5_, h6_, ze]
  cases h_
  simp +decide [-getElem?_pos, zbr, h1_, h2_, eq_true h3_, h4_f, h5_, ze]
 rcases bI h_ with ⟨h4_, h_⟩ | ⟨h4_, h_⟩
 ·obtain ⟨r217, h5_, h_⟩ := za h_
  have h5_f := zaY a0_133 _ h5_
  try simp [z8] at h5_f
  rcases bI h_ with ⟨h6_, h_⟩ | ⟨h6_, h_⟩
  ·rcases bI h_ with ⟨h7_, h_⟩ | ⟨h7_, h_⟩
   ·obtain ⟨r218, h8_, h_⟩ := za h_
    have h8_f := zX a0_134 (-2147483647) 2147483647 _ h8_
    try simp [zL] at h8_f
    rcases bI h_ with ⟨h9_, h_⟩ | ⟨h9_, h_⟩
    ·cases h_
     simp +decide [-getElem?_pos, zbr, h1_, h2_, h3_, eq_true h4_, h5_f, h6_, eq_true h7_, h8_f, h9_, ze]
    cases h_
    simp +decide [-getElem?_pos, zbr, h1_, h2_, h3_, eq_true h4_, h5_f, h6_, eq_true h7_, h8_f, h9_, ze]
   cases h_
   simp +decide [-getElem?_pos, zbr, h1_, h2_, h3_, eq_true h4_, h5_f, h6_, h7_, ze]
  cases h_
  simp +decide [-getElem?_pos, zbr, h1_, h2_, h3_, eq_true h4_, h5_f, h6_, ze]
 rcases bI h_ with ⟨h5_, h_⟩ | ⟨h5_, h_⟩
 ·obtain ⟨r219, h6_, h_⟩ := za h_
  have h6_f := zaY a0_133 _ h6_
  try simp [z8] at h6_f
  rcases bI h_ with ⟨h7_, h_⟩ | ⟨h7_, h_⟩
  ·rcases bI h_ with ⟨h8_, h_⟩ | ⟨h8_, h_⟩
   ·obtain ⟨r220, h9_, h_⟩ := za h_
    have h9_f := zX a0_134 (-2147483647) 2147483647 _ h9_
    try simp [zL] at h9_f
    rcases bI h_ with ⟨h10_, h_⟩ | ⟨h10_, h_⟩
    ·cases h_
     simp +decide [-getElem?_pos, zbr, h1_, h2_, h3_, h4_, eq_true h5_, h6_f, h7_, eq_true h8_, h9_f, h10_, ze]
    cases h_
    simp +decide [-getElem?_pos, zbr, h1_, h2_, h3_, h4_, eq_true h5_, h6_f, h7_, eq_true h8_, h9_f, h10_, ze]
   cases h_
   simp +decide [-getElem?_pos, zbr, h1_, h2_, h3_, h4_, eq_true h5_, h6_f, h7_, h8_, ze]
  rcases bI h_ with ⟨h8_, h_⟩ | ⟨h8_, h_⟩
  ·rcases bI h_ with ⟨h9_, h_⟩ | ⟨h9_, h_⟩
   ·obtain ⟨r221, h10_, h_⟩ := za h_
    have h10_f := zX a0_134 (-2147483647) 2147483647 _ h10_
    try simp [zL] at h10_f
    rcases bI h_ with ⟨h11_, h_⟩ | ⟨h11_, h_⟩
    ·cases h_
     simp +decide [-getElem?_pos, zbr, h1_, h2_, h3_, h4_, eq_true h5_, h6_f, h7_, eq_true h8_, eq_true h9_, h10_f, h11_, ze]
    cases h_
    simp +decide [-getElem?_pos, zbr, h1_, h2_, h3_, h4_, eq_true h5_, h6_f, h7_, eq_true h8_, eq_true h9_, h10_f, h11_, ze]
   cases h_
   simp +decide [-getElem?_pos, zbr, h1_, h2_, h3_, h4_, eq_true h5_, h6_f, h7_, eq_true h8_, h9_, ze]
  cases h_
  simp +decide [-getElem?_pos, zbr, h1_, h2_, h3_, h4_, eq_true h5_, h6_f, h7_, h8_, ze]
 rcases bI h_ with ⟨h6_, h_⟩ | ⟨h6_, h_⟩
 ·obtain ⟨r222, h7_, h_⟩ := za h_
  have h7_f := zaY a0_133 _ h7_
  try simp [z8] at h7_f
  rcases bI h_ with ⟨h8_, h_⟩ | ⟨h8_, h_⟩
  ·rcases bI h_ with ⟨h9_, h_⟩ | ⟨h9_, h_⟩
   ·obtain ⟨r223, h10_, h_⟩ := za h_
    have h10_f := zX a0_134 (-2147483647) 2147483647 _ h10_
    try simp [zL] at h10_f
    rcases bI h_ with ⟨h11_, h_⟩ | ⟨h11_, h_⟩
    ·cases h_
     simp +decide [-getElem?_pos, zbr, h1_, h2_, h3_, h4_, h5_, eq_true h6_, h7_f, h8_, eq_true h9_, h10_f, h11_, ze]
    cases h_
    simp +decide [-getElem?_pos, zbr, h1_, h2_, h3_, h4_, h5_, eq_true h6_, h7_f, h8_, eq_true h9_, h10_f, h11_, ze]
   cases h_
   simp +decide [-getElem?_pos, zbr, h1_, h2_, h3_, h4_, h5_, eq_true h6_, h7_f, h8_, h9_, ze]
  rcases bI h_ with ⟨h9_, h_⟩ | ⟨h9_, h_⟩
  ·rcases bI h_ with ⟨h10_, h_⟩ | ⟨h10_, h_⟩
   ·obtain ⟨r224, h11_, h_⟩ := za h_
    have h11_f := zX a0_134 (-2147483647) 2147483647 _ h11_
    try simp [zL] at h11_f
    rcases bI h_ with ⟨h12_, h_⟩ | ⟨h12_, h_⟩
    ·cases h_
     simp +decide [-getElem?_pos, zbr, h1_, h2_, h3_, h4_, h5_, eq_true h6_, h7_f, h8_, eq_true h9_, eq_true h10_, h11_f, h12_, ze]
    cases h_
    simp +decide [-getElem?_pos, zbr, h1_, h2_, h3_, h4_, h5_, eq_true h6_, h7_f, h8_, eq_true h9_, eq_true h10_, h11_f, h12_, ze]
   cases h_
   simp +decide [-getElem?_pos, zbr, h1_, h2_, h3_, h4_, h5_, eq_true h6_, h7_f, h8_, eq_true h9_, h10_, ze]
  cases h_
  simp +decide [-getElem?_pos, zbr, h1_, h2_, h3_, h4_, h5_, eq_true h6_, h7_f, h8_, h9_, ze]
 rcases bI h_ with ⟨h7_, h_⟩ | ⟨h7_, h_⟩
 ·rcases bI h_ with ⟨h8_, h_⟩ | ⟨h8_, h_⟩
  ·have h8_s := h8_; try simp at h8_s
   obtain ⟨r227, h10_, h_⟩ := za h_
   have h10_f := zld a0_133 0 _ h10_
   try simp [ze6] at h10_f
   rcases bI h_ with ⟨h11_, h_⟩ | ⟨h11_, h_⟩
   ·have h11_s := h11_; try simp at h11_s
    rcases bI h_ with ⟨h13_, h_⟩ | ⟨h13_, h_⟩
    ·obtain ⟨r228, h14_, h_⟩ := za h_
     have h14_f := zX a0_134 (-2147483647) 2147483647 _ h14_
     try simp [zL] at h14_f
     rcases bI h_ with ⟨h15_, h_⟩ | ⟨h15_, h_⟩
     ·cases h_
      simp +decide [-getElem?_pos, zbr, h1_, h2_, h3_, h4_, h5_, h6_, eq_true h7_, h8_, h8_s, h10_f, eq_true h11_, eq_true h11_s, eq_true h13_, h14_f, h15_, ze]
     cases h_
     simp +decide [-getElem?_pos, zbr, h1_, h2_, h3_, h4_, h5_, h6_, eq_true h7_, h8_, h8_s, h10_f, eq_true h11_, eq_true h11_s, eq_true h13_, h14_f, h15_, ze]
    cases h_
    simp +decide [-getElem?_pos, zbr, h1_, h2_, h3_, h4_, h5_, h6_, eq_true h7_, h8_, h8_s, h10_f, eq_true h11_, eq_true h11_s, h13_, ze]
   have h11_s := h11_; try simp at h11_s
   cases h_
   simp +decide [-getElem?_pos, zbr, h1_, h2_, h3_, h4_, h5_, h6_, eq_true h7_, h8_, h8_s, h10_f, h11_, h11_s, ze]
  have h8_s := h8_; try simp at h8_s
  cases h_
  simp +decide [-getElem?_pos, zbr, h1_, h2_, h3_, h4_, h5_, h6_, eq_true h7_, h8_, h8_s, ze]
 rcases bI h_ with ⟨h8_, h_⟩ | ⟨h8_, h_⟩
 ·obtain ⟨r230, h9_, h_⟩ := za h_
  have h9_f := zge a0_132 a0_133 a0_134 a0_135 _ h9_
  try simp [zci] at h9_f
  obtain ⟨r235, h10_, h_⟩ := za h_
  have h10_f := zdg r230 _ h10_
  try simp [zaR] at h10_f
  rcases bI h_ with ⟨h11_, h_⟩ | ⟨h11_, h_⟩
  ·cases h_
   simp +decide [-getElem?_pos, zbr, h1_, h2_, h3_, h4_, h5_, h6_, h7_, eq_true h8_, h9_f, h10_f, h11_, ze]
  rcases bI h_ with ⟨h12_, h_⟩ | ⟨h12_, h_⟩
  ·obtain ⟨r236, h13_, h_⟩ := za h_
   have h13_f := zX a0_134 (-2147483647) 2147483647 _ h13_
   try simp [zL] at h13_f
   rcases bI h_ with ⟨h14_, h_⟩ | ⟨h14_, h_⟩
   ·cases h_
    simp +decide [-getElem?_pos, zbr, h1_, h2_, h3_, h4_, h5_, h6_, h7_, eq_true h8_, h9_f, h10_f, h11_, eq_true h12_, h13_f, h14_, ze]
   cases h_
   simp +decide [-getElem?_pos, zbr, h1_, h2_, h3_, h4_, h5_, h6_, h7_, eq_true h8_, h9_f, h10_f, h11_, eq_true h12_, h13_f, h14_, ze]
  cases h_
  simp +decide [-getElem?_pos, zbr, h1_, h2_, h3_, h4_, h5_, h6_, h7_, eq_true h8_, h9_f, h10_f, h11_, h12_, ze]
 rcases bI h_ with ⟨h9_, h_⟩ | ⟨h9_, h_⟩
 ·rcases bI h_ with ⟨h10_, h_⟩ | ⟨h10_, h_⟩
  ·obtain ⟨r237, h11_, h_⟩ := za h_
   have h11_f := zX a0_134 (-2147483647) 2147483647 _ h11_
   try simp [zL] at h11_f
   rcases bI h_ with ⟨h12_, h_⟩ | ⟨h12_, h_⟩
   ·cases h_
    simp +decide [-getElem?_pos, zbr, h1_, h2_, h3_, h4_, h5_, h6_, h7_, h8_, eq_true h9_, eq_true h10_, h11_f, h12_, ze]
   cases h_
   simp +decide [-getElem?_pos, zbr, h1_, h2_, h3_, h4_, h5_, h6_, h7_, h8_, eq_true h9_, eq_true h10_, h11_f, h12_, ze]
  cases h_
  simp +decide [-getElem?_pos, zbr, h1_, h2_, h3_, h4_, h5_, h6_, h7_, h8_, eq_true h9_, h10_, ze]
 cases h_
 simp +decide [-getElem?_pos, zbr, h1_, h2_, h3_, h4_, h5_, h6_, h7_, h8_, h9_, ze]
end Go.Pv
