/- Proof: the functions as Lean functions, second part. No condition. -/
import Derived.Test.YtaadneenebhnoaaGreatDoorGwA
set_option autoImplicit true
set_option relaxedAutoImplicit true
set_option linter.unusedSimpArgs false
set_option linter.unusedVariables false
namespace Go.Pv
set_option maxRecDepth 100000
set_option maxHeartbeats 40000000
set_option linter.unusedSimpArgs false
set_option linter.unusedVariables false
/-- spec.l11Text -/
def zec (a0_57 : ByteArray) (a1_11 : Int) : Option (Int × ByteArray × Int × Int × Int × Bool) :=
 bS (Ls_l11Text_0 FU a0_57 a1_11 (IntKind.i64.wrap (a1_11 + 1)) 0 (⟨#[]⟩ : ByteArray) 0 0) fun r79 =>
 if (a0_57.size : Int) ≤ r79 then
  some (0, (⟨#[]⟩ : ByteArray), 0, 0, a1_11, false)
 else
 bS (zen a0_57 r79) fun b6 =>
 if (b6.toNat : Int) = 34 then
  if 30 < IntKind.i64.wrap ((IntKind.i64.wrap (r79 - a1_11)) - 1) then
   some (0, (⟨#[]⟩ : ByteArray), 0, 0, a1_11, false)
  else
  if 0 ≤ IntKind.i64.wrap (a1_11 + 1) then
  if 0 ≤ r79 then
  if (IntKind.i64.wrap (a1_11 + 1)).toNat ≤ r79.toNat ∧ r79.toNat ≤ a0_57.size then
  some (3, ByteArray.extract a0_57 ((IntKind.i64.wrap (a1_11 + 1)).toNat) r79.toNat, 0, a1_11, IntKind.i64.wrap (r79 + 1), true)
  else none
  else none
  else none
 else
  some (0, (⟨#[]⟩ : ByteArray), 0, 0, a1_11, false)
def zbP (a0_57 : ByteArray) (a1_11 : Int) : (Int × ByteArray × Int × Int × Int × Bool) → Ans
 | (q31, q32, q33, q34, q35, q36) => .val (.tu [.ag [.sc (.int .i64 q31), .sc (.string q32), .sc (.int .i64 q33), .sc (.int .i64 q34)], .sc (.int .i64 q35), .sc (.bool q36)]) []
theorem zjs (a0_57 : ByteArray) (a1_11 : Int) (r_ : (Int × ByteArray × Int × Int × Int × Bool)) (h_ : zec a0_57 a1_11 = some r_) : ev EE (.call 77 [.sc (.string a0_57), .sc (.int .i64 a1_11)] []) = some (zbP a0_57 a1_11 r_) := by
 rw [zw]
 simp only [zec] at h_
 obtain ⟨r79, h1_, h_⟩ := za h_
 have h1_f := zh9 FU a0_57 a1_11 (IntKind.i64.wrap (a1_11 + 1)) 0 (⟨#[]⟩ : ByteArray) 0 0 _ h1_
 try simp [zaA] at h1_f
 rcases bI h_ with ⟨h2_, h_⟩ | ⟨h2_, h_⟩
 ·have h2_s := h2_; try simp at h2_s
  cases h_
  simp +decide [-getElem?_pos, zmW, h1_f, h2_, h2_s, zbP]
 have h2_s := h2_; try simp at h2_s
 obtain ⟨b6, h4_, h_⟩ := za h_
 obtain ⟨h4_a, h4_b, h4_c, h4_d⟩ := zaM h4_
 try simp [-getElem?_pos] at h4_d
 rcases bI h_ with ⟨h8_, h_⟩ | ⟨h8_, h_⟩
 ·have h8_s := h8_; try simp at h8_s
  rcases bI h_ with ⟨h10_, h_⟩ | ⟨h10_, h_⟩
  ·cases h_
   simp +decide [-getElem?_pos, -Int.toNat_le, -Int.le_toNat, zmW, h1_f, h2_, h2_s, h4_a, h4_b, h4_c, h4_d, eq_true h8_, eq_true h8_s, h10_, zbP]
  obtain ⟨h11_, h_⟩ := bP h_
  obtain ⟨h12_, h_⟩ := bP h_
  obtain ⟨h13_, h_⟩ := bP h_
  cases h_
  simp +decide [-getElem?_pos, -Int.toNat_le, -Int.le_toNat, zmW, h1_f, h2_, h2_s, h4_a, h4_b, h4_c, h4_d, eq_true h8_, eq_true h8_s, h10_, h11_, h12_, h13_, zbP]
 have h8_s := h8_; try simp at h8_s
 cases h_
 simp +decide [-getElem?_pos, zmW, h1_f, h2_, h2_s, h4_a, h4_b, h4_c, h4_d, h8_, h8_s, zbP]
def Ls_l11Sign_0 : Nat → ByteArray → Int → ByteArray → Int → Option (ByteArray ⊕ Unit)
 | 0, _, _, _, _ => none
 | n_ + 1, t0_8, t1_8, t5_6, t6_1 =>
 if t6_1 < (t5_6.size : Int) then
  bS (zen t5_6 t6_1) fun b9 =>
  bS (zen t0_8 t1_8) fun b10 =>
  if (b9.toNat : Int) = (b10.toNat : Int) then
   if 0 ≤ t1_8 then
   if 0 ≤ IntKind.i64.wrap (t1_8 + 1) then
   if t1_8.toNat ≤ (IntKind.i64.wrap (t1_8 + 1)).toNat ∧ (IntKind.i64.wrap (t1_8 + 1)).toNat ≤ t0_8.size then
   some (.inl (ByteArray.extract t0_8 t1_8.toNat ((IntKind.i64.wrap (t1_8 + 1)).toNat)))
   else none
   else none
   else none
  else
   Ls_l11Sign_0 n_ t0_8 t1_8 t5_6 (IntKind.i64.wrap (t6_1 + 1))
 else
  some (.inr ())
def zY (t0_8 : ByteArray) (t1_8 : Int) (t5_6 : ByteArray) (t6_1 : Int) : ByteArray ⊕ Unit → Ans
 | .inl t4_11 => .out .ret { np := 0, tm := [(4, .sc (.string t4_11))], ar := [], bx := [] }
 | .inr _ => .out (.exit 0) { np := 0, tm := [], ar := [], bx := [] }
theorem zdF : ∀ (n_ : Nat) (t0_8 : ByteArray) (t1_8 : Int) (t5_6 : ByteArray) (t6_1 : Int) (r_ : ByteArray ⊕ Unit), Ls_l11Sign_0 n_ t0_8 t1_8 t5_6 t6_1 = some r_ → ev EE (.loop zmX [0, 1, 5, 6] [4] { np := 0, tm := [(0, .sc (.string t0_8)), (1, .sc (.int .i64 t1_8)), (5, .sc (.string t5_6)), (6, .sc (.int .i64 t6_1))], ar := [], bx := [] }) = some (zY t0_8 t1_8 t5_6 t6_1 r_) := by
 intro n_
 induction n_ with
 | zero => intro t0_8 t1_8 t5_6 t6_1 r_ h_; simp only [Ls_l11Sign_0] at h_; cases h_
 | succ n_ ih_ =>
  intro t0_8 t1_8 t5_6 t6_1 r_ h_
  rw [zW EE zmX.eq_1]
  simp only [Ls_l11Sign_0] at h_
  rcases bI h_ with ⟨h1_, h_⟩ | ⟨h1_, h_⟩
  ·have h1_s := h1_; try simp at h1_s
   obtain ⟨b9, h3_, h_⟩ := za h_
   obtain ⟨h3_a, h3_b, h3_c, h3_d⟩ := zaM h3_
   try simp [-getElem?_pos] at h3_d
   obtain ⟨b10, h7_, h_⟩ := za h_
   obtain ⟨h7_a, h7_b, h7_c, h7_d⟩ := zaM h7_
   try simp [-getElem?_pos] at h7_d
   rcases bI h_ with ⟨h11_, h_⟩ | ⟨h11_, h_⟩
   ·have h11_s := h11_; try simp at h11_s
    obtain ⟨h13_, h_⟩ := bP h_
    obtain ⟨h14_, h_⟩ := bP h_
    obtain ⟨h15_, h_⟩ := bP h_
    cases h_
    simp +decide [-getElem?_pos, -Int.toNat_le, -Int.le_toNat, h1_, h1_s, h3_a, h3_b, h3_c, h3_d, h7_a, h7_b, h7_c, h7_d, eq_true h11_, eq_true h11_s, h13_, h14_, h15_, zY]
   have h11_s := h11_; try simp at h11_s
   have q_ := ih_ t0_8 t1_8 t5_6 (IntKind.i64.wrap (t6_1 + 1)) _ h_
   rcases r_ with t4_11 | _
   all_goals (try simp [zY] at q_)
   all_goals simp +decide [-getElem?_pos, h1_, h1_s, h3_a, h3_b, h3_c, h3_d, h7_a, h7_b, h7_c, h7_d, h11_, h11_s, q_, zY]
  have h1_s := h1_; try simp at h1_s
  cases h_
  simp +decide [-getElem?_pos, h1_, h1_s, zY]
/-- spec.l11Sign -/
def zed (a0_58 : ByteArray) (a1_12 : Int) : Option ByteArray :=
 bS (zen a0_58 a1_12) fun b7 =>
 if (b7.toNat : Int) = 61 then
  if IntKind.i64.wrap (a1_12 + 1) < (a0_58.size : Int) then
   bS (zen a0_58 (IntKind.i64.wrap (a1_12 + 1))) fun b8 =>
   if (b8.toNat : Int) = 61 then
    some (⟨#[61, 61]⟩ : ByteArray)
   else
   bS (Ls_l11Sign_0 FU a0_58 a1_12 (⟨#[40, 41, 123, 125, 44, 59, 58, 46, 61, 43, 45, 42, 60, 33]⟩ : ByteArray) 0) fun r_ => match r_ with
   | .inl r86 =>
    some r86
   | .inr () =>
    some (⟨#[]⟩ : ByteArray)
  else
  bS (Ls_l11Sign_0 FU a0_58 a1_12 (⟨#[40, 41, 123, 125, 44, 59, 58, 46, 61, 43, 45, 42, 60, 33]⟩ : ByteArray) 0) fun r_ => match r_ with
  | .inl r87 =>
   some r87
  | .inr () =>
   some (⟨#[]⟩ : ByteArray)
 else
 bS (Ls_l11Sign_0 FU a0_58 a1_12 (⟨#[40, 41, 123, 125, 44, 59, 58, 46, 61, 43, 45, 42, 60, 33]⟩ : ByteArray) 0) fun r_ => match r_ with
 | .inl r88 =>
  some r88
 | .inr () =>
  some (⟨#[]⟩ : ByteArray)
def zaF (a0_58 : ByteArray) (a1_12 : Int) : ByteArray → Ans
 | q37 => .val (.sc (.string q37)) []
theorem zjt (a0_58 : ByteArray) (a1_12 : Int) (r_ : ByteArray) (h_ : zed a0_58 a1_12 = some r_) : ev EE (.call 78 [.sc (.string a0_58), .sc (.int .i64 a1_12)] []) = some (zaF a0_58 a1_12 r_) := by
 rw [zw]
 simp only [zed] at h_
 obtain ⟨b7, h1_, h_⟩ := za h_
 obtain ⟨h1_a, h1_b, h1_c, h1_d⟩ := zaM h1_
 try simp [-getElem?_pos] at h1_d
 rcases bI h_ with ⟨h5_, h_⟩ | ⟨h5_, h_⟩
 ·have h5_s := h5_; try simp at h5_s
  rcases bI h_ with ⟨h7_, h_⟩ | ⟨h7_, h_⟩
  ·have h7_s := h7_; try simp at h7_s
   obtain ⟨b8, h9_, h_⟩ := za h_
   obtain ⟨h9_a, h9_b, h9_c, h9_d⟩ := zaM h9_
   try simp [-getElem?_pos] at h9_d
   rcases bI h_ with ⟨h13_, h_⟩ | ⟨h13_, h_⟩
   ·have h13_s := h13_; try simp at h13_s
    cases h_
    simp +decide [-getElem?_pos, -Int.toNat_le, -Int.le_toNat, zjA, h1_a, h1_b, h1_c, h1_d, eq_true h5_, eq_true h5_s, h7_, h7_s, h9_a, h9_b, h9_c, h9_d, eq_true h13_, eq_true h13_s, zaF]
   have h13_s := h13_; try simp at h13_s
   obtain ⟨r_14, h15_, h_⟩ := za h_
   have h15_f := zdF FU a0_58 a1_12 (⟨#[40, 41, 123, 125, 44, 59, 58, 46, 61, 43, 45, 42, 60, 33]⟩ : ByteArray) 0 _ h15_
   rcases r_14 with r86 | _
   ·try dsimp only at h_
    try simp [zY] at h15_f
    cases h_
    simp +decide [-getElem?_pos, -Int.toNat_le, -Int.le_toNat, zjA, h1_a, h1_b, h1_c, h1_d, eq_true h5_, eq_true h5_s, h7_, h7_s, h9_a, h9_b, h9_c, h9_d, h13_, h13_s, h15_f, zaF]
   ·try dsimp only at h_
    try simp [zY] at h15_f
    cases h_
    simp +decide [-getElem?_pos, -Int.toNat_le, -Int.le_toNat, zjA, h1_a, h1_b, h1_c, h1_d, eq_true h5_, eq_true h5_s, h7_, h7_s, h9_a, h9_b, h9_c, h9_d, h13_, h13_s, h15_f, zaF]
  have h7_s := h7_; try simp at h7_s
  obtain ⟨r_8, h9_, h_⟩ := za h_
  have h9_f := zdF FU a0_58 a1_12 (⟨#[40, 41, 123, 125, 44, 59, 58, 46, 61, 43, 45, 42, 60, 33]⟩ : ByteArray) 0 _ h9_
  rcases r_8 with r87 | _
  ·try dsimp only at h_
   try simp [zY] at h9_f
   cases h_
   simp +decide [-getElem?_pos, -Int.toNat_le, -Int.le_toNat, zjA, h1_a, h1_b, h1_c, h1_d, eq_true h5_, eq_true h5_s, h7_, h7_s, h9_f, zaF]
  ·try dsimp only at h_
   try simp [zY] at h9_f
   cases h_
   simp +decide [-getElem?_pos, -Int.toNat_le, -Int.le_toNat, zjA, h1_a, h1_b, h1_c, h1_d, eq_true h5_, eq_true h5_s, h7_, h7_s, h9_f, zaF]
 have h5_s := h5_; try simp at h5_s
 obtain ⟨r_6, h7_, h_⟩ := za h_
 have h7_f := zdF FU a0_58 a1_12 (⟨#[40, 41, 123, 125, 44, 59, 58, 46, 61, 43, 45, 42, 60, 33]⟩ : ByteArray) 0 _ h7_
 rcases r_6 with r88 | _
 ·try dsimp only at h_
  try simp [zY] at h7_f
  cases h_
  simp +decide [-getElem?_pos, zjA, h1_a, h1_b, h1_c, h1_d, h5_, h5_s, h7_f, zaF]
 ·try dsimp only at h_
  try simp [zY] at h7_f
  cases h_
  simp +decide [-getElem?_pos, zjA, h1_a, h1_b, h1_c, h1_d, h5_, h5_s, h7_f, zaF]
/-- spec.l11One -/
def zc8 (a0_51 : ByteArray) (a1_8 : Int) : Option (Int × ByteArray × Int × Int × Int × Bool) :=
 bS (zen a0_51 a1_8) fun b2 =>
 bS (zcs (b2.toNat : Int)) fun r57 =>
 if r57 = true then
  bS (zd9 a0_51 a1_8) fun (r61, r62, r63, r64, r65, r66) =>
  some (r61, r62, r63, r64, r65, r66)
 else
 bS (zce (b2.toNat : Int)) fun r67 =>
 if r67 = true then
  bS (zeK a0_51 a1_8) fun (r73, r74, r75, r76, r77, r78) =>
  some (r73, r74, r75, r76, r77, r78)
 else
 if (b2.toNat : Int) = 34 then
  bS (zec a0_51 a1_8) fun (r80, r81, r82, r83, r84, r85) =>
  some (r80, r81, r82, r83, r84, r85)
 else
 bS (zed a0_51 a1_8) fun r89 =>
 some (4, r89, 0, a1_8, IntKind.i64.wrap (a1_8 + (r89.size : Int)), (!(decide (r89 = (⟨#[]⟩ : ByteArray)))))
def zb3 (a0_51 : ByteArray) (a1_8 : Int) : (Int × ByteArray × Int × Int × Int × Bool) → Ans
 | (q38, q39, q40, q41, q42, q43) => .val (.tu [.ag [.sc (.int .i64 q38), .sc (.string q39), .sc (.int .i64 q40), .sc (.int .i64 q41)], .sc (.int .i64 q42), .sc (.bool q43)]) []
theorem zkg (a0_51 : ByteArray) (a1_8 : Int) (r_ : (Int × ByteArray × Int × Int × Int × Bool)) (h_ : zc8 a0_51 a1_8 = some r_) : ev EE (.call 38 [.sc (.string a0_51), .sc (.int .i64 a1_8)] []) = some (zb3 a0_51 a1_8 r_) := by
 rw [zw]
 simp only [zc8] at h_
 obtain ⟨b2, h1_, h_⟩ := za h_
 obtain ⟨h1_a, h1_b, h1_c, h1_d⟩ := zaM h1_
 try simp [-getElem?_pos] at h1_d
 obtain ⟨r57, h5_, h_⟩ := za h_
 have h5_f := zfi (b2.toNat : Int) _ h5_
 try simp [zay] at h5_f
 rcases bI h_ with ⟨h6_, h_⟩ | ⟨h6_, h_⟩
 ·obtain ⟨⟨r61, r62, r63, r64, r65, r66⟩, h7_, h_⟩ := za h_
  try dsimp only at h_
  have h7_f := zjr a0_51 a1_8 _ h7_
  try simp [zea] at h7_f
  cases h_
  simp +decide [-getElem?_pos, zmL, h1_a, h1_b, h1_c, h1_d, h5_f, h6_, h7_f, zb3]
 obtain ⟨r67, h7_, h_⟩ := za h_
 have h7_f := zd8 (b2.toNat : Int) _ h7_
 try simp [zbu] at h7_f
 rcases bI h_ with ⟨h8_, h_⟩ | ⟨h8_, h_⟩
 ·obtain ⟨⟨r73, r74, r75, r76, r77, r78⟩, h9_, h_⟩ := za h_
  try dsimp only at h_
  have h9_f := zkf a0_51 a1_8 _ h9_
  try simp [zdp] at h9_f
  cases h_
  simp +decide [-getElem?_pos, zmL, h1_a, h1_b, h1_c, h1_d, h5_f, h6_, h7_f, h8_, h9_f, zb3]
 rcases bI h_ with ⟨h9_, h_⟩ | ⟨h9_, h_⟩
 ·have h9_s := h9_; try simp at h9_s
  obtain ⟨⟨r80, r81, r82, r83, r84, r85⟩, h11_, h_⟩ := za h_
  try dsimp only at h_
  have h11_f := zjs a0_51 a1_8 _ h11_
  try simp [zbP] at h11_f
  cases h_
  simp +decide [-getElem?_pos, -Int.toNat_le, -Int.le_toNat, zmL, h1_a, h1_b, h1_c, h1_d, h5_f, h6_, h7_f, h8_, eq_true h9_, eq_true h9_s, h11_f, zb3]
 have h9_s := h9_; try simp at h9_s
 obtain ⟨r89, h11_, h_⟩ := za h_
 have h11_f := zjt a0_51 a1_8 _ h11_
 try simp [zaF] at h11_f
 cases h_
 simp +decide [-getElem?_pos, zmL, h1_a, h1_b, h1_c, h1_d, h5_f, h6_, h7_f, h8_, h9_, h9_s, h11_f, zb3]
def za7 : Nat → ByteArray → (List T_Token) → Int → Option (((List T_Token) × Int × (List T_Token)) ⊕ (List T_Token))
 | 0, _, _, _ => none
 | n_ + 1, t0_3, t4_8, t5_5 =>
 if t5_5 < (t0_3.size : Int) then
  bS (zen t0_3 t5_5) fun b1 =>
  if (b1.toNat : Int) = 32 then
   za7 n_ t0_3 t4_8 (IntKind.i64.wrap (t5_5 + 1))
  else
  if (b1.toNat : Int) = 10 then
   za7 n_ t0_3 t4_8 (IntKind.i64.wrap (t5_5 + 1))
  else
  bS (zc8 t0_3 t5_5) fun (r90, r91, r92, r93, r94, r95) =>
  if r95 = true then
   if lim (t4_8.length + 1) 40 = true then
   za7 n_ t0_3 (t4_8 ++ [(⟨r90, r91, r92, r93⟩ : T_Token)]) r94
   else none
  else
   some (.inl ([], t5_5, t4_8))
 else
  some (.inr t4_8)
def zad (t0_3 : ByteArray) (t4_8 : List T_Token) (t5_5 : Int) : ((List T_Token) × Int × (List T_Token)) ⊕ (List T_Token) → Ans
 | .inl (t2_3, t3_10, t4_12) => .out .ret { np := 0, tm := [(0, .sc (.string t0_3)), (2, .rf 0 0 t2_3.length), (3, .sc (.int .i64 t3_10)), (4, .rf 1 0 t4_12.length)], ar := [(0, .a false (r_Token t2_3)), (1, .a false (r_Token t4_12))], bx := [] }
 | .inr t4_13 => .out (.exit 0) { np := 0, tm := [(0, .sc (.string t0_3)), (4, .rf 0 0 t4_13.length)], ar := [(0, .a false (r_Token t4_13))], bx := [] }
theorem ziw : ∀ (n_ : Nat) (t0_3 : ByteArray) (t4_8 : List T_Token) (t5_5 : Int) (r_ : ((List T_Token) × Int × (List T_Token)) ⊕ (List T_Token)), za7 n_ t0_3 t4_8 t5_5 = some r_ → ev EE (.loop zmE [0, 4, 5] [0, 2, 3, 4] { np := 0, tm := [(0, .sc (.string t0_3)), (4, .rf 0 0 t4_8.length), (5, .sc (.int .i64 t5_5))], ar := [(0, .a false (r_Token t4_8))], bx := [] }) = some (zad t0_3 t4_8 t5_5 r_) := by
 intro n_
 induction n_ with
 | zero => intro t0_3 t4_8 t5_5 r_ h_; simp only [za7] at h_; cases h_
 | succ n_ ih_ =>
  intro t0_3 t4_8 t5_5 r_ h_
  rw [zW EE zmE.eq_1]
  simp only [za7] at h_
  rcases bI h_ with ⟨h1_, h_⟩ | ⟨h1_, h_⟩
  ·have h1_s := h1_; try simp at h1_s
   obtain ⟨b1, h3_, h_⟩ := za h_
   obtain ⟨h3_a, h3_b, h3_c, h3_d⟩ := zaM h3_
   try simp [-getElem?_pos] at h3_d
   rcases bI h_ with ⟨h7_, h_⟩ | ⟨h7_, h_⟩
   ·have h7_s := h7_; try simp at h7_s
    have q_ := ih_ t0_3 t4_8 (IntKind.i64.wrap (t5_5 + 1)) _ h_
    rcases r_ with ⟨t2_3, t3_10, t4_12⟩ | t4_13
    all_goals (try simp [zad] at q_)
    all_goals simp +decide [-getElem?_pos, -Int.toNat_le, -Int.le_toNat, h1_, h1_s, h3_a, h3_b, h3_c, h3_d, eq_true h7_, eq_true h7_s, q_, zad]
   have h7_s := h7_; try simp at h7_s
   rcases bI h_ with ⟨h9_, h_⟩ | ⟨h9_, h_⟩
   ·have h9_s := h9_; try simp at h9_s
    have q_ := ih_ t0_3 t4_8 (IntKind.i64.wrap (t5_5 + 1)) _ h_
    rcases r_ with ⟨t2_3, t3_10, t4_12⟩ | t4_13
    all_goals (try simp [zad] at q_)
    all_goals simp +decide [-getElem?_pos, -Int.toNat_le, -Int.le_toNat, h1_, h1_s, h3_a, h3_b, h3_c, h3_d, h7_, h7_s, eq_true h9_, eq_true h9_s, q_, zad]
   have h9_s := h9_; try simp at h9_s
   obtain ⟨⟨r90, r91, r92, r93, r94, r95⟩, h11_, h_⟩ := za h_
   try dsimp only at h_
   have h11_f := zkg t0_3 t5_5 _ h11_
   try simp [zb3] at h11_f
   rcases bI h_ with ⟨h12_, h_⟩ | ⟨h12_, h_⟩
   ·obtain ⟨h13_, h_⟩ := bP h_
    have q_ := ih_ t0_3 (t4_8 ++ [(⟨r90, r91, r92, r93⟩ : T_Token)]) r94 _ h_
    rcases r_ with ⟨t2_3, t3_10, t4_12⟩ | t4_13
    all_goals (try simp [zad] at q_)
    all_goals simp +decide [-getElem?_pos, h1_, h1_s, h3_a, h3_b, h3_c, h3_d, h7_, h7_s, h9_, h9_s, h11_f, h12_, h13_, q_, zad]
   cases h_
   simp +decide [-getElem?_pos, h1_, h1_s, h3_a, h3_b, h3_c, h3_d, h7_, h7_s, h9_, h9_s, h11_f, h12_, zad]
  have h1_s := h1_; try simp at h1_s
  cases h_
  simp +decide [-getElem?_pos, h1_, h1_s, zad]
/-- spec.Tokens -/
def zc9 (a0_50 : ByteArray) : Option ((List T_Token) × Int) :=
 if 800 < (a0_50.size : Int) then
  some ([], 0)
 else
 bS (za7 FU a0_50 [] 0) fun r_ => match r_ with
 | .inl (r96, r97, r98) =>
  some (r96, r97)
 | .inr r99 =>
  if lim (r99.length + 1) 40 = true then
  some (r99 ++ ([(⟨0, (⟨#[]⟩ : ByteArray), 0, (a0_50.size : Int)⟩ : T_Token)]), (-1))
  else none
def zcC (a0_50 : ByteArray) : ((List T_Token) × Int) → Ans
 | (q44, q45) => .val (.tu [.ls true (r_Token q44), .sc (.int .i64 q45)]) []
theorem zkh (a0_50 : ByteArray) (r_ : ((List T_Token) × Int)) (h_ : zc9 a0_50 = some r_) : ev EE (.call 21 [.sc (.string a0_50)] []) = some (zcC a0_50 r_) := by
 rw [zw]
 simp only [zc9] at h_
 rcases bI h_ with ⟨h1_, h_⟩ | ⟨h1_, h_⟩
 ·have h1_s := h1_; try simp at h1_s
  cases h_
  simp +decide [-getElem?_pos, zoH, h1_, h1_s, zcC]
 have h1_s := h1_; try simp at h1_s
 obtain ⟨r_2, h3_, h_⟩ := za h_
 have h3_f := ziw FU a0_50 [] 0 _ h3_
 rcases r_2 with ⟨r96, r97, r98⟩ | r99
 ·try dsimp only at h_
  try simp [zad] at h3_f
  cases h_
  simp +decide [-getElem?_pos, zoH, h1_, h1_s, h3_f, zcC]
 ·try dsimp only at h_
  try simp [zad] at h3_f
  obtain ⟨h4_, h_⟩ := bP h_
  cases h_
  simp +decide [-getElem?_pos, zoH, h1_, h1_s, h3_f, h4_, zcC]
def Ls_Word_0 : Nat → (List ByteArray) → Int → Int → ByteArray → Int → Int → Option (Bool ⊕ Unit)
 | 0, _, _, _, _, _, _ => none
 | n_ + 1, t3_11, t4_14, x0_37, x0_38, x0_39, x0_40 =>
 if t4_14 < (t3_11.length : Int) then
  if x0_37 = 1 then
   bS (getI t3_11 t4_14) fun e11 =>
   if x0_38 = e11 then
    some (.inl true)
   else
    Ls_Word_0 n_ t3_11 (IntKind.i64.wrap (t4_14 + 1)) x0_37 x0_38 x0_39 x0_40
  else
   Ls_Word_0 n_ t3_11 (IntKind.i64.wrap (t4_14 + 1)) x0_37 x0_38 x0_39 x0_40
 else
  some (.inr ())
def za1 (t3_11 : List ByteArray) (t4_14 : Int) (x0_37 : Int) (x0_38 : ByteArray) (x0_39 : Int) (x0_40 : Int) : Bool ⊕ Unit → Ans
 | .inl t2_4 => .out .ret { np := 0, tm := [(2, .sc (.bool t2_4))], ar := [], bx := [] }
 | .inr _ => .out (.exit 0) { np := 0, tm := [], ar := [], bx := [] }
theorem zki : ∀ (n_ : Nat) (t3_11 : List ByteArray) (t4_14 : Int) (x0_37 : Int) (x0_38 : ByteArray) (x0_39 : Int) (x0_40 : Int) (r_ : Bool ⊕ Unit), Ls_Word_0 n_ t3_11 t4_14 x0_37 x0_38 x0_39 x0_40 = some r_ → ev EE (.loop zmY [1, 3, 4] [2] { np := 0, tm := [(1, .bx 0 0), (3, .rf 0 0 t3_11.length), (4, .sc (.int .i64 t4_14))], ar := [(0, .a false (strs t3_11))], bx := [(0, .b [.sc (.int .i64 x0_37), .sc (.string x0_38), .sc (.int .i64 x0_39), .sc (.int .i64 x0_40)])] }) = some (za1 t3_11 t4_14 x0_37 x0_38 x0_39 x0_40 r_) := by
 intro n_
 induction n_ with
 | zero => intro t3_11 t4_14 x0_37 x0_38 x0_39 x0_40 r_ h_; simp only [Ls_Word_0] at h_; cases h_
 | succ n_ ih_ =>
  intro t3_11 t4_14 x0_37 x0_38 x0_39 x0_40 r_ h_
  rw [zW EE zmY.eq_1]
  simp only [Ls_Word_0] at h_
  rcases bI h_ with ⟨h1_, h_⟩ | ⟨h1_, h_⟩
  ·have h1_s := h1_; try simp at h1_s
   rcases bI h_ with ⟨h3_, h_⟩ | ⟨h3_, h_⟩
   ·obtain ⟨e11, h4_, h_⟩ := za h_
    obtain ⟨h4_a, h4_b, h4_c, h4_d⟩ := zbn  h4_
    try simp [-getElem?_pos] at h4_d
    rcases bI h_ with ⟨h8_, h_⟩ | ⟨h8_, h_⟩
    ·cases h_
     simp +decide [-getElem?_pos, h1_, h1_s, eq_true h3_, h4_a, h4_b, h4_c, h4_d, eq_true h8_, za1]
    have q_ := ih_ t3_11 (IntKind.i64.wrap (t4_14 + 1)) x0_37 x0_38 x0_39 x0_40 _ h_
    rcases r_ with t2_4 | _
    all_goals (try simp [za1] at q_)
    all_goals simp +decide [-getElem?_pos, h1_, h1_s, eq_true h3_, h4_a, h4_b, h4_c, h4_d, h8_, q_, za1]
   have q_ := ih_ t3_11 (IntKind.i64.wrap (t4_14 + 1)) x0_37 x0_38 x0_39 x0_40 _ h_
   rcases r_ with t2_4 | _
   all_goals (try simp [za1] at q_)
   all_goals simp +decide [-getElem?_pos, h1_, h1_s, h3_, q_, za1]
  have h1_s := h1_; try simp at h1_s
  cases h_
  simp +decide [-getElem?_pos, h1_, h1_s, za1]
/-- spec.Word -/
def zgH (a0_59 : Int) (a0_60 : ByteArray) (a0_61 : Int) (a0_62 : Int) : Option Bool :=
 bS (Ls_Word_0 FU ([(⟨#[108, 101, 116]⟩ : ByteArray), (⟨#[105, 102]⟩ : ByteArray), (⟨#[101, 108, 115, 101]⟩ : ByteArray), (⟨#[119, 104, 105, 108, 101]⟩ : ByteArray), (⟨#[114, 101, 116, 117, 114, 110]⟩ : ByteArray), (⟨#[112, 114, 105, 110, 116]⟩ : ByteArray), (⟨#[102, 117, 110, 99, 116, 105, 111, 110]⟩ : ByteArray), (⟨#[116, 114, 117, 101]⟩ : ByteArray), (⟨#[102, 97, 108, 115, 101]⟩ : ByteArray), (⟨#[110, 117, 108, 108]⟩ : ByteArray), (⟨#[117, 110, 100, 101, 102, 105, 110, 101, 100]⟩ : ByteArray), (⟨#[112, 114, 111, 116, 111]⟩ : ByteArray)]) 0 a0_59 a0_60 a0_61 a0_62) fun r_ => match r_ with
 | .inl r102 =>
  some r102
 | .inr () =>
  some false
def zer (a0_59 : Int) (a0_60 : ByteArray) (a0_61 : Int) (a0_62 : Int) : Bool → Ans
 | q46 => .val (.sc (.bool q46)) []
theorem zmv (a0_59 : Int) (a0_60 : ByteArray) (a0_61 : Int) (a0_62 : Int) (r_ : Bool) (h_ : zgH a0_59 a0_60 a0_61 a0_62 = some r_) : ev EE (.call 79 [.ag [.sc (.int .i64 a0_59), .sc (.string a0_60), .sc (.int .i64 a0_61), .sc (.int .i64 a0_62)]] []) = some (zer a0_59 a0_60 a0_61 a0_62 r_) := by
 rw [zw]
 simp only [zgH] at h_
 obtain ⟨r_0, h1_, h_⟩ := za h_
 have h1_f := zki FU ([(⟨#[108, 101, 116]⟩ : ByteArray), (⟨#[105, 102]⟩ : ByteArray), (⟨#[101, 108, 115, 101]⟩ : ByteArray), (⟨#[119, 104, 105, 108, 101]⟩ : ByteArray), (⟨#[114, 101, 116, 117, 114, 110]⟩ : ByteArray), (⟨#[112, 114, 105, 110, 116]⟩ : ByteArray), (⟨#[102, 117, 110, 99, 116, 105, 111, 110]⟩ : ByteArray), (⟨#[116, 114, 117, 101]⟩ : ByteArray), (⟨#[102, 97, 108, 115, 101]⟩ : ByteArray), (⟨#[110, 117, 108, 108]⟩ : ByteArray), (⟨#[117, 110, 100, 101, 102, 105, 110, 101, 100]⟩ : ByteArray), (⟨#[112, 114, 111, 116, 111]⟩ : ByteArray)]) 0 a0_59 a0_60 a0_61 a0_62 _ h1_
 rcases r_0 with r102 | _
 ·try dsimp only at h_
  try simp [za1] at h1_f
  cases h_
  simp +decide [-getElem?_pos, zpY, h1_f, zer]
 ·try dsimp only at h_
  try simp [za1] at h1_f
  cases h_
  simp +decide [-getElem?_pos, zpY, h1_f, zer]
/-- spec.l13Name -/
def zag (a0_49 : ByteArray) (a1_7 : Bool) : Option Bool :=
 bS (zc9 a0_49) fun (r100, r101) =>
 if 0 ≤ r101 then
  some false
 else
 if (r100.length : Int) = 2 then
  bS (getI r100 0) fun e10 =>
  if e10.kind_ = 1 then
   if e10.text_ = a0_49 then
    bS (zgH e10.kind_ e10.text_ e10.n_ e10.at_) fun r103 =>
    if r103 = true then
     if a1_7 = true then
      some (decide (a0_49 = (⟨#[112, 114, 111, 116, 111]⟩ : ByteArray)))
     else
      some false
    else
     some true
   else
    some false
  else
   some false
 else
  some false
def zq (a0_49 : ByteArray) (a1_7 : Bool) : Bool → Ans
 | q47 => .val (.sc (.bool q47)) []
theorem z7 (a0_49 : ByteArray) (a1_7 : Bool) (r_ : Bool) (h_ : zag a0_49 a1_7 = some r_) : ev EE (.call 59 [.sc (.string a0_49), .sc (.bool a1_7)] []) = some (zq a0_49 a1_7 r_) := by
 rw [zw]
 simp only [zag] at h_
 obtain ⟨⟨r100, r101⟩, h1_, h_⟩ := za h_
 try dsimp only at h_
 have h1_f := zkh a0_49 _ h1_
 try simp [zcC] at h1_f
 rcases bI h_ with ⟨h2_, h_⟩ | ⟨h2_, h_⟩
 ·cases h_
  simp +decide [-getElem?_pos, zjz, h1_f, h2_, zq]
 rcases bI h_ with ⟨h3_, h_⟩ | ⟨h3_, h_⟩
 ·have h3_s := h3_; try simp at h3_s
  obtain ⟨e10, h5_, h_⟩ := za h_
  obtain ⟨h5_a, h5_b, h5_c, h5_d⟩ := zke  h5_
  try simp [-getElem?_pos] at h5_d
  try simp at h5_b; try simp at h5_c
  rcases bI h_ with ⟨h9_, h_⟩ | ⟨h9_, h_⟩
  ·rcases bI h_ with ⟨h10_, h_⟩ | ⟨h10_, h_⟩
   ·obtain ⟨r103, h11_, h_⟩ := za h_
    have h11_f := zmv e10.kind_ e10.text_ e10.n_ e10.at_ _ h11_
    try simp [zer] at h11_f
    rcases bI h_ with ⟨h12_, h_⟩ | ⟨h12_, h_⟩
    ·rcases bI h_ with ⟨h13_, h_⟩ | ⟨h13_, h_⟩
     ·cases h_
      simp +decide [-getElem?_pos, zjz, h1_f, h2_, eq_true h3_, eq_true h3_s, h5_a, h5_b, h5_c, h5_d, eq_true h9_, eq_true h10_, h11_f, h12_, h13_, zq]
     cases h_
     simp +decide [-getElem?_pos, zjz, h1_f, h2_, eq_true h3_, eq_true h3_s, h5_a, h5_b, h5_c, h5_d, eq_true h9_, eq_true h10_, h11_f, h12_, h13_, zq]
    cases h_
    simp +decide [-getElem?_pos, zjz, h1_f, h2_, eq_true h3_, eq_true h3_s, h5_a, h5_b, h5_c, h5_d, eq_true h9_, eq_true h10_, h11_f, h12_, zq]
   cases h_
   simp +decide [-getElem?_pos, zjz, h1_f, h2_, eq_true h3_, eq_true h3_s, h5_a, h5_b, h5_c, h5_d, eq_true h9_, h10_, zq]
  cases h_
  simp +decide [-getElem?_pos, zjz, h1_f, h2_, eq_true h3_, eq_true h3_s, h5_a, h5_b, h5_c, h5_d, h9_, zq]
 have h3_s := h3_; try simp at h3_s
 cases h_
 simp +decide [-getElem?_pos, zjz, h1_f, h2_, h3_, h3_s, zq]
def Ls_l13Text_0 : Nat → ByteArray → Int → Option (Bool ⊕ Unit)
 | 0, _, _ => none
 | n_ + 1, t0_9, t3_12 =>
 if t3_12 < (t0_9.size : Int) then
  bS (zen t0_9 t3_12) fun b11 =>
  if (b11.toNat : Int) < 32 then
   some (.inl false)
  else
  if 126 < (b11.toNat : Int) then
   some (.inl false)
  else
  if (b11.toNat : Int) = 34 then
   some (.inl false)
  else
   Ls_l13Text_0 n_ t0_9 (IntKind.i64.wrap (t3_12 + 1))
 else
  some (.inr ())
def zam (t0_9 : ByteArray) (t3_12 : Int) : Bool ⊕ Unit → Ans
 | .inl t2_5 => .out .ret { np := 0, tm := [(0, .sc (.string t0_9)), (2, .sc (.bool t2_5))], ar := [], bx := [] }
 | .inr _ => .out (.exit 0) { np := 0, tm := [(0, .sc (.string t0_9))], ar := [], bx := [] }
theorem zia : ∀ (n_ : Nat) (t0_9 : ByteArray) (t3_12 : Int) (r_ : Bool ⊕ Unit), Ls_l13Text_0 n_ t0_9 t3_12 = some r_ → ev EE (.loop zmO [0, 3] [0, 2] { np := 0, tm := [(0, .sc (.string t0_9)), (3, .sc (.int .i64 t3_12))], ar := [], bx := [] }) = some (zam t0_9 t3_12 r_) := by
 intro n_
 induction n_ with
 | zero => intro t0_9 t3_12 r_ h_; simp only [Ls_l13Text_0] at h_; cases h_
 | succ n_ ih_ =>
  intro t0_9 t3_12 r_ h_
  rw [zW EE zmO.eq_1]
  simp only [Ls_l13Text_0] at h_
  rcases bI h_ with ⟨h1_, h_⟩ | ⟨h1_, h_⟩
  ·have h1_s := h1_; try simp at h1_s
   obtain ⟨b11, h3_, h_⟩ := za h_
   obtain ⟨h3_a, h3_b, h3_c, h3_d⟩ := zaM h3_
   try simp [-getElem?_pos] at h3_d
   rcases bI h_ with ⟨h7_, h_⟩ | ⟨h7_, h_⟩
   ·have h7_s := h7_; try simp at h7_s
    cases h_
    simp +decide [-getElem?_pos, -Int.toNat_le, -Int.le_toNat, h1_, h1_s, h3_a, h3_b, h3_c, h3_d, h7_, h7_s, zam]
   have h7_s := h7_; try simp at h7_s
   rcases bI h_ with ⟨h9_, h_⟩ | ⟨h9_, h_⟩
   ·have h9_s := h9_; try simp at h9_s
    cases h_
    simp +decide [-getElem?_pos, -Int.toNat_le, -Int.le_toNat, h1_, h1_s, h3_a, h3_b, h3_c, h3_d, h7_, h7_s, h9_, h9_s, zam]
   have h9_s := h9_; try simp at h9_s
   rcases bI h_ with ⟨h11_, h_⟩ | ⟨h11_, h_⟩
   ·have h11_s := h11_; try simp at h11_s
    cases h_
    simp +decide [-getElem?_pos, -Int.toNat_le, -Int.le_toNat, h1_, h1_s, h3_a, h3_b, h3_c, h3_d, h7_, h7_s, h9_, h9_s, eq_true h11_, eq_true h11_s, zam]
   have h11_s := h11_; try simp at h11_s
   have q_ := ih_ t0_9 (IntKind.i64.wrap (t3_12 + 1)) _ h_
   rcases r_ with t2_5 | _
   all_goals (try simp [zam] at q_)
   all_goals simp +decide [-getElem?_pos, h1_, h1_s, h3_a, h3_b, h3_c, h3_d, h7_, h7_s, h9_, h9_s, h11_, h11_s, q_, zam]
  have h1_s := h1_; try simp at h1_s
  cases h_
  simp +decide [-getElem?_pos, h1_, h1_s, zam]
/-- spec.l13Text -/
def zda (a0_63 : ByteArray) : Option Bool :=
 bS (Ls_l13Text_0 FU a0_63 0) fun r_ => match r_ with
 | .inl r110 =>
  some r110
 | .inr () =>
  some (decide ((a0_63.size : Int) ≤ 30))
def zcf (a0_63 : ByteArray) : Bool → Ans
 | q48 => .val (.sc (.bool q48)) []
theorem zgb (a0_63 : ByteArray) (r_ : Bool) (h_ : zda a0_63 = some r_) : ev EE (.call 60 [.sc (.string a0_63)] []) = some (zcf a0_63 r_) := by
 rw [zw]
 simp only [zda] at h_
 obtain ⟨r_0, h1_, h_⟩ := za h_
 have h1_f := zia FU a0_63 0 _ h1_
 rcases r_0 with r110 | _
 ·try dsimp only at h_
  try simp [zam] at h1_f
  cases h_
  simp +decide [-getElem?_pos, zpT, h1_f, zcf]
 ·try dsimp only at h_
  try simp [zam] at h1_f
  cases h_
  simp +decide [-getElem?_pos, zpT, h1_f, zcf]
def Ls_l13Names_0 : Nat → ByteArray → Int → Int → Option (Unit ⊕ Bool)
 | 0, _, _, _ => none
 | n_ + 1, t0_10, t3_13, t4_15 =>
 if t4_15 ≤ (t0_10.size : Int) then
  if t0_10 = (⟨#[]⟩ : ByteArray) then
   some (.inl ())
  else
  if t4_15 = (t0_10.size : Int) then
   if 0 ≤ t3_13 then
   if 0 ≤ t4_15 then
   if t3_13.toNat ≤ t4_15.toNat ∧ t4_15.toNat ≤ t0_10.size then
   bS (zag (ByteArray.extract t0_10 t3_13.toNat t4_15.toNat) false) fun r112 =>
   if r112 = true then
    Ls_l13Names_0 n_ t0_10 (IntKind.i64.wrap (t4_15 + 1)) (IntKind.i64.wrap (t4_15 + 1))
   else
    some (.inr false)
   else none
   else none
   else none
  else
  bS (zen t0_10 t4_15) fun b12 =>
  if (b12.toNat : Int) = 32 then
   if 0 ≤ t3_13 then
   if 0 ≤ t4_15 then
   if t3_13.toNat ≤ t4_15.toNat ∧ t4_15.toNat ≤ t0_10.size then
   bS (zag (ByteArray.extract t0_10 t3_13.toNat t4_15.toNat) false) fun r113 =>
   if r113 = true then
    Ls_l13Names_0 n_ t0_10 (IntKind.i64.wrap (t4_15 + 1)) (IntKind.i64.wrap (t4_15 + 1))
   else
    some (.inr false)
   else none
   else none
   else none
  else
   Ls_l13Names_0 n_ t0_10 t3_13 (IntKind.i64.wrap (t4_15 + 1))
 else
  some (.inl ())
def zN (t0_10 : ByteArray) (t3_13 : Int) (t4_15 : Int) : Unit ⊕ Bool → Ans
 | .inl _ => .out (.exit 0) { np := 0, tm := [], ar := [], bx := [] }
 | .inr t2_6 => .out .ret { np := 0, tm := [(2, .sc (.bool t2_6))], ar := [], bx := [] }
theorem zht : ∀ (n_ : Nat) (t0_10 : ByteArray) (t3_13 : Int) (t4_15 : Int) (r_ : Unit ⊕ Bool), Ls_l13Names_0 n_ t0_10 t3_13 t4_15 = some r_ → ev EE (.loop zmP [0, 3, 4] [2] { np := 0, tm := [(0, .sc (.string t0_10)), (3, .sc (.int .i64 t3_13)), (4, .sc (.int .i64 t4_15))], ar := [], bx := [] }) = some (zN t0_10 t3_13 t4_15 r_) := by
 intro n_
 induction n_ with
 | zero => intro t0_10 t3_13 t4_15 r_ h_; simp only [Ls_l13Names_0] at h_; cases h_
 | succ n_ ih_ =>
  intro t0_10 t3_13 t4_15 r_ h_
  rw [zW EE zmP.eq_1]
  simp only [Ls_l13Names_0] at h_
  rcases bI h_ with ⟨h1_, h_⟩ | ⟨h1_, h_⟩
  ·have h1_s := h1_; try simp at h1_s
   rcases bI h_ with ⟨h3_, h_⟩ | ⟨h3_, h_⟩
   ·cases h_
    simp +decide [-getElem?_pos, h1_, h1_s, eq_true h3_, zN]
   rcases bI h_ with ⟨h4_, h_⟩ | ⟨h4_, h_⟩
   ·have h4_s := h4_; try simp at h4_s
    obtain ⟨h6_, h_⟩ := bP h_
    obtain ⟨h7_, h_⟩ := bP h_
    obtain ⟨h8_, h_⟩ := bP h_
    obtain ⟨r112, h9_, h_⟩ := za h_
    have h9_f := z7 (ByteArray.extract t0_10 t3_13.toNat t4_15.toNat) false _ h9_
    try simp [zq] at h9_f
    rcases bI h_ with ⟨h10_, h_⟩ | ⟨h10_, h_⟩
    ·have q_ := ih_ t0_10 (IntKind.i64.wrap (t4_15 + 1)) (IntKind.i64.wrap (t4_15 + 1)) _ h_
     rcases r_ with _ | t2_6
     all_goals (try simp [zN] at q_)
     all_goals simp +decide [-getElem?_pos, -Int.toNat_le, -Int.le_toNat, h1_, h1_s, h3_, eq_true h4_, eq_true h4_s, h6_, h7_, h8_, h9_f, h10_, q_, zN]
    cases h_
    simp +decide [-getElem?_pos, -Int.toNat_le, -Int.le_toNat, h1_, h1_s, h3_, eq_true h4_, eq_true h4_s, h6_, h7_, h8_, h9_f, h10_, zN]
   have h4_s := h4_; try simp at h4_s
   obtain ⟨b12, h6_, h_⟩ := za h_
   obtain ⟨h6_a, h6_b, h6_c, h6_d⟩ := zaM h6_
   try simp [-getElem?_pos] at h6_d
   rcases bI h_ with ⟨h10_, h_⟩ | ⟨h10_, h_⟩
   ·have h10_s := h10_; try simp at h10_s
    obtain ⟨h12_, h_⟩ := bP h_
    obtain ⟨h13_, h_⟩ := bP h_
    obtain ⟨h14_, h_⟩ := bP h_
    obtain ⟨r113, h15_, h_⟩ := za h_
    have h15_f := z7 (ByteArray.extract t0_10 t3_13.toNat t4_15.toNat) false _ h15_
    try simp [zq] at h15_f
    rcases bI h_ with ⟨h16_, h_⟩ | ⟨h16_, h_⟩
    ·have q_ := ih_ t0_10 (IntKind.i64.wrap (t4_15 + 1)) (IntKind.i64.wrap (t4_15 + 1)) _ h_
     rcases r_ with _ | t2_6
     all_goals (try simp [zN] at q_)
     all_goals simp +decide [-getElem?_pos, -Int.toNat_le, -Int.le_toNat, h1_, h1_s, h3_, h4_, h4_s, h6_a, h6_b, h6_c, h6_d, eq_true h10_, eq_true h10_s, h12_, h13_, h14_, h15_f, h16_, q_, zN]
    cases h_
    simp +decide [-getElem?_pos, -Int.toNat_le, -Int.le_toNat, h1_, h1_s, h3_, h4_, h4_s, h6_a, h6_b, h6_c, h6_d, eq_true h10_, eq_true h10_s, h12_, h13_, h14_, h15_f, h16_, zN]
   have h10_s := h10_; try simp at h10_s
   have q_ := ih_ t0_10 t3_13 (IntKind.i64.wrap (t4_15 + 1)) _ h_
   rcases r_ with _ | t2_6
   all_goals (try simp [zN] at q_)
   all_goals simp +decide [-getElem?_pos, h1_, h1_s, h3_, h4_, h4_s, h6_a, h6_b, h6_c, h6_d, h10_, h10_s, q_, zN]
  have h1_s := h1_; try simp at h1_s
  cases h_
  simp +decide [-getElem?_pos, h1_, h1_s, zN]
/-- spec.l13Names -/
def zcM (a0_64 : ByteArray) : Option Bool :=
 bS (Ls_l13Names_0 FU a0_64 0 0) fun r_ => match r_ with
 | .inl () =>
  some true
 | .inr r114 =>
  some r114
def zbX (a0_64 : ByteArray) : Bool → Ans
 | q49 => .val (.sc (.bool q49)) []
theorem zfp (a0_64 : ByteArray) (r_ : Bool) (h_ : zcM a0_64 = some r_) : ev EE (.call 61 [.sc (.string a0_64)] []) = some (zbX a0_64 r_) := by
 rw [zw]
 simp only [zcM] at h_
 obtain ⟨r_0, h1_, h_⟩ := za h_
 have h1_f := zht FU a0_64 0 0 _ h1_
 rcases r_0 with _ | r114
 ·try dsimp only at h_
  try simp [zN] at h1_f
  cases h_
  simp +decide [-getElem?_pos, zpU, h1_f, zbX]
 ·try dsimp only at h_
  try simp [zN] at h1_f
  cases h_
  simp +decide [-getElem?_pos, zpU, h1_f, zbX]
/-- spec.l13Ok -/
def Ss_l13Ok (Rs_l13Ok : Int → ByteArray → Int → (List T_Node) → Option Bool) (a0_32 : Int) (a0_33 : ByteArray) (a0_34 : Int) (a0_35 : List T_Node) : Option Bool :=
 if a0_34 = 0 then
  bS (zc7 Rs_l13Ok a0_32 a0_33 a0_34 a0_35) fun r56 =>
  if r56 = true then
   if a0_32 = 2 then
    bS (zag a0_33 false) fun r104 =>
    some r104
   else
   if a0_32 = 3 then
    bS (zag a0_33 false) fun r105 =>
    some r105
   else
   if a0_32 = 16 then
    bS (zag a0_33 false) fun r106 =>
    some r106
   else
   if a0_32 = 26 then
    bS (zag a0_33 false) fun r107 =>
    some r107
   else
   if a0_32 = 17 then
    bS (zag a0_33 true) fun r108 =>
    some r108
   else
   if a0_32 = 4 then
    bS (zag a0_33 true) fun r109 =>
    some r109
   else
   if a0_32 = 11 then
    bS (zda a0_33) fun r111 =>
    some r111
   else
   if a0_32 = 27 then
    bS (zcM a0_33) fun r115 =>
    some r115
   else
   if a0_32 = 10 then
    if a0_33 = (⟨#[]⟩ : ByteArray) then
     bS (zdo a0_34 (-2147483647) 2147483647) fun r116 =>
     some r116
    else
     some false
   else
   if a0_33 = (⟨#[]⟩ : ByteArray) then
    bS (zdo a0_32 1 27) fun r117 =>
    some r117
   else
    some false
  else
   some false
 else
 if a0_32 = 10 then
  bS (zc7 Rs_l13Ok a0_32 a0_33 a0_34 a0_35) fun r118 =>
  if r118 = true then
   if a0_32 = 2 then
    bS (zag a0_33 false) fun r119 =>
    some r119
   else
   if a0_32 = 3 then
    bS (zag a0_33 false) fun r120 =>
    some r120
   else
   if a0_32 = 16 then
    bS (zag a0_33 false) fun r121 =>
    some r121
   else
   if a0_32 = 26 then
    bS (zag a0_33 false) fun r122 =>
    some r122
   else
   if a0_32 = 17 then
    bS (zag a0_33 true) fun r123 =>
    some r123
   else
   if a0_32 = 4 then
    bS (zag a0_33 true) fun r124 =>
    some r124
   else
   if a0_32 = 11 then
    bS (zda a0_33) fun r125 =>
    some r125
   else
   if a0_32 = 27 then
    bS (zcM a0_33) fun r126 =>
    some r126
   else
   if a0_33 = (⟨#[]⟩ : ByteArray) then
    bS (zdo a0_34 (-2147483647) 2147483647) fun r127 =>
    some r127
   else
    some false
  else
   some false
 else
  some false
theorem Ss_l13Ok_ok (Rs_l13Ok) (hRs_l13Ok : zds Rs_l13Ok) (a0_32 : Int) (a0_33 : ByteArray) (a0_34 : Int) (a0_35 : List T_Node) (r_ : Bool) (h_ : Ss_l13Ok Rs_l13Ok a0_32 a0_33 a0_34 a0_35 = some r_) : ev EE (.call 33 [.ag [.sc (.int .i64 a0_32), .sc (.string a0_33), .sc (.int .i64 a0_34), .ls false (r_Node false a0_35)]] []) = some (zk a0_32 a0_33 a0_34 a0_35 r_) := by
 rw [zw]
 simp only [Ss_l13Ok] at h_
 rcases bI h_ with ⟨h1_, h_⟩ | ⟨h1_, h_⟩
 ·obtain ⟨r56, h2_, h_⟩ := za h_
  have h2_f := zga Rs_l13Ok hRs_l13Ok a0_32 a0_33 a0_34 a0_35 _ h2_
  try simp [zf] at h2_f
  rcases bI h_ with ⟨h3_, h_⟩ | ⟨h3_, h_⟩
  ·rcases bI h_ with ⟨h4_, h_⟩ | ⟨h4_, h_⟩
   ·obtain ⟨r104, h5_, h_⟩ := za h_
    have h5_f := z7 a0_33 false _ h5_
    try simp [zq] at h5_f
    cases h_
    simp +decide [-getElem?_pos, zc4, eq_true h1_, h2_f, h3_, eq_true h4_, h5_f, zk]
   rcases bI h_ with ⟨h5_, h_⟩ | ⟨h5_, h_⟩
   ·obtain ⟨r105, h6_, h_⟩ := za h_
    have h6_f := z7 a0_33 false _ h6_
    try simp [zq] at h6_f
    cases h_
    simp +decide [-getElem?_pos, zc4, eq_true h1_, h2_f, h3_, h4_, eq_true h5_, h6_f, zk]
   rcases bI h_ with ⟨h6_, h_⟩ | ⟨h6_, h_⟩
   ·obtain ⟨r106, h7_, h_⟩ := za h_
    have h7_f := z7 a0_33 false _ h7_
    try simp [zq] at h7_f
    cases h_
    simp +decide [-getElem?_pos, zc4, eq_true h1_, h2_f, h3_, h4_, h5_, eq_true h6_, h7_f, zk]
   rcases bI h_ with ⟨h7_, h_⟩ | ⟨h7_, h_⟩
   ·obtain ⟨r107, h8_, h_⟩ := za h_
    have h8_f := z7 a0_33 false _ h8_
    try simp [zq] at h8_f
    cases h_
    simp +decide [-getElem?_pos, zc4, eq_true h1_, h2_f, h3_, h4_, h5_, h6_, eq_true h7_, h8_f, zk]
   rcases bI h_ with ⟨h8_, h_⟩ | ⟨h8_, h_⟩
   ·obtain ⟨r108, h9_, h_⟩ := za h_
    have h9_f := z7 a0_33 true _ h9_
    try simp [zq] at h9_f
    cases h_
    simp +decide [-getElem?_pos, zc4, eq_true h1_, h2_f, h3_, h4_, h5_, h6_, h7_, eq_true h8_, h9_f, zk]
   rcases bI h_ with ⟨h9_, h_⟩ | ⟨h9_, h_⟩
   ·obtain ⟨r109, h10_, h_⟩ := za h_
    have h10_f := z7 a0_33 true _ h10_
    try simp [zq] at h10_f
    cases h_
    simp +decide [-getElem?_pos, zc4, eq_true h1_, h2_f, h3_, h4_, h5_, h6_, h7_, h8_, eq_true h9_, h10_f, zk]
   rcases bI h_ with ⟨h10_, h_⟩ | ⟨h10_, h_⟩
   ·obtain ⟨r111, h11_, h_⟩ := za h_
    have h11_f := zgb a0_33 _ h11_
    try simp [zcf] at h11_f
    cases h_
    simp +decide [-getElem?_pos, zc4, eq_true h1_, h2_f, h3_, h4_, h5_, h6_, h7_, h8_, h9_, eq_true h10_, h11_f, zk]
   rcases bI h_ with ⟨h11_, h_⟩ | ⟨h11_, h_⟩
   ·obtain ⟨r115, h12_, h_⟩ := za h_
    have h12_f := zfp a0_33 _ h12_
    try simp [zbX] at h12_f
    cases h_
    simp +decide [-getElem?_pos, zc4, eq_true h1_, h2_f, h3_, h4_, h5_, h6_, h7_, h8_, h9_, h10_, eq_true h11_, h12_f, zk]
   rcases bI h_ with ⟨h12_, h_⟩ | ⟨h12_, h_⟩
   ·rcases bI h_ with ⟨h13_, h_⟩ | ⟨h13_, h_⟩
    ·obtain ⟨r116, h14_, h_⟩ := za h_
     have h14_f := zc6 a0_34 (-2147483647) 2147483647 _ h14_
     try simp [zbx] at h14_f
     cases h_
     simp +decide [-getElem?_pos, zc4, eq_true h1_, h2_f, h3_, h4_, h5_, h6_, h7_, h8_, h9_, h10_, h11_, eq_true h12_, eq_true h13_, h14_f, zk]
    cases h_
    simp +decide [-getElem?_pos, zc4, eq_true h1_, h2_f, h3_, h4_, h5_, h6_, h7_, h8_, h9_, h10_, h11_, eq_true h12_, h13_, zk]
   rcases bI h_ with ⟨h13_, h_⟩ | ⟨h13_, h_⟩
   ·obtain ⟨r117, h14_, h_⟩ := za h_
    have h14_f := zc6 a0_32 1 27 _ h14_
    try simp [zbx] at h14_f
    cases h_
    simp +decide [-getElem?_pos, zc4, eq_true h1_, h2_f, h3_, h4_, h5_, h6_, h7_, h8_, h9_, h10_, h11_, h12_, eq_true h13_, h14_f, zk]
   cases h_
   simp +decide [-getElem?_pos, zc4, eq_true h1_, h2_f, h3_, h4_, h5_, h6_, h7_, h8_, h9_, h10_, h11_, h12_, h13_, zk]
  cases h_
  simp +decide [-getElem?_pos, zc4, eq_true h1_, h2_f, h3_, zk]
 rcases bI h_ with ⟨h2_, h_⟩ | ⟨h2_, h_⟩
 ·obtain ⟨r118, h3_, h_⟩ := za h_
  have h3_f := zga Rs_l13Ok hRs_l13Ok a0_32 a0_33 a0_34 a0_35 _ h3_
  try simp [zf] at h3_f
  rcases bI h_ with ⟨h4_, h_⟩ | ⟨h4_, h_⟩
  ·rcases bI h_ with ⟨h5_, h_⟩ | ⟨h5_, h_⟩
   ·obtain ⟨r119, h6_, h_⟩ := za h_
    have h6_f := z7 a0_33 false _ h6_
    try simp [zq] at h6_f
    cases h_
    simp +decide [-getElem?_pos, zc4, h1_, eq_true h2_, h3_f, h4_, eq_true h5_, h6_f, zk]
   rcases bI h_ with ⟨h6_, h_⟩ | ⟨h6_, h_⟩
   ·obtain ⟨r120, h7_, h_⟩ := za h_
    have h7_f := z7 a0_33 false _ h7_
    try simp [zq] at h7_f
    cases h_
    simp +decide [-getElem?_pos, zc4, h1_, eq_true h2_, h3_f, h4_, h5_, eq_true h6_, h7_f, zk]
   rcases bI h_ with ⟨h7_, h_⟩ | ⟨h7_, h_⟩
   ·obtain ⟨r121, h8_, h_⟩ := za h_
    have h8_f := z7 a0_33 false _ h8_
    try simp [zq] at h8_f
    cases h_
    simp +decide [-getElem?_pos, zc4, h1_, eq_true h2_, h3_f, h4_, h5_, h6_, eq_true h7_, h8_f, zk]
   rcases bI h_ with ⟨h8_, h_⟩ | ⟨h8_, h_⟩
   ·obtain ⟨r122, h9_, h_⟩ := za h_
    have h9_f := z7 a0_33 false _ h9_
    try simp [zq] at h9_f
    cases h_
    simp +decide [-getElem?_pos, zc4, h1_, eq_true h2_, h3_f, h4_, h5_, h6_, h7_, eq_true h8_, h9_f, zk]
   rcases bI h_ with ⟨h9_, h_⟩ | ⟨h9_, h_⟩
   ·obtain ⟨r123, h10_, h_⟩ := za h_
    have h10_f := z7 a0_33 true _ h10_
    try simp [zq] at h10_f
    cases h_
    simp +decide [-getElem?_pos, zc4, h1_, eq_true h2_, h3_f, h4_, h5_, h6_, h7_, h8_, eq_true h9_, h10_f, zk]
   rcases bI h_ with ⟨h10_, h_⟩ | ⟨h10_, h_⟩
   ·obtain ⟨r124, h11_, h_⟩ := za h_
    have h11_f := z7 a0_33 true _ h11_
    try simp [zq] at h11_f
    cases h_
    simp +decide [-getElem?_pos, zc4, h1_, eq_true h2_, h3_f, h4_, h5_, h6_, h7_, h8_, h9_, eq_true h10_, h11_f, zk]
   rcases bI h_ with ⟨h11_, h_⟩ | ⟨h11_, h_⟩
   ·obtain ⟨r125, h12_, h_⟩ := za h_
    have h12_f := zgb a0_33 _ h12_
    try simp [zcf] at h12_f
    cases h_
    simp +decide [-getElem?_pos, zc4, h1_, eq_true h2_, h3_f, h4_, h5_, h6_, h7_, h8_, h9_, h10_, eq_true h11_, h12_f, zk]
   rcases bI h_ with ⟨h12_, h_⟩ | ⟨h12_, h_⟩
   ·obtain ⟨r126, h13_, h_⟩ := za h_
    have h13_f := zfp a0_33 _ h13_
    try simp [zbX] at h13_f
    cases h_
    simp +decide [-getElem?_pos, zc4, h1_, eq_true h2_, h3_f, h4_, h5_, h6_, h7_, h8_, h9_, h10_, h11_, eq_true h12_, h13_f, zk]
   rcases bI h_ with ⟨h13_, h_⟩ | ⟨h13_, h_⟩
   ·obtain ⟨r127, h14_, h_⟩ := za h_
    have h14_f := zc6 a0_34 (-2147483647) 2147483647 _ h14_
    try simp [zbx] at h14_f
    cases h_
    simp +decide [-getElem?_pos, zc4, h1_, eq_true h2_, h3_f, h4_, h5_, h6_, h7_, h8_, h9_, h10_, h11_, h12_, eq_true h13_, h14_f, zk]
   cases h_
   simp +decide [-getElem?_pos, zc4, h1_, eq_true h2_, h3_f, h4_, h5_, h6_, h7_, h8_, h9_, h10_, h11_, h12_, h13_, zk]
  cases h_
  simp +decide [-getElem?_pos, zc4, h1_, eq_true h2_, h3_f, h4_, zk]
 cases h_
 simp +decide [-getElem?_pos, zc4, h1_, h2_, zk]
end Go.Pv

namespace Go.Pv
set_option maxRecDepth 100000
set_option maxHeartbeats 40000000
set_option linter.unusedSimpArgs false
set_option linter.unusedVariables false
def Fs_l13Okn : Nat → Int → ByteArray → Int → (List T_Node) → Option Bool
 | 0 => fun _ _ _ _ => none
 | n_ + 1 => Ss_l13Ok (Fs_l13Okn n_)
def Fs_l13Ok (a0_32 : Int) (a0_33 : ByteArray) (a0_34 : Int) (a0_35 : List T_Node) : Option Bool := Fs_l13Okn FU a0_32 a0_33 a0_34 a0_35
theorem zkj : ∀ (n_ : Nat) (a0_32 : Int) (a0_33 : ByteArray) (a0_34 : Int) (a0_35 : List T_Node) (r_ : Bool), Fs_l13Okn n_ a0_32 a0_33 a0_34 a0_35 = some r_ → ev EE (.call 33 [.ag [.sc (.int .i64 a0_32), .sc (.string a0_33), .sc (.int .i64 a0_34), .ls false (r_Node false a0_35)]] []) = some (zk a0_32 a0_33 a0_34 a0_35 r_) := by
 intro n_
 induction n_ with
 | zero => intro a0_32 a0_33 a0_34 a0_35 r_ h_; cases h_
 | succ n_ ih_ => intro a0_32 a0_33 a0_34 a0_35 r_ h_; exact Ss_l13Ok_ok (Fs_l13Okn n_) ih_ a0_32 a0_33 a0_34 a0_35 r_ h_
theorem zk9 (a0_32 : Int) (a0_33 : ByteArray) (a0_34 : Int) (a0_35 : List T_Node) (r_ : Bool) (h_ : Fs_l13Ok a0_32 a0_33 a0_34 a0_35 = some r_) : ev EE (.call 33 [.ag [.sc (.int .i64 a0_32), .sc (.string a0_33), .sc (.int .i64 a0_34), .ls false (r_Node false a0_35)]] []) = some (zk a0_32 a0_33 a0_34 a0_35 r_) := zkj FU a0_32 a0_33 a0_34 a0_35 r_ h_
/-- spec.NodeOk -/
def zeL (a0_19 : Int) (a0_20 : ByteArray) (a0_21 : Int) (a0_22 : List T_Node) : Option Bool :=
 if a0_19 = 1 then
  bS (Fs_Deep a0_19 a0_20 a0_21 a0_22) fun r20 =>
  if r20 ≤ 20 then
   bS (Fs_Size a0_19 a0_20 a0_21 a0_22) fun r23 =>
   if r23 ≤ 200 then
    bS (Fs_l13Ok a0_19 a0_20 a0_21 a0_22) fun r128 =>
    some r128
   else
    some false
  else
   some false
 else
  some false
def zb4 (a0_19 : Int) (a0_20 : ByteArray) (a0_21 : Int) (a0_22 : List T_Node) : Bool → Ans
 | q50 => .val (.sc (.bool q50)) []
theorem zkk (a0_19 : Int) (a0_20 : ByteArray) (a0_21 : Int) (a0_22 : List T_Node) (r_ : Bool) (h_ : zeL a0_19 a0_20 a0_21 a0_22 = some r_) : ev EE (.call 15 [.ag [.sc (.int .i64 a0_19), .sc (.string a0_20), .sc (.int .i64 a0_21), .ls false (r_Node false a0_22)]] []) = some (zb4 a0_19 a0_20 a0_21 a0_22 r_) := by
 rw [zw]
 simp only [zeL] at h_
 rcases bI h_ with ⟨h1_, h_⟩ | ⟨h1_, h_⟩
 ·obtain ⟨r20, h2_, h_⟩ := za h_
  have h2_f := zmt a0_19 a0_20 a0_21 a0_22 _ h2_
  try simp [zcc] at h2_f
  rcases bI h_ with ⟨h3_, h_⟩ | ⟨h3_, h_⟩
  ·obtain ⟨r23, h4_, h_⟩ := za h_
   have h4_f := zmu a0_19 a0_20 a0_21 a0_22 _ h4_
   try simp [zcd] at h4_f
   rcases bI h_ with ⟨h5_, h_⟩ | ⟨h5_, h_⟩
   ·obtain ⟨r128, h6_, h_⟩ := za h_
    have h6_f := zk9 a0_19 a0_20 a0_21 a0_22 _ h6_
    try simp [zk] at h6_f
    cases h_
    simp +decide [-getElem?_pos, zmz, eq_true h1_, h2_f, h3_, h4_f, h5_, h6_f, zb4]
   cases h_
   simp +decide [-getElem?_pos, zmz, eq_true h1_, h2_f, h3_, h4_f, h5_, zb4]
  cases h_
  simp +decide [-getElem?_pos, zmz, eq_true h1_, h2_f, h3_, zb4]
 cases h_
 simp +decide [-getElem?_pos, zmz, h1_, zb4]
def zn (a0_69 : Int) (a0_70 : ByteArray) (a0_71 : Int) (a0_72 : List T_Node) : ByteArray → Ans
 | q51 => .val (.sc (.string q51)) []
def zgl (Rs_l13Expr : Int → ByteArray → Int → (List T_Node) → Option ByteArray) : Prop := ∀ (a0_69 : Int) (a0_70 : ByteArray) (a0_71 : Int) (a0_72 : List T_Node) (r_ : ByteArray), Rs_l13Expr a0_69 a0_70 a0_71 a0_72 = some r_ → ev EE (.call 34 [.ag [.sc (.int .i64 a0_69), .sc (.string a0_70), .sc (.int .i64 a0_71), .ls false (r_Node false a0_72)]] []) = some (zn a0_69 a0_70 a0_71 a0_72 r_)
def zan (Rs_l13Expr : Int → ByteArray → Int → (List T_Node) → Option ByteArray) : Nat → Int → ByteArray → Int → Int → ByteArray → Int → (List T_Node) → Option ByteArray
 | 0, _, _, _, _, _, _, _ => none
 | n_ + 1, t1_9, t5_7, t6_2, x0_45, x0_46, x0_47, x0_48 =>
 if t6_2 < (x0_48.length : Int) then
  if t1_9 < t6_2 then
   bS (cat t5_7 (⟨#[44, 32]⟩ : ByteArray)) fun s13 =>
   bS (getI x0_48 t6_2) fun e16 =>
   if e16.op_ = 26 then
    bS (cat s13 e16.s_) fun s14 =>
    bS (cat s14 (⟨#[58, 32]⟩ : ByteArray)) fun s15 =>
    bS (getI e16.kids_ 0) fun e17 =>
    bS (Rs_l13Expr e17.op_ e17.s_ e17.n_ e17.kids_) fun r134 =>
    bS (cat s15 r134) fun s16 =>
    zan Rs_l13Expr n_ t1_9 s16 (IntKind.i64.wrap (t6_2 + 1)) x0_45 x0_46 x0_47 x0_48
   else
   bS (Rs_l13Expr e16.op_ e16.s_ e16.n_ e16.kids_) fun r135 =>
   bS (cat s13 r135) fun s17 =>
   zan Rs_l13Expr n_ t1_9 s17 (IntKind.i64.wrap (t6_2 + 1)) x0_45 x0_46 x0_47 x0_48
  else
  bS (getI x0_48 t6_2) fun e18 =>
  if e18.op_ = 26 then
   bS (cat t5_7 e18.s_) fun s18 =>
   bS (cat s18 (⟨#[58, 32]⟩ : ByteArray)) fun s19 =>
   bS (getI e18.kids_ 0) fun e19 =>
   bS (Rs_l13Expr e19.op_ e19.s_ e19.n_ e19.kids_) fun r136 =>
   bS (cat s19 r136) fun s20 =>
   zan Rs_l13Expr n_ t1_9 s20 (IntKind.i64.wrap (t6_2 + 1)) x0_45 x0_46 x0_47 x0_48
  else
  bS (Rs_l13Expr e18.op_ e18.s_ e18.n_ e18.kids_) fun r137 =>
  bS (cat t5_7 r137) fun s21 =>
  zan Rs_l13Expr n_ t1_9 s21 (IntKind.i64.wrap (t6_2 + 1)) x0_45 x0_46 x0_47 x0_48
 else
  some t5_7
def zZ (t1_9 : Int) (t5_7 : ByteArray) (t6_2 : Int) (x0_45 : Int) (x0_46 : ByteArray) (x0_47 : Int) (x0_48 : List T_Node) : ByteArray → Ans
 | t5_8 => .out (.exit 0) { np := 0, tm := [(5, .sc (.string t5_8))], ar := [], bx := [] }
theorem zib (Rs_l13Expr) (hRs_l13Expr : zgl Rs_l13Expr) : ∀ (n_ : Nat) (t1_9 : Int) (t5_7 : ByteArray) (t6_2 : Int) (x0_45 : Int) (x0_46 : ByteArray) (x0_47 : Int) (x0_48 : List T_Node) (r_ : ByteArray), zan Rs_l13Expr n_ t1_9 t5_7 t6_2 x0_45 x0_46 x0_47 x0_48 = some r_ → ev EE (.loop zmR [1, 2, 5, 6] [4, 5] { np := 0, tm := [(1, .sc (.int .i64 t1_9)), (2, .bx 0 0), (5, .sc (.string t5_7)), (6, .sc (.int .i64 t6_2))], ar := [], bx := [(0, .b [.sc (.int .i64 x0_45), .sc (.string x0_46), .sc (.int .i64 x0_47), .ls false (r_Node false x0_48)])] }) = some (zZ t1_9 t5_7 t6_2 x0_45 x0_46 x0_47 x0_48 r_) := by
 intro n_
 induction n_ with
 | zero => intro t1_9 t5_7 t6_2 x0_45 x0_46 x0_47 x0_48 r_ h_; simp only [zan] at h_; cases h_
 | succ n_ ih_ =>
  intro t1_9 t5_7 t6_2 x0_45 x0_46 x0_47 x0_48 r_ h_
  rw [zW EE zmR.eq_1]
  simp only [zan] at h_
  rcases bI h_ with ⟨h1_, h_⟩ | ⟨h1_, h_⟩
  ·have h1_s := h1_; try simp at h1_s
   rcases bI h_ with ⟨h3_, h_⟩ | ⟨h3_, h_⟩
   ·obtain ⟨s13, h4_, h_⟩ := zb h_
    obtain ⟨e16, h5_, h_⟩ := za h_
    obtain ⟨h5_a, h5_b, h5_c, h5_d⟩ := zj (o := false)  h5_
    try simp [-getElem?_pos] at h5_d
    rcases bI h_ with ⟨h9_, h_⟩ | ⟨h9_, h_⟩
    ·obtain ⟨s14, h10_, h_⟩ := zb h_
     obtain ⟨s15, h11_, h_⟩ := zb h_
     obtain ⟨e17, h12_, h_⟩ := za h_
     obtain ⟨h12_a, h12_b, h12_c, h12_d⟩ := zj (o := false)  h12_
     try simp [-getElem?_pos] at h12_d
     try simp at h12_b; try simp at h12_c
     obtain ⟨r134, h16_, h_⟩ := za h_
     have h16_f := hRs_l13Expr e17.op_ e17.s_ e17.n_ e17.kids_ _ h16_
     try simp [zn] at h16_f
     obtain ⟨s16, h17_, h_⟩ := zb h_
     have q_ := ih_ t1_9 s16 (IntKind.i64.wrap (t6_2 + 1)) x0_45 x0_46 x0_47 x0_48 _ h_
     rcases r_ with t5_8
     all_goals (try simp [zZ] at q_)
     all_goals simp +decide [-getElem?_pos, h1_, h1_s, h3_, h4_, h5_a, h5_b, h5_c, h5_d, eq_true h9_, h10_, h11_, h12_a, h12_b, h12_c, h12_d, h16_f, h17_, q_, zZ]
    obtain ⟨r135, h10_, h_⟩ := za h_
    have h10_f := hRs_l13Expr e16.op_ e16.s_ e16.n_ e16.kids_ _ h10_
    try simp [zn] at h10_f
    obtain ⟨s17, h11_, h_⟩ := zb h_
    have q_ := ih_ t1_9 s17 (IntKind.i64.wrap (t6_2 + 1)) x0_45 x0_46 x0_47 x0_48 _ h_
    rcases r_ with t5_8
    all_goals (try simp [zZ] at q_)
    all_goals simp +decide [-getElem?_pos, h1_, h1_s, h3_, h4_, h5_a, h5_b, h5_c, h5_d, h9_, h10_f, h11_, q_, zZ]
   obtain ⟨e18, h4_, h_⟩ := za h_
   obtain ⟨h4_a, h4_b, h4_c, h4_d⟩ := zj (o := false)  h4_
   try simp [-getElem?_pos] at h4_d
   rcases bI h_ with ⟨h8_, h_⟩ | ⟨h8_, h_⟩
   ·obtain ⟨s18, h9_, h_⟩ := zb h_
    obtain ⟨s19, h10_, h_⟩ := zb h_
    obtain ⟨e19, h11_, h_⟩ := za h_
    obtain ⟨h11_a, h11_b, h11_c, h11_d⟩ := zj (o := false)  h11_
    try simp [-getElem?_pos] at h11_d
    try simp at h11_b; try simp at h11_c
    obtain ⟨r136, h15_, h_⟩ := za h_
    have h15_f := hRs_l13Expr e19.op_ e19.s_ e19.n_ e19.kids_ _ h15_
    try simp [zn] at h15_f
    obtain ⟨s20, h16_, h_⟩ := zb h_
    have q_ := ih_ t1_9 s20 (IntKind.i64.wrap (t6_2 + 1)) x0_45 x0_46 x0_47 x0_48 _ h_
    rcases r_ with t5_8
    all_goals (try simp [zZ] at q_)
    all_goals simp +decide [-getElem?_pos, h1_, h1_s, h3_, h4_a, h4_b, h4_c, h4_d, eq_true h8_, h9_, h10_, h11_a, h11_b, h11_c, h11_d, h15_f, h16_, q_, zZ]
   obtain ⟨r137, h9_, h_⟩ := za h_
   have h9_f := hRs_l13Expr e18.op_ e18.s_ e18.n_ e18.kids_ _ h9_
   try simp [zn] at h9_f
   obtain ⟨s21, h10_, h_⟩ := zb h_
   have q_ := ih_ t1_9 s21 (IntKind.i64.wrap (t6_2 + 1)) x0_45 x0_46 x0_47 x0_48 _ h_
   rcases r_ with t5_8
   all_goals (try simp [zZ] at q_)
   all_goals simp +decide [-getElem?_pos, h1_, h1_s, h3_, h4_a, h4_b, h4_c, h4_d, h8_, h9_f, h10_, q_, zZ]
  have h1_s := h1_; try simp at h1_s
  cases h_
  simp +decide [-getElem?_pos, h1_, h1_s, zZ]
/-- spec.l13List -/
def Fs_l13List (Rs_l13Expr : Int → ByteArray → Int → (List T_Node) → Option ByteArray) (a0_73 : Int) (a0_74 : ByteArray) (a0_75 : Int) (a0_76 : List T_Node) (a1_13 : Int) : Option ByteArray :=
 bS (zan Rs_l13Expr FU a1_13 (⟨#[]⟩ : ByteArray) a1_13 a0_73 a0_74 a0_75 a0_76) fun r138 =>
 some r138
def zcU (a0_73 : Int) (a0_74 : ByteArray) (a0_75 : Int) (a0_76 : List T_Node) (a1_13 : Int) : ByteArray → Ans
 | q52 => .val (.sc (.string q52)) []
theorem zgc (Rs_l13Expr) (hRs_l13Expr : zgl Rs_l13Expr) (a0_73 : Int) (a0_74 : ByteArray) (a0_75 : Int) (a0_76 : List T_Node) (a1_13 : Int) (r_ : ByteArray) (h_ : Fs_l13List Rs_l13Expr a0_73 a0_74 a0_75 a0_76 a1_13 = some r_) : ev EE (.call 64 [.ag [.sc (.int .i64 a0_73), .sc (.string a0_74), .sc (.int .i64 a0_75), .ls false (r_Node false a0_76)], .sc (.int .i64 a1_13)] []) = some (zcU a0_73 a0_74 a0_75 a0_76 a1_13 r_) := by
 rw [zw]
 simp only [Fs_l13List] at h_
 obtain ⟨r138, h1_, h_⟩ := za h_
 have h1_f := zib Rs_l13Expr hRs_l13Expr FU a1_13 (⟨#[]⟩ : ByteArray) a1_13 a0_73 a0_74 a0_75 a0_76 _ h1_
 try simp [zZ] at h1_f
 cases h_
 simp +decide [-getElem?_pos, zsD, h1_f, zcU]
def zbe : Nat → ByteArray → Int → Int → ByteArray → Int → (List T_Node) → Option ByteArray
 | 0, _, _, _, _, _, _ => none
 | n_ + 1, t3_15, t4_17, x0_49, x0_50, x0_51, x0_52 =>
 if t4_17 < (x0_50.size : Int) then
  bS (zen x0_50 t4_17) fun b13 =>
  if (b13.toNat : Int) = 32 then
   bS (cat t3_15 (⟨#[44]⟩ : ByteArray)) fun s28 =>
   if 0 ≤ t4_17 then
   if 0 ≤ IntKind.i64.wrap (t4_17 + 1) then
   if t4_17.toNat ≤ (IntKind.i64.wrap (t4_17 + 1)).toNat ∧ (IntKind.i64.wrap (t4_17 + 1)).toNat ≤ x0_50.size then
   bS (cat s28 (ByteArray.extract x0_50 t4_17.toNat ((IntKind.i64.wrap (t4_17 + 1)).toNat))) fun s29 =>
   zbe n_ s29 (IntKind.i64.wrap (t4_17 + 1)) x0_49 x0_50 x0_51 x0_52
   else none
   else none
   else none
  else
  if 0 ≤ t4_17 then
  if 0 ≤ IntKind.i64.wrap (t4_17 + 1) then
  if t4_17.toNat ≤ (IntKind.i64.wrap (t4_17 + 1)).toNat ∧ (IntKind.i64.wrap (t4_17 + 1)).toNat ≤ x0_50.size then
  bS (cat t3_15 (ByteArray.extract x0_50 t4_17.toNat ((IntKind.i64.wrap (t4_17 + 1)).toNat))) fun s30 =>
  zbe n_ s30 (IntKind.i64.wrap (t4_17 + 1)) x0_49 x0_50 x0_51 x0_52
  else none
  else none
  else none
 else
  some t3_15
def zaX (t3_15 : ByteArray) (t4_17 : Int) (x0_49 : Int) (x0_50 : ByteArray) (x0_51 : Int) (x0_52 : List T_Node) : ByteArray → Ans
 | t3_16 => .out (.exit 1) { np := 0, tm := [(1, .bx 0 0), (3, .sc (.string t3_16))], ar := [], bx := [(0, .b [.sc (.int .i64 x0_49), .sc (.string x0_50), .sc (.int .i64 x0_51), .ls false (r_Node false x0_52)])] }
theorem zic : ∀ (n_ : Nat) (t3_15 : ByteArray) (t4_17 : Int) (x0_49 : Int) (x0_50 : ByteArray) (x0_51 : Int) (x0_52 : List T_Node) (r_ : ByteArray), zbe n_ t3_15 t4_17 x0_49 x0_50 x0_51 x0_52 = some r_ → ev EE (.loop zmJ [1, 3, 4] [1, 2, 3] { np := 0, tm := [(1, .bx 0 0), (3, .sc (.string t3_15)), (4, .sc (.int .i64 t4_17))], ar := [], bx := [(0, .b [.sc (.int .i64 x0_49), .sc (.string x0_50), .sc (.int .i64 x0_51), .ls false (r_Node false x0_52)])] }) = some (zaX t3_15 t4_17 x0_49 x0_50 x0_51 x0_52 r_) := by
 intro n_
 induction n_ with
 | zero => intro t3_15 t4_17 x0_49 x0_50 x0_51 x0_52 r_ h_; simp only [zbe] at h_; cases h_
 | succ n_ ih_ =>
  intro t3_15 t4_17 x0_49 x0_50 x0_51 x0_52 r_ h_
  rw [zW EE zmJ.eq_1]
  simp only [zbe] at h_
  rcases bI h_ with ⟨h1_, h_⟩ | ⟨h1_, h_⟩
  ·have h1_s := h1_; try simp at h1_s
   obtain ⟨b13, h3_, h_⟩ := za h_
   obtain ⟨h3_a, h3_b, h3_c, h3_d⟩ := zaM h3_
   try simp [-getElem?_pos] at h3_d
   rcases bI h_ with ⟨h7_, h_⟩ | ⟨h7_, h_⟩
   ·have h7_s := h7_; try simp at h7_s
    obtain ⟨s28, h9_, h_⟩ := zb h_
    obtain ⟨h10_, h_⟩ := bP h_
    obtain ⟨h11_, h_⟩ := bP h_
    obtain ⟨h12_, h_⟩ := bP h_
    obtain ⟨s29, h13_, h_⟩ := zb h_
    have q_ := ih_ s29 (IntKind.i64.wrap (t4_17 + 1)) x0_49 x0_50 x0_51 x0_52 _ h_
    rcases r_ with t3_16
    all_goals (try simp [zaX] at q_)
    all_goals simp +decide [-getElem?_pos, -ByteArray.size_extract, -Int.toNat_le, -Int.le_toNat, h1_, h1_s, h3_a, h3_b, h3_c, h3_d, eq_true h7_, eq_true h7_s, h9_, h10_, h11_, h12_, h13_, q_, zaX]
   have h7_s := h7_; try simp at h7_s
   obtain ⟨h9_, h_⟩ := bP h_
   obtain ⟨h10_, h_⟩ := bP h_
   obtain ⟨h11_, h_⟩ := bP h_
   obtain ⟨s30, h12_, h_⟩ := zb h_
   have q_ := ih_ s30 (IntKind.i64.wrap (t4_17 + 1)) x0_49 x0_50 x0_51 x0_52 _ h_
   rcases r_ with t3_16
   all_goals (try simp [zaX] at q_)
   all_goals simp +decide [-getElem?_pos, -ByteArray.size_extract, -Int.toNat_le, -Int.le_toNat, h1_, h1_s, h3_a, h3_b, h3_c, h3_d, h7_, h7_s, h9_, h10_, h11_, h12_, q_, zaX]
  have h1_s := h1_; try simp at h1_s
  cases h_
  simp +decide [-getElem?_pos, h1_, h1_s, zaX]
def zy (a0_65 : Int) (a0_66 : ByteArray) (a0_67 : Int) (a0_68 : List T_Node) : ByteArray → Ans
 | q53 => .val (.sc (.string q53)) []
def zdb (Rs_l13Stmt : Int → ByteArray → Int → (List T_Node) → Option ByteArray) : Prop := ∀ (a0_65 : Int) (a0_66 : ByteArray) (a0_67 : Int) (a0_68 : List T_Node) (r_ : ByteArray), Rs_l13Stmt a0_65 a0_66 a0_67 a0_68 = some r_ → ev EE (.call 16 [.ag [.sc (.int .i64 a0_65), .sc (.string a0_66), .sc (.int .i64 a0_67), .ls false (r_Node false a0_68)]] []) = some (zy a0_65 a0_66 a0_67 a0_68 r_)
def Ls_l13Block_0 (Rs_l13Stmt : Int → ByteArray → Int → (List T_Node) → Option ByteArray) : Nat → ByteArray → Int → Int → ByteArray → Int → (List T_Node) → Option ByteArray
 | 0, _, _, _, _, _, _ => none
 | n_ + 1, t3_17, t4_18, x0_53, x0_54, x0_55, x0_56 =>
 if t4_18 < (x0_56.length : Int) then
  bS (getI x0_56 t4_18) fun e22 =>
  bS (Rs_l13Stmt e22.op_ e22.s_ e22.n_ e22.kids_) fun r143 =>
  bS (cat t3_17 r143) fun s33 =>
  Ls_l13Block_0 Rs_l13Stmt n_ s33 (IntKind.i64.wrap (t4_18 + 1)) x0_53 x0_54 x0_55 x0_56
 else
  some t3_17
def zbA (t3_17 : ByteArray) (t4_18 : Int) (x0_53 : Int) (x0_54 : ByteArray) (x0_55 : Int) (x0_56 : List T_Node) : ByteArray → Ans
 | t3_18 => .out (.exit 0) { np := 0, tm := [(3, .sc (.string t3_18))], ar := [], bx := [] }
theorem zhu (Rs_l13Stmt) (hRs_l13Stmt : zdb Rs_l13Stmt) : ∀ (n_ : Nat) (t3_17 : ByteArray) (t4_18 : Int) (x0_53 : Int) (x0_54 : ByteArray) (x0_55 : Int) (x0_56 : List T_Node) (r_ : ByteArray), Ls_l13Block_0 Rs_l13Stmt n_ t3_17 t4_18 x0_53 x0_54 x0_55 x0_56 = some r_ → ev EE (.loop zmK [1, 3, 4] [2, 3] { np := 0, tm := [(1, .bx 0 0), (3, .sc (.string t3_17)), (4, .sc (.int .i64 t4_18))], ar := [], bx := [(0, .b [.sc (.int .i64 x0_53), .sc (.string x0_54), .sc (.int .i64 x0_55), .ls false (r_Node false x0_56)])] }) = some (zbA t3_17 t4_18 x0_53 x0_54 x0_55 x0_56 r_) := by
 intro n_
 induction n_ with
 | zero => intro t3_17 t4_18 x0_53 x0_54 x0_55 x0_56 r_ h_; simp only [Ls_l13Block_0] at h_; cases h_
 | succ n_ ih_ =>
  intro t3_17 t4_18 x0_53 x0_54 x0_55 x0_56 r_ h_
  rw [zW EE zmK.eq_1]
  simp only [Ls_l13Block_0] at h_
  rcases bI h_ with ⟨h1_, h_⟩ | ⟨h1_, h_⟩
  ·have h1_s := h1_; try simp at h1_s
   obtain ⟨e22, h3_, h_⟩ := za h_
   obtain ⟨h3_a, h3_b, h3_c, h3_d⟩ := zj (o := false)  h3_
   try simp [-getElem?_pos] at h3_d
   obtain ⟨r143, h7_, h_⟩ := za h_
   have h7_f := hRs_l13Stmt e22.op_ e22.s_ e22.n_ e22.kids_ _ h7_
   try simp [zy] at h7_f
   obtain ⟨s33, h8_, h_⟩ := zb h_
   have q_ := ih_ s33 (IntKind.i64.wrap (t4_18 + 1)) x0_53 x0_54 x0_55 x0_56 _ h_
   rcases r_ with t3_18
   all_goals (try simp [zbA] at q_)
   all_goals simp +decide [-getElem?_pos, h1_, h1_s, h3_a, h3_b, h3_c, h3_d, h7_f, h8_, q_, zbA]
  have h1_s := h1_; try simp at h1_s
  cases h_
  simp +decide [-getElem?_pos, h1_, h1_s, zbA]
/-- spec.l13Block -/
def zbB (Rs_l13Stmt : Int → ByteArray → Int → (List T_Node) → Option ByteArray) (a0_77 : Int) (a0_78 : ByteArray) (a0_79 : Int) (a0_80 : List T_Node) : Option ByteArray :=
 bS (Ls_l13Block_0 Rs_l13Stmt FU (⟨#[123, 10]⟩ : ByteArray) 0 a0_77 a0_78 a0_79 a0_80) fun r144 =>
 bS (cat r144 (⟨#[125]⟩ : ByteArray)) fun s34 =>
 some s34
def zbv (a0_77 : Int) (a0_78 : ByteArray) (a0_79 : Int) (a0_80 : List T_Node) : ByteArray → Ans
 | q54 => .val (.sc (.string q54)) []
theorem zcV (Rs_l13Stmt) (hRs_l13Stmt : zdb Rs_l13Stmt) (a0_77 : Int) (a0_78 : ByteArray) (a0_79 : Int) (a0_80 : List T_Node) (r_ : ByteArray) (h_ : zbB Rs_l13Stmt a0_77 a0_78 a0_79 a0_80 = some r_) : ev EE (.call 35 [.ag [.sc (.int .i64 a0_77), .sc (.string a0_78), .sc (.int .i64 a0_79), .ls false (r_Node false a0_80)]] []) = some (zbv a0_77 a0_78 a0_79 a0_80 r_) := by
 rw [zw]
 simp only [zbB] at h_
 obtain ⟨r144, h1_, h_⟩ := za h_
 have h1_f := zhu Rs_l13Stmt hRs_l13Stmt FU (⟨#[123, 10]⟩ : ByteArray) 0 a0_77 a0_78 a0_79 a0_80 _ h1_
 try simp [zbA] at h1_f
 obtain ⟨s34, h2_, h_⟩ := zb h_
 cases h_
 simp +decide [-getElem?_pos, zsC, h1_f, h2_, zbv]
/-- spec.l13Signs -/
def zes  : Option (List ByteArray) :=
 some ([(⟨#[43]⟩ : ByteArray), (⟨#[45]⟩ : ByteArray), (⟨#[42]⟩ : ByteArray), (⟨#[60]⟩ : ByteArray), (⟨#[61, 61]⟩ : ByteArray)])
def zdG  : (List ByteArray) → Ans
 | q55 => .val (.ls true (strs q55)) []
theorem zix  (r_ : (List ByteArray)) (h_ : zes  = some r_) : ev EE (.call 65 [] []) = some (zdG  r_) := by
 rw [zw]
 simp only [zes] at h_
 cases h_
 simp +decide [-getElem?_pos, zsE, zdG]
/-- spec.l13Expr -/
def zaG (Rs_l13Stmt : Int → ByteArray → Int → (List T_Node) → Option ByteArray) (Rs_l13Expr : Int → ByteArray → Int → (List T_Node) → Option ByteArray) (a0_69 : Int) (a0_70 : ByteArray) (a0_71 : Int) (a0_72 : List T_Node) : Option ByteArray :=
 if a0_69 = 10 then
  if a0_71 < 0 then
   bS (zbz a0_71) fun r130 =>
   bS (cat (⟨#[40]⟩ : ByteArray) r130) fun s4 =>
   bS (cat s4 (⟨#[41]⟩ : ByteArray)) fun s5 =>
   some s5
  else
  bS (zbz a0_71) fun r131 =>
  some r131
 else
 if a0_69 = 11 then
  bS (cat (⟨#[34]⟩ : ByteArray) a0_70) fun s6 =>
  bS (cat s6 (⟨#[34]⟩ : ByteArray)) fun s7 =>
  some s7
 else
 if a0_69 = 12 then
  some (⟨#[116, 114, 117, 101]⟩ : ByteArray)
 else
 if a0_69 = 13 then
  some (⟨#[102, 97, 108, 115, 101]⟩ : ByteArray)
 else
 if a0_69 = 14 then
  some (⟨#[110, 117, 108, 108]⟩ : ByteArray)
 else
 if a0_69 = 15 then
  some (⟨#[117, 110, 100, 101, 102, 105, 110, 101, 100]⟩ : ByteArray)
 else
 if a0_69 = 16 then
  some a0_70
 else
 if a0_69 = 17 then
  bS (getI a0_72 0) fun e14 =>
  bS (Rs_l13Expr e14.op_ e14.s_ e14.n_ e14.kids_) fun r132 =>
  bS (cat (⟨#[40]⟩ : ByteArray) r132) fun s8 =>
  bS (cat s8 (⟨#[41, 46]⟩ : ByteArray)) fun s9 =>
  bS (cat s9 a0_70) fun s10 =>
  some s10
 else
 if a0_69 = 18 then
  bS (getI a0_72 0) fun e15 =>
  bS (Rs_l13Expr e15.op_ e15.s_ e15.n_ e15.kids_) fun r133 =>
  bS (cat (⟨#[40]⟩ : ByteArray) r133) fun s11 =>
  bS (cat s11 (⟨#[41, 40]⟩ : ByteArray)) fun s12 =>
  bS (Fs_l13List Rs_l13Expr a0_69 a0_70 a0_71 a0_72 1) fun r139 =>
  bS (cat s12 r139) fun s22 =>
  bS (cat s22 (⟨#[41]⟩ : ByteArray)) fun s23 =>
  some s23
 else
 if a0_69 = 24 then
  bS (getI a0_72 0) fun e20 =>
  bS (Rs_l13Expr e20.op_ e20.s_ e20.n_ e20.kids_) fun r140 =>
  bS (cat (⟨#[33, 40]⟩ : ByteArray) r140) fun s24 =>
  bS (cat s24 (⟨#[41]⟩ : ByteArray)) fun s25 =>
  some s25
 else
 if a0_69 = 25 then
  bS (Fs_l13List Rs_l13Expr a0_69 a0_70 a0_71 a0_72 0) fun r141 =>
  bS (cat (⟨#[123]⟩ : ByteArray) r141) fun s26 =>
  bS (cat s26 (⟨#[125]⟩ : ByteArray)) fun s27 =>
  some s27
 else
 if a0_69 = 27 then
  bS (zbe FU (⟨#[]⟩ : ByteArray) 0 a0_69 a0_70 a0_71 a0_72) fun r142 =>
  bS (cat (⟨#[102, 117, 110, 99, 116, 105, 111, 110, 40]⟩ : ByteArray) r142) fun s31 =>
  bS (cat s31 (⟨#[41, 32]⟩ : ByteArray)) fun s32 =>
  bS (getI a0_72 0) fun e21 =>
  bS (zbB Rs_l13Stmt e21.op_ e21.s_ e21.n_ e21.kids_) fun r145 =>
  bS (cat s32 r145) fun s35 =>
  some s35
 else
 bS (getI a0_72 0) fun e23 =>
 bS (Rs_l13Expr e23.op_ e23.s_ e23.n_ e23.kids_) fun r146 =>
 bS (cat (⟨#[40]⟩ : ByteArray) r146) fun s36 =>
 bS (cat s36 (⟨#[32]⟩ : ByteArray)) fun s37 =>
 bS (zes) fun r147 =>
 bS (getI r147 (IntKind.i64.wrap (a0_69 - 19))) fun e24 =>
 bS (cat s37 e24) fun s38 =>
 bS (cat s38 (⟨#[32]⟩ : ByteArray)) fun s39 =>
 bS (getI a0_72 1) fun e25 =>
 bS (Rs_l13Expr e25.op_ e25.s_ e25.n_ e25.kids_) fun r148 =>
 bS (cat s39 r148) fun s40 =>
 bS (cat s40 (⟨#[41]⟩ : ByteArray)) fun s41 =>
 some s41
theorem Ss_l13Expr_ok (Rs_l13Stmt) (hRs_l13Stmt : zdb Rs_l13Stmt) (Rs_l13Expr) (hRs_l13Expr : zgl Rs_l13Expr) (a0_69 : Int) (a0_70 : ByteArray) (a0_71 : Int) (a0_72 : List T_Node) (r_ : ByteArray) (h_ : zaG Rs_l13Stmt Rs_l13Expr a0_69 a0_70 a0_71 a0_72 = some r_) : ev EE (.call 34 [.ag [.sc (.int .i64 a0_69), .sc (.string a0_70), .sc (.int .i64 a0_71), .ls false (r_Node false a0_72)]] []) = some (zn a0_69 a0_70 a0_71 a0_72 r_) := by
 rw [zw]
 simp only [zaG] at h_
 rcases bI h_ with ⟨h1_, h_⟩ | ⟨h1_, h_⟩
 ·rcases bI h_ with ⟨h2_, h_⟩ | ⟨h2_, h_⟩
  ·obtain ⟨r130, h3_, h_⟩ := za h_
   have h3_f := zeb a0_71 _ h3_
   try simp [zba] at h3_f
   obtain ⟨s4, h4_, h_⟩ := zb h_
   obtain ⟨s5, h5_, h_⟩ := zb h_
   cases h_
   simp +decide [-getElem?_pos, zfz, eq_true h1_, h2_, h3_f, h4_, h5_, zn]
  obtain ⟨r131, h3_, h_⟩ := za h_
  have h3_f := zeb a0_71 _ h3_
  try simp [zba] at h3_f
  cases h_
  simp +decide [-getElem?_pos, zfz, eq_true h1_, h2_, h3_f, zn]
 rcases bI h_ with ⟨h2_, h_⟩ | ⟨h2_, h_⟩
 ·obtain ⟨s6, h3_, h_⟩ := zb h_
  obtain ⟨s7, h4_, h_⟩ := zb h_
  cases h_
  simp +decide [-getElem?_pos, zfz, h1_, eq_true h2_, h3_, h4_, zn]
 rcases bI h_ with ⟨h3_, h_⟩ | ⟨h3_, h_⟩
 ·cases h_
  simp +decide [-getElem?_pos, zfz, h1_, h2_, eq_true h3_, zn]
 rcases bI h_ with ⟨h4_, h_⟩ | ⟨h4_, h_⟩
 ·cases h_
  simp +decide [-getElem?_pos, zfz, h1_, h2_, h3_, eq_true h4_, zn]
 rcases bI h_ with ⟨h5_, h_⟩ | ⟨h5_, h_⟩
 ·cases h_
  simp +decide [-getElem?_pos, zfz, h1_, h2_, h3_, h4_, eq_true h5_, zn]
 rcases bI h_ with ⟨h6_, h_⟩ | ⟨h6_, h_⟩
 ·cases h_
  simp +decide [-getElem?_pos, zfz, h1_, h2_, h3_, h4_, h5_, eq_true h6_, zn]
 rcases bI h_ with ⟨h7_, h_⟩ | ⟨h7_, h_⟩
 ·cases h_
  simp +decide [-getElem?_pos, zfz, h1_, h2_, h3_, h4_, h5_, h6_, eq_true h7_, zn]
 rcases bI h_ with ⟨h8_, h_⟩ | ⟨h8_, h_⟩
 ·obtain ⟨e14, h9_, h_⟩ := za h_
  obtain ⟨h9_a, h9_b, h9_c, h9_d⟩ := zj (o := false)  h9_
  try simp [-getElem?_pos] at h9_d
  try simp at h9_b; try simp at h9_c
  obtain ⟨r132, h13_, h_⟩ := za h_
  have h13_f := hRs_l13Expr e14.op_ e14.s_ e14.n_ e14.kids_ _ h13_
  try simp [zn] at h13_f
  obtain ⟨s8, h14_, h_⟩ := zb h_
  obtain ⟨s9, h15_, h_⟩ := zb h_
  obtain ⟨s10, h16_, h_⟩ := zb h_
  cases h_
  simp +decide [-getElem?_pos, -Int.toNat_le, -Int.le_toNat, zfz, h1_, h2_, h3_, h4_, h5_, h6_, h7_, eq_true h8_, h9_a, h9_b, h9_c, h9_d, h13_f, h14_, h15_, h16_, zn]
 rcases bI h_ with ⟨h9_, h_⟩ | ⟨h9_, h_⟩
 ·obtain ⟨e15, h10_, h_⟩ := za h_
  obtain ⟨h10_a, h10_b, h10_c, h10_d⟩ := zj (o := false)  h10_
  try simp [-getElem?_pos] at h10_d
  try simp at h10_b; try simp at h10_c
  obtain ⟨r133, h14_, h_⟩ := za h_
  have h14_f := hRs_l13Expr e15.op_ e15.s_ e15.n_ e15.kids_ _ h14_
  try simp [zn] at h14_f
  obtain ⟨s11, h15_, h_⟩ := zb h_
  obtain ⟨s12, h16_, h_⟩ := zb h_
  obtain ⟨r139, h17_, h_⟩ := za h_
  have h17_f := zgc Rs_l13Expr hRs_l13Expr a0_69 a0_70 a0_71 a0_72 1 _ h17_
  try simp [zcU] at h17_f
  obtain ⟨s22, h18_, h_⟩ := zb h_
  obtain ⟨s23, h19_, h_⟩ := zb h_
  cases h_
  simp +decide [-getElem?_pos, -Int.toNat_le, -Int.le_toNat, zfz, h1_, h2_, h3_, h4_, h5_, h6_, h7_, h8_, eq_true h9_, h10_a, h10_b, h10_c, h10_d, h14_f, h15_, h16_, h17_f, h18_, h19_, zn]
 rcases bI h_ with ⟨h10_, h_⟩ | ⟨h10_, h_⟩
 ·obtain ⟨e20, h11_, h_⟩ := za h_
  obtain ⟨h11_a, h11_b, h11_c, h11_d⟩ := zj (o := false)  h11_
  try simp [-getElem?_pos] at h11_d
  try simp at h11_b; try simp at h11_c
  obtain ⟨r140, h15_, h_⟩ := za h_
  have h15_f := hRs_l13Expr e20.op_ e20.s_ e20.n_ e20.kids_ _ h15_
  try simp [zn] at h15_f
  obtain ⟨s24, h16_, h_⟩ := zb h_
  obtain ⟨s25, h17_, h_⟩ := zb h_
  cases h_
  simp +decide [-getElem?_pos, zfz, h1_, h2_, h3_, h4_, h5_, h6_, h7_, h8_, h9_, eq_true h10_, h11_a, h11_b, h11_c, h11_d, h15_f, h16_, h17_, zn]
 rcases bI h_ with ⟨h11_, h_⟩ | ⟨h11_, h_⟩
 ·obtain ⟨r141, h12_, h_⟩ := za h_
  have h12_f := zgc Rs_l13Expr hRs_l13Expr a0_69 a0_70 a0_71 a0_72 0 _ h12_
  try simp [zcU] at h12_f
  obtain ⟨s26, h13_, h_⟩ := zb h_
  obtain ⟨s27, h14_, h_⟩ := zb h_
  cases h_
  simp +decide [-getElem?_pos, -Int.toNat_le, -Int.le_toNat, zfz, h1_, h2_, h3_, h4_, h5_, h6_, h7_, h8_, h9_, h10_, eq_true h11_, h12_f, h13_, h14_, zn]
 rcases bI h_ with ⟨h12_, h_⟩ | ⟨h12_, h_⟩
 ·obtain ⟨r142, h13_, h_⟩ := za h_
  have h13_f := zic FU (⟨#[]⟩ : ByteArray) 0 a0_69 a0_70 a0_71 a0_72 _ h13_
  try simp [zaX] at h13_f
  obtain ⟨s31, h14_, h_⟩ := zb h_
  obtain ⟨s32, h15_, h_⟩ := zb h_
  obtain ⟨e21, h16_, h_⟩ := za h_
  obtain ⟨h16_a, h16_b, h16_c, h16_d⟩ := zj (o := false)  h16_
  try simp [-getElem?_pos] at h16_d
  try simp at h16_b; try simp at h16_c
  obtain ⟨r145, h20_, h_⟩ := za h_
  have h20_f := zcV Rs_l13Stmt hRs_l13Stmt e21.op_ e21.s_ e21.n_ e21.kids_ _ h20_
  try simp [zbv] at h20_f
  obtain ⟨s35, h21_, h_⟩ := zb h_
  cases h_
  simp +decide [-getElem?_pos, -Int.toNat_le, -Int.le_toNat, zfz, h1_, h2_, h3_, h4_, h5_, h6_, h7_, h8_, h9_, h10_, h11_, eq_true h12_, h13_f, h14_, h15_, h16_a, h16_b, h16_c, h16_d, h20_f, h21_, zn]
 obtain ⟨e23, h13_, h_⟩ := za h_
 obtain ⟨h13_a, h13_b, h13_c, h13_d⟩ := zj (o := false)  h13_
 try simp [-getElem?_pos] at h13_d
 try simp at h13_b; try simp at h13_c
 obtain ⟨r146, h17_, h_⟩ := za h_
 have h17_f := hRs_l13Expr e23.op_ e23.s_ e23.n_ e23.kids_ _ h17_
 try simp [zn] at h17_f
 obtain ⟨s36, h18_, h_⟩ := zb h_
 obtain ⟨s37, h19_, h_⟩ := zb h_
 obtain ⟨r147, h20_, h_⟩ := za h_
 have h20_f := zix _ h20_
 try simp [zdG] at h20_f
 obtain ⟨e24, h21_, h_⟩ := za h_
 obtain ⟨h21_a, h21_b, h21_c, h21_d⟩ := zbn  h21_
 try simp [-getElem?_pos] at h21_d
 obtain ⟨s38, h25_, h_⟩ := zb h_
 obtain ⟨s39, h26_, h_⟩ := zb h_
 obtain ⟨e25, h27_, h_⟩ := za h_
 obtain ⟨h27_a, h27_b, h27_c, h27_d⟩ := zj (o := false)  h27_
 try simp [-getElem?_pos] at h27_d
 try simp at h27_b; try simp at h27_c
 obtain ⟨r148, h31_, h_⟩ := za h_
 have h31_f := hRs_l13Expr e25.op_ e25.s_ e25.n_ e25.kids_ _ h31_
 try simp [zn] at h31_f
 obtain ⟨s40, h32_, h_⟩ := zb h_
 obtain ⟨s41, h33_, h_⟩ := zb h_
 cases h_
 simp +decide [-getElem?_pos, zfz, h1_, h2_, h3_, h4_, h5_, h6_, h7_, h8_, h9_, h10_, h11_, h12_, h13_a, h13_b, h13_c, h13_d, h17_f, h18_, h19_, h20_f, h21_a, h21_b, h21_c, h21_d, h25_, h26_, h27_a, h27_b, h27_c, h27_d, h31_f, h32_, h33_, zn]
def Fs_l13Exprn (Rs_l13Stmt : Int → ByteArray → Int → (List T_Node) → Option ByteArray) : Nat → Int → ByteArray → Int → (List T_Node) → Option ByteArray
 | 0 => fun _ _ _ _ => none
 | n_ + 1 => zaG Rs_l13Stmt (Fs_l13Exprn Rs_l13Stmt n_)
def ze4 (Rs_l13Stmt : Int → ByteArray → Int → (List T_Node) → Option ByteArray) (a0_69 : Int) (a0_70 : ByteArray) (a0_71 : Int) (a0_72 : List T_Node) : Option ByteArray := Fs_l13Exprn Rs_l13Stmt FU a0_69 a0_70 a0_71 a0_72
theorem ziy (Rs_l13Stmt) (hRs_l13Stmt : zdb Rs_l13Stmt) : ∀ (n_ : Nat) (a0_69 : Int) (a0_70 : ByteArray) (a0_71 : Int) (a0_72 : List T_Node) (r_ : ByteArray), Fs_l13Exprn Rs_l13Stmt n_ a0_69 a0_70 a0_71 a0_72 = some r_ → ev EE (.call 34 [.ag [.sc (.int .i64 a0_69), .sc (.string a0_70), .sc (.int .i64 a0_71), .ls false (r_Node false a0_72)]] []) = some (zn a0_69 a0_70 a0_71 a0_72 r_) := by
 intro n_
 induction n_ with
 | zero => intro a0_69 a0_70 a0_71 a0_72 r_ h_; cases h_
 | succ n_ ih_ => intro a0_69 a0_70 a0_71 a0_72 r_ h_; exact Ss_l13Expr_ok Rs_l13Stmt hRs_l13Stmt (Fs_l13Exprn Rs_l13Stmt n_) ih_ a0_69 a0_70 a0_71 a0_72 r_ h_
theorem zgd (Rs_l13Stmt) (hRs_l13Stmt : zdb Rs_l13Stmt) (a0_69 : Int) (a0_70 : ByteArray) (a0_71 : Int) (a0_72 : List T_Node) (r_ : ByteArray) (h_ : ze4 Rs_l13Stmt a0_69 a0_70 a0_71 a0_72 = some r_) : ev EE (.call 34 [.ag [.sc (.int .i64 a0_69), .sc (.string a0_70), .sc (.int .i64 a0_71), .ls false (r_Node false a0_72)]] []) = some (zn a0_69 a0_70 a0_71 a0_72 r_) := ziy Rs_l13Stmt hRs_l13Stmt FU a0_69 a0_70 a0_71 a0_72 r_ h_
/-- spec.l13Stmt -/
def Ss_l13Stmt (Rs_l13Stmt : Int → ByteArray → Int → (List T_Node) → Option ByteArray) (a0_65 : Int) (a0_66 : ByteArray) (a0_67 : Int) (a0_68 : List T_Node) : Option ByteArray :=
 if 0 < (a0_68.length : Int) then
  bS (getI a0_68 0) fun e13 =>
  bS (ze4 Rs_l13Stmt e13.op_ e13.s_ e13.n_ e13.kids_) fun r149 =>
  if a0_65 = 2 then
   bS (cat (⟨#[108, 101, 116, 32]⟩ : ByteArray) a0_66) fun s42 =>
   bS (cat s42 (⟨#[32, 61, 32]⟩ : ByteArray)) fun s43 =>
   bS (cat s43 r149) fun s44 =>
   bS (cat s44 (⟨#[59, 10]⟩ : ByteArray)) fun s45 =>
   some s45
  else
  if a0_65 = 3 then
   bS (cat a0_66 (⟨#[32, 61, 32]⟩ : ByteArray)) fun s46 =>
   bS (cat s46 r149) fun s47 =>
   bS (cat s47 (⟨#[59, 10]⟩ : ByteArray)) fun s48 =>
   some s48
  else
  if a0_65 = 4 then
   bS (cat (⟨#[40]⟩ : ByteArray) r149) fun s49 =>
   bS (cat s49 (⟨#[41, 46]⟩ : ByteArray)) fun s50 =>
   bS (cat s50 a0_66) fun s51 =>
   bS (cat s51 (⟨#[32, 61, 32]⟩ : ByteArray)) fun s52 =>
   bS (getI a0_68 1) fun e26 =>
   bS (ze4 Rs_l13Stmt e26.op_ e26.s_ e26.n_ e26.kids_) fun r150 =>
   bS (cat s52 r150) fun s53 =>
   bS (cat s53 (⟨#[59, 10]⟩ : ByteArray)) fun s54 =>
   some s54
  else
  if a0_65 = 5 then
   bS (cat (⟨#[105, 102, 32, 40]⟩ : ByteArray) r149) fun s55 =>
   bS (cat s55 (⟨#[41, 32]⟩ : ByteArray)) fun s56 =>
   bS (getI a0_68 1) fun e27 =>
   bS (zbB Rs_l13Stmt e27.op_ e27.s_ e27.n_ e27.kids_) fun r151 =>
   bS (cat s56 r151) fun s57 =>
   if (a0_68.length : Int) = 3 then
    bS (cat s57 (⟨#[32, 101, 108, 115, 101, 32]⟩ : ByteArray)) fun s58 =>
    bS (getI a0_68 2) fun e28 =>
    bS (zbB Rs_l13Stmt e28.op_ e28.s_ e28.n_ e28.kids_) fun r152 =>
    bS (cat s58 r152) fun s59 =>
    bS (cat s59 (⟨#[10]⟩ : ByteArray)) fun s60 =>
    some s60
   else
   bS (cat s57 (⟨#[10]⟩ : ByteArray)) fun s61 =>
   some s61
  else
  if a0_65 = 6 then
   bS (cat (⟨#[119, 104, 105, 108, 101, 32, 40]⟩ : ByteArray) r149) fun s62 =>
   bS (cat s62 (⟨#[41, 32]⟩ : ByteArray)) fun s63 =>
   bS (getI a0_68 1) fun e29 =>
   bS (zbB Rs_l13Stmt e29.op_ e29.s_ e29.n_ e29.kids_) fun r153 =>
   bS (cat s63 r153) fun s64 =>
   bS (cat s64 (⟨#[10]⟩ : ByteArray)) fun s65 =>
   some s65
  else
  if a0_65 = 7 then
   bS (cat (⟨#[114, 101, 116, 117, 114, 110, 32]⟩ : ByteArray) r149) fun s66 =>
   bS (cat s66 (⟨#[59, 10]⟩ : ByteArray)) fun s67 =>
   some s67
  else
  if a0_65 = 8 then
   bS (cat (⟨#[112, 114, 105, 110, 116, 32]⟩ : ByteArray) r149) fun s68 =>
   bS (cat s68 (⟨#[59, 10]⟩ : ByteArray)) fun s69 =>
   some s69
  else
  bS (cat r149 (⟨#[59, 10]⟩ : ByteArray)) fun s70 =>
  some s70
 else
 if a0_65 = 2 then
  bS (cat (⟨#[108, 101, 116, 32]⟩ : ByteArray) a0_66) fun s71 =>
  bS (cat s71 (⟨#[32, 61, 32]⟩ : ByteArray)) fun s72 =>
  bS (cat s72 (⟨#[]⟩ : ByteArray)) fun s73 =>
  bS (cat s73 (⟨#[59, 10]⟩ : ByteArray)) fun s74 =>
  some s74
 else
 if a0_65 = 3 then
  bS (cat a0_66 (⟨#[32, 61, 32]⟩ : ByteArray)) fun s75 =>
  bS (cat s75 (⟨#[]⟩ : ByteArray)) fun s76 =>
  bS (cat s76 (⟨#[59, 10]⟩ : ByteArray)) fun s77 =>
  some s77
 else
 if a0_65 = 4 then
  bS (cat (⟨#[40]⟩ : ByteArray) (⟨#[]⟩ : ByteArray)) fun s78 =>
  bS (cat s78 (⟨#[41, 46]⟩ : ByteArray)) fun s79 =>
  bS (cat s79 a0_66) fun s80 =>
  bS (cat s80 (⟨#[32, 61, 32]⟩ : ByteArray)) fun s81 =>
  none
 else
 if a0_65 = 5 then
  bS (cat (⟨#[105, 102, 32, 40]⟩ : ByteArray) (⟨#[]⟩ : ByteArray)) fun s82 =>
  bS (cat s82 (⟨#[41, 32]⟩ : ByteArray)) fun s83 =>
  none
 else
 if a0_65 = 6 then
  bS (cat (⟨#[119, 104, 105, 108, 101, 32, 40]⟩ : ByteArray) (⟨#[]⟩ : ByteArray)) fun s84 =>
  bS (cat s84 (⟨#[41, 32]⟩ : ByteArray)) fun s85 =>
  none
 else
 if a0_65 = 7 then
  bS (cat (⟨#[114, 101, 116, 117, 114, 110, 32]⟩ : ByteArray) (⟨#[]⟩ : ByteArray)) fun s86 =>
  bS (cat s86 (⟨#[59, 10]⟩ : ByteArray)) fun s87 =>
  some s87
 else
 if a0_65 = 8 then
  bS (cat (⟨#[112, 114, 105, 110, 116, 32]⟩ : ByteArray) (⟨#[]⟩ : ByteArray)) fun s88 =>
  bS (cat s88 (⟨#[59, 10]⟩ : ByteArray)) fun s89 =>
  some s89
 else
 bS (cat (⟨#[]⟩ : ByteArray) (⟨#[59, 10]⟩ : ByteArray)) fun s90 =>
 some s90
theorem Ss_l13Stmt_ok (Rs_l13Stmt) (hRs_l13Stmt : zdb Rs_l13Stmt) (a0_65 : Int) (a0_66 : ByteArray) (a0_67 : Int) (a0_68 : List T_Node) (r_ : ByteArray) (h_ : Ss_l13Stmt Rs_l13Stmt a0_65 a0_66 a0_67 a0_68 = some r_) : ev EE (.call 16 [.ag [.sc (.int .i64 a0_65), .sc (.string a0_66), .sc (.int .i64 a0_67), .ls false (r_Node false a0_68)]] []) = some (zy a0_65 a0_66 a0_67 a0_68 r_) := by
 rw [zw]
 simp only [Ss_l13Stmt] at h_
 rcases bI h_ with ⟨h1_, h_⟩ | ⟨h1_, h_⟩
 ·have h1_s := h1_; try simp at h1_s
  obtain ⟨e13, h3_, h_⟩ := za h_
  obtain ⟨h3_a, h3_b, h3_c, h3_d⟩ := zj (o := false)  h3_
  try simp [-getElem?_pos] at h3_d
  try simp at h3_b; try simp at h3_c
  obtain ⟨r149, h7_, h_⟩ := za h_
  have h7_f := zgd Rs_l13Stmt hRs_l13Stmt e13.op_ e13.s_ e13.n_ e13.kids_ _ h7_
  try simp [zn] at h7_f
  rcases bI h_ with ⟨h8_, h_⟩ | ⟨h8_, h_⟩
  ·obtain ⟨s42, h9_, h_⟩ := zb h_
   obtain ⟨s43, h10_, h_⟩ := zb h_
   obtain ⟨s44, h11_, h_⟩ := zb h_
   obtain ⟨s45, h12_, h_⟩ := zb h_
   cases h_
   simp +decide [-getElem?_pos, zfy, h1_, h1_s, h3_a, h3_b, h3_c, h3_d, h7_f, eq_true h8_, h9_, h10_, h11_, h12_, zy]
  rcases bI h_ with ⟨h9_, h_⟩ | ⟨h9_, h_⟩
  ·obtain ⟨s46, h10_, h_⟩ := zb h_
   obtain ⟨s47, h11_, h_⟩ := zb h_
   obtain ⟨s48, h12_, h_⟩ := zb h_
   cases h_
   simp +decide [-getElem?_pos, zfy, h1_, h1_s, h3_a, h3_b, h3_c, h3_d, h7_f, h8_, eq_true h9_, h10_, h11_, h12_, zy]
  rcases bI h_ with ⟨h10_, h_⟩ | ⟨h10_, h_⟩
  ·obtain ⟨s49, h11_, h_⟩ := zb h_
   obtain ⟨s50, h12_, h_⟩ := zb h_
   obtain ⟨s51, h13_, h_⟩ := zb h_
   obtain ⟨s52, h14_, h_⟩ := zb h_
   obtain ⟨e26, h15_, h_⟩ := za h_
   obtain ⟨h15_a, h15_b, h15_c, h15_d⟩ := zj (o := false)  h15_
   try simp [-getElem?_pos] at h15_d
   try simp at h15_b; try simp at h15_c
   obtain ⟨r150, h19_, h_⟩ := za h_
   have h19_f := zgd Rs_l13Stmt hRs_l13Stmt e26.op_ e26.s_ e26.n_ e26.kids_ _ h19_
   try simp [zn] at h19_f
   obtain ⟨s53, h20_, h_⟩ := zb h_
   obtain ⟨s54, h21_, h_⟩ := zb h_
   cases h_
   simp +decide [-getElem?_pos, -Int.toNat_le, -Int.le_toNat, zfy, h1_, h1_s, h3_a, h3_b, h3_c, h3_d, h7_f, h8_, h9_, eq_true h10_, h11_, h12_, h13_, h14_, h15_a, h15_b, h15_c, h15_d, h19_f, h20_, h21_, zy]
  rcases bI h_ with ⟨h11_, h_⟩ | ⟨h11_, h_⟩
  ·obtain ⟨s55, h12_, h_⟩ := zb h_
   obtain ⟨s56, h13_, h_⟩ := zb h_
   obtain ⟨e27, h14_, h_⟩ := za h_
   obtain ⟨h14_a, h14_b, h14_c, h14_d⟩ := zj (o := false)  h14_
   try simp [-getElem?_pos] at h14_d
   try simp at h14_b; try simp at h14_c
   obtain ⟨r151, h18_, h_⟩ := za h_
   have h18_f := zcV Rs_l13Stmt hRs_l13Stmt e27.op_ e27.s_ e27.n_ e27.kids_ _ h18_
   try simp [zbv] at h18_f
   obtain ⟨s57, h19_, h_⟩ := zb h_
   rcases bI h_ with ⟨h20_, h_⟩ | ⟨h20_, h_⟩
   ·have h20_s := h20_; try simp at h20_s
    obtain ⟨s58, h22_, h_⟩ := zb h_
    obtain ⟨e28, h23_, h_⟩ := za h_
    obtain ⟨h23_a, h23_b, h23_c, h23_d⟩ := zj (o := false)  h23_
    try simp [-getElem?_pos] at h23_d
    try simp at h23_b; try simp at h23_c
    obtain ⟨r152, h27_, h_⟩ := za h_
    have h27_f := zcV Rs_l13Stmt hRs_l13Stmt e28.op_ e28.s_ e28.n_ e28.kids_ _ h27_
    try simp [zbv] at h27_f
    obtain ⟨s59, h28_, h_⟩ := zb h_
    obtain ⟨s60, h29_, h_⟩ := zb h_
    cases h_
    simp +decide [-getElem?_pos, zfy, h1_, h1_s, h3_a, h3_b, h3_c, h3_d, h7_f, h8_, h9_, h10_, eq_true h11_, h12_, h13_, h14_a, h14_b, h14_c, h14_d, h18_f, h19_, eq_true h20_, eq_true h20_s, h22_, h23_a, h23_b, h23_c, h23_d, h27_f, h28_, h29_, zy]
   have h20_s := h20_; try simp at h20_s
   obtain ⟨s61, h22_, h_⟩ := zb h_
   cases h_
   simp +decide [-getElem?_pos, zfy, h1_, h1_s, h3_a, h3_b, h3_c, h3_d, h7_f, h8_, h9_, h10_, eq_true h11_, h12_, h13_, h14_a, h14_b, h14_c, h14_d, h18_f, h19_, h20_, h20_s, h22_, zy]
  rcases bI h_ with ⟨h12_, h_⟩ | ⟨h12_, h_⟩
  ·obtain ⟨s62, h13_, h_⟩ := zb h_
   obtain ⟨s63, h14_, h_⟩ := zb h_
   obtain ⟨e29, h15_, h_⟩ := za h_
   obtain ⟨h15_a, h15_b, h15_c, h15_d⟩ := zj (o := false)  h15_
   try simp [-getElem?_pos] at h15_d
   try simp at h15_b; try simp at h15_c
   obtain ⟨r153, h19_, h_⟩ := za h_
   have h19_f := zcV Rs_l13Stmt hRs_l13Stmt e29.op_ e29.s_ e29.n_ e29.kids_ _ h19_
   try simp [zbv] at h19_f
   obtain ⟨s64, h20_, h_⟩ := zb h_
   obtain ⟨s65, h21_, h_⟩ := zb h_
   cases h_
   simp +decide [-getElem?_pos, -Int.toNat_le, -Int.le_toNat, zfy, h1_, h1_s, h3_a, h3_b, h3_c, h3_d, h7_f, h8_, h9_, h10_, h11_, eq_true h12_, h13_, h14_, h15_a, h15_b, h15_c, h15_d, h19_f, h20_, h21_, zy]
  rcases bI h_ with ⟨h13_, h_⟩ | ⟨h13_, h_⟩
  ·obtain ⟨s66, h14_, h_⟩ := zb h_
   obtain ⟨s67, h15_, h_⟩ := zb h_
   cases h_
   simp +decide [-getElem?_pos, -Int.toNat_le, -Int.le_toNat, zfy, h1_, h1_s, h3_a, h3_b, h3_c, h3_d, h7_f, h8_, h9_, h10_, h11_, h12_, eq_true h13_, h14_, h15_, zy]
  rcases bI h_ with ⟨h14_, h_⟩ | ⟨h14_, h_⟩
  ·obtain ⟨s68, h15_, h_⟩ := zb h_
   obtain ⟨s69, h16_, h_⟩ := zb h_
   cases h_
   simp +decide [-getElem?_pos, -Int.toNat_le, -Int.le_toNat, zfy, h1_, h1_s, h3_a, h3_b, h3_c, h3_d, h7_f, h8_, h9_, h10_, h11_, h12_, h13_, eq_true h14_, h15_, h16_, zy]
  obtain ⟨s70, h15_, h_⟩ := zb h_
  cases h_
  simp +decide [-getElem?_pos, -Int.toNat_le, -Int.le_toNat, zfy, h1_, h1_s, h3_a, h3_b, h3_c, h3_d, h7_f, h8_, h9_, h10_, h11_, h12_, h13_, h14_, h15_, zy]
 have h1_s := h1_; try simp at h1_s
 rcases bI h_ with ⟨h3_, h_⟩ | ⟨h3_, h_⟩
 ·obtain ⟨s71, h4_, h_⟩ := zb h_
  obtain ⟨s72, h5_, h_⟩ := zb h_
  obtain ⟨s73, h6_, h_⟩ := zb h_
  obtain ⟨s74, h7_, h_⟩ := zb h_
  cases h_
  simp +decide [-getElem?_pos, zfy, h1_, h1_s, eq_true h3_, h4_, h5_, h6_, h7_, zy]
 rcases bI h_ with ⟨h4_, h_⟩ | ⟨h4_, h_⟩
 ·obtain ⟨s75, h5_, h_⟩ := zb h_
  obtain ⟨s76, h6_, h_⟩ := zb h_
  obtain ⟨s77, h7_, h_⟩ := zb h_
  cases h_
  simp +decide [-getElem?_pos, zfy, h1_, h1_s, h3_, eq_true h4_, h5_, h6_, h7_, zy]
 rcases bI h_ with ⟨h5_, h_⟩ | ⟨h5_, h_⟩
 ·obtain ⟨s78, h6_, h_⟩ := zb h_
  obtain ⟨s79, h7_, h_⟩ := zb h_
  obtain ⟨s80, h8_, h_⟩ := zb h_
  obtain ⟨s81, h9_, h_⟩ := zb h_
  cases h_
 rcases bI h_ with ⟨h6_, h_⟩ | ⟨h6_, h_⟩
 ·obtain ⟨s82, h7_, h_⟩ := zb h_
  obtain ⟨s83, h8_, h_⟩ := zb h_
  cases h_
 rcases bI h_ with ⟨h7_, h_⟩ | ⟨h7_, h_⟩
 ·obtain ⟨s84, h8_, h_⟩ := zb h_
  obtain ⟨s85, h9_, h_⟩ := zb h_
  cases h_
 rcases bI h_ with ⟨h8_, h_⟩ | ⟨h8_, h_⟩
 ·obtain ⟨s86, h9_, h_⟩ := zb h_
  obtain ⟨s87, h10_, h_⟩ := zb h_
  cases h_
  simp +decide [-getElem?_pos, zfy, h1_, h1_s, h3_, h4_, h5_, h6_, h7_, eq_true h8_, h9_, h10_, zy]
 rcases bI h_ with ⟨h9_, h_⟩ | ⟨h9_, h_⟩
 ·obtain ⟨s88, h10_, h_⟩ := zb h_
  obtain ⟨s89, h11_, h_⟩ := zb h_
  cases h_
  simp +decide [-getElem?_pos, zfy, h1_, h1_s, h3_, h4_, h5_, h6_, h7_, h8_, eq_true h9_, h10_, h11_, zy]
 obtain ⟨s90, h10_, h_⟩ := zb h_
 cases h_
 simp +decide [-getElem?_pos, zfy, h1_, h1_s, h3_, h4_, h5_, h6_, h7_, h8_, h9_, h10_, zy]
end Go.Pv
