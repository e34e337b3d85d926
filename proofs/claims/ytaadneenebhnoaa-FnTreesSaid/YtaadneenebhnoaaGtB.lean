/- Proof: the functions as Lean functions, second part. No condition. -/
import Derived.Test.YtaadneenebhnoaaGtA
set_option autoImplicit true
set_option relaxedAutoImplicit true
set_option linter.unusedSimpArgs false
set_option linter.unusedVariables false
namespace Go.Pv
set_option maxRecDepth 100000
set_option maxHeartbeats 40000000
set_option linter.unusedSimpArgs false
set_option linter.unusedVariables false
/-- spec.l12Take -/
def Fs_l12Take (a1_10 : ByteArray) (x0_57 : List T_Token) (x0_58 : Int) (x0_59 : Int) : Option (Int × Int) :=
  bS (Fs_l12Sign a1_10 x0_57 x0_58 x0_59) fun r109 =>
  if r109 = true then
    bS (Fs_l12Next x0_57 x0_58 x0_59) fun r110 =>
    some (r110, x0_59)
  else
  bS (Fs_l12Bad x0_57 x0_58 x0_59) fun r111 =>
  some (x0_58, r111)
def Fs_l12Take_ans (a1_10 : ByteArray) (x0_57 : List T_Token) (x0_58 : Int) (x0_59 : Int) : (Int × Int) → Ans
  | (q60, q61) => .val (.tu []) [.b [.ls true (r_Token x0_57), .sc (.int .i64 q60), .sc (.int .i64 q61)]]
theorem Fs_l12Take_ok (a1_10 : ByteArray) (x0_57 : List T_Token) (x0_58 : Int) (x0_59 : Int) (r_ : (Int × Int)) (h_ : Fs_l12Take a1_10 x0_57 x0_58 x0_59 = some r_) : ev EE (.call 31 [.bx 0 0, .sc (.string a1_10)] [.b [.ls true (r_Token x0_57), .sc (.int .i64 x0_58), .sc (.int .i64 x0_59)]]) = some (Fs_l12Take_ans a1_10 x0_57 x0_58 x0_59 r_) := by
  rw [ev_eq]
  simp only [Fs_l12Take] at h_
  obtain ⟨r109, h1_, h_⟩ := bS_some h_
  have h1_f := Fs_l12Sign_ok a1_10 x0_57 x0_58 x0_59 _ h1_
  try simp [Fs_l12Sign_ans] at h1_f
  rcases bI h_ with ⟨h2_, h_⟩ | ⟨h2_, h_⟩
  · obtain ⟨r110, h3_, h_⟩ := bS_some h_
    have h3_f := Fs_l12Next_ok x0_57 x0_58 x0_59 _ h3_
    try simp [Fs_l12Next_ans] at h3_f
    cases h_
    simp +decide [-getElem?_pos, ir31, h1_f, h2_, h3_f, Fs_l12Take_ans]
  obtain ⟨r111, h3_, h_⟩ := bS_some h_
  have h3_f := Fs_l12Bad_ok x0_57 x0_58 x0_59 _ h3_
  try simp [Fs_l12Bad_ans] at h3_f
  cases h_
  simp +decide [-getElem?_pos, ir31, h1_f, h2_, h3_f, Fs_l12Take_ans]
def Fs_l12Unary_ans (x0_72 : List T_Token) (x0_73 : Int) (x0_74 : Int) : (Int × ByteArray × Int × (List T_Node) × (List T_Token) × Int × Int) → Ans
  | (q62, q63, q64, q65, q66, q67, q68) => .val (.ag [.sc (.int .i64 q62), .sc (.string q63), .sc (.int .i64 q64), .ls true (r_Node true q65)]) [.b [.ls true (r_Token q66), .sc (.int .i64 q67), .sc (.int .i64 q68)]]
def Ps_l12Unary (Rs_l12Unary : (List T_Token) → Int → Int → Option (Int × ByteArray × Int × (List T_Node) × (List T_Token) × Int × Int)) : Prop := ∀ (x0_72 : List T_Token) (x0_73 : Int) (x0_74 : Int) (r_ : (Int × ByteArray × Int × (List T_Node) × (List T_Token) × Int × Int)), Rs_l12Unary x0_72 x0_73 x0_74 = some r_ → ev EE (.call 49 [.bx 0 0] [.b [.ls true (r_Token x0_72), .sc (.int .i64 x0_73), .sc (.int .i64 x0_74)]]) = some (Fs_l12Unary_ans x0_72 x0_73 x0_74 r_)
/-- spec.l12Node -/
def Fs_l12Node (a0_19 : Int) (a1_12 : List T_Node) : Option (Int × ByteArray × Int × (List T_Node)) :=
  some (a0_19, (⟨#[]⟩ : ByteArray), 0, a1_12)
def Fs_l12Node_ans (a0_19 : Int) (a1_12 : List T_Node) : (Int × ByteArray × Int × (List T_Node)) → Ans
  | (q69, q70, q71, q72) => .val (.ag [.sc (.int .i64 q69), .sc (.string q70), .sc (.int .i64 q71), .ls true (r_Node true q72)]) []
theorem Fs_l12Node_ok (a0_19 : Int) (a1_12 : List T_Node) (r_ : (Int × ByteArray × Int × (List T_Node))) (h_ : Fs_l12Node a0_19 a1_12 = some r_) : ev EE (.call 36 [.sc (.int .i64 a0_19), .ls true (r_Node true a1_12)] []) = some (Fs_l12Node_ans a0_19 a1_12 r_) := by
  rw [ev_eq]
  simp only [Fs_l12Node] at h_
  cases h_
  simp +decide [-getElem?_pos, ir36, Fs_l12Node_ans]
/-- spec.l12Words -/
def Fs_l12Words (x0_78 : List T_Token) (x0_79 : Int) (x0_80 : Int) : Option Int :=
  bS (Fs_l12Is (⟨#[116, 114, 117, 101]⟩ : ByteArray) x0_78 x0_79 x0_80) fun r131 =>
  if r131 = true then
    some 12
  else
  bS (Fs_l12Is (⟨#[102, 97, 108, 115, 101]⟩ : ByteArray) x0_78 x0_79 x0_80) fun r132 =>
  if r132 = true then
    some 13
  else
  bS (Fs_l12Is (⟨#[110, 117, 108, 108]⟩ : ByteArray) x0_78 x0_79 x0_80) fun r133 =>
  if r133 = true then
    some 14
  else
  bS (Fs_l12Is (⟨#[117, 110, 100, 101, 102, 105, 110, 101, 100]⟩ : ByteArray) x0_78 x0_79 x0_80) fun r134 =>
  if r134 = true then
    some 15
  else
    some 0
def Fs_l12Words_ans (x0_78 : List T_Token) (x0_79 : Int) (x0_80 : Int) : Int → Ans
  | q73 => .val (.sc (.int .i64 q73)) [.b [.ls true (r_Token x0_78), .sc (.int .i64 x0_79), .sc (.int .i64 x0_80)]]
theorem Fs_l12Words_ok (x0_78 : List T_Token) (x0_79 : Int) (x0_80 : Int) (r_ : Int) (h_ : Fs_l12Words x0_78 x0_79 x0_80 = some r_) : ev EE (.call 51 [.bx 0 0] [.b [.ls true (r_Token x0_78), .sc (.int .i64 x0_79), .sc (.int .i64 x0_80)]]) = some (Fs_l12Words_ans x0_78 x0_79 x0_80 r_) := by
  rw [ev_eq]
  simp only [Fs_l12Words] at h_
  obtain ⟨r131, h1_, h_⟩ := bS_some h_
  have h1_f := Fs_l12Is_ok (⟨#[116, 114, 117, 101]⟩ : ByteArray) x0_78 x0_79 x0_80 _ h1_
  try simp [Fs_l12Is_ans] at h1_f
  rcases bI h_ with ⟨h2_, h_⟩ | ⟨h2_, h_⟩
  · cases h_
    simp +decide [-getElem?_pos, ir51, h1_f, h2_, Fs_l12Words_ans]
  obtain ⟨r132, h3_, h_⟩ := bS_some h_
  have h3_f := Fs_l12Is_ok (⟨#[102, 97, 108, 115, 101]⟩ : ByteArray) x0_78 x0_79 x0_80 _ h3_
  try simp [Fs_l12Is_ans] at h3_f
  rcases bI h_ with ⟨h4_, h_⟩ | ⟨h4_, h_⟩
  · cases h_
    simp +decide [-getElem?_pos, ir51, h1_f, h2_, h3_f, h4_, Fs_l12Words_ans]
  obtain ⟨r133, h5_, h_⟩ := bS_some h_
  have h5_f := Fs_l12Is_ok (⟨#[110, 117, 108, 108]⟩ : ByteArray) x0_78 x0_79 x0_80 _ h5_
  try simp [Fs_l12Is_ans] at h5_f
  rcases bI h_ with ⟨h6_, h_⟩ | ⟨h6_, h_⟩
  · cases h_
    simp +decide [-getElem?_pos, ir51, h1_f, h2_, h3_f, h4_, h5_f, h6_, Fs_l12Words_ans]
  obtain ⟨r134, h7_, h_⟩ := bS_some h_
  have h7_f := Fs_l12Is_ok (⟨#[117, 110, 100, 101, 102, 105, 110, 101, 100]⟩ : ByteArray) x0_78 x0_79 x0_80 _ h7_
  try simp [Fs_l12Is_ans] at h7_f
  rcases bI h_ with ⟨h8_, h_⟩ | ⟨h8_, h_⟩
  · cases h_
    simp +decide [-getElem?_pos, ir51, h1_f, h2_, h3_f, h4_, h5_f, h6_, h7_f, h8_, Fs_l12Words_ans]
  cases h_
  simp +decide [-getElem?_pos, ir51, h1_f, h2_, h3_f, h4_, h5_f, h6_, h7_f, h8_, Fs_l12Words_ans]
def Fs_l12Expr_ans (x0_63 : List T_Token) (x0_64 : Int) (x0_65 : Int) : (Int × ByteArray × Int × (List T_Node) × (List T_Token) × Int × Int) → Ans
  | (q74, q75, q76, q77, q78, q79, q80) => .val (.ag [.sc (.int .i64 q74), .sc (.string q75), .sc (.int .i64 q76), .ls true (r_Node true q77)]) [.b [.ls true (r_Token q78), .sc (.int .i64 q79), .sc (.int .i64 q80)]]
def Ps_l12Expr (Rs_l12Expr : (List T_Token) → Int → Int → Option (Int × ByteArray × Int × (List T_Node) × (List T_Token) × Int × Int)) : Prop := ∀ (x0_63 : List T_Token) (x0_64 : Int) (x0_65 : Int) (r_ : (Int × ByteArray × Int × (List T_Node) × (List T_Token) × Int × Int)), Rs_l12Expr x0_63 x0_64 x0_65 = some r_ → ev EE (.call 32 [.bx 0 0] [.b [.ls true (r_Token x0_63), .sc (.int .i64 x0_64), .sc (.int .i64 x0_65)]]) = some (Fs_l12Expr_ans x0_63 x0_64 x0_65 r_)
def Ls_l12Object_0 (Rs_l12Expr : (List T_Token) → Int → Int → Option (Int × ByteArray × Int × (List T_Node) × (List T_Token) × Int × Int)) : Nat → (List T_Token) → Int → Int → Int → ByteArray → Int → (List T_Node) → Int → ByteArray → Int → (List T_Node) → Option ((List T_Token) × Int × Int × (List T_Node))
  | 0, _, _, _, _, _, _, _, _, _, _, _ => none
  | n_ + 1, x0_84, x0_85, x0_86, x1_4, x1_5, x1_6, x1_7, x2_5, x2_6, x2_7, x2_8 =>
  if x0_86 < 0 then
    bS (Fs_l12Sign (⟨#[125]⟩ : ByteArray) x0_84 x0_85 x0_86) fun r160 =>
    if r160 = true then
      some (x0_84, x0_85, x0_86, x2_8)
    else
    if 0 < (x2_8.length : Int) then
      bS (Fs_l12Take (⟨#[44]⟩ : ByteArray) x0_84 x0_85 x0_86) fun (r161, r162) =>
      bS (Fs_l12Name false x0_84 r161 r162) fun (r163, r164, r165) =>
      bS (Fs_l12Take (⟨#[58]⟩ : ByteArray) x0_84 r164 r165) fun (r166, r167) =>
      bS (Rs_l12Expr x0_84 r166 r167) fun (r168, r169, r170, r171, r172, r173, r174) =>
      if lim (x2_8.length + 1) 56 = true then
      Ls_l12Object_0 Rs_l12Expr n_ r172 r173 r174 x1_4 x1_5 x1_6 x1_7 x2_5 x2_6 x2_7 (x2_8 ++ ([(⟨26, r163, 0, [(⟨r168, r169, r170, r171⟩ : T_Node)]⟩ : T_Node)]))
      else none
    else
    bS (Fs_l12Name false x0_84 x0_85 x0_86) fun (r175, r176, r177) =>
    bS (Fs_l12Take (⟨#[58]⟩ : ByteArray) x0_84 r176 r177) fun (r178, r179) =>
    bS (Rs_l12Expr x0_84 r178 r179) fun (r180, r181, r182, r183, r184, r185, r186) =>
    if lim (x2_8.length + 1) 56 = true then
    Ls_l12Object_0 Rs_l12Expr n_ r184 r185 r186 x1_4 x1_5 x1_6 x1_7 x2_5 x2_6 x2_7 (x2_8 ++ ([(⟨26, r175, 0, [(⟨r180, r181, r182, r183⟩ : T_Node)]⟩ : T_Node)]))
    else none
  else
    some (x0_84, x0_85, x0_86, x2_8)
def Ls_l12Object_0_ans (x0_84 : List T_Token) (x0_85 : Int) (x0_86 : Int) (x1_4 : Int) (x1_5 : ByteArray) (x1_6 : Int) (x1_7 : List T_Node) (x2_5 : Int) (x2_6 : ByteArray) (x2_7 : Int) (x2_8 : List T_Node) : ((List T_Token) × Int × Int × (List T_Node)) → Ans
  | (x0_87, x0_88, x0_89, x2_9) => .out (.exit 0) { np := 1, tm := [(0, .bx 0 0), (2, .bx 1 0), (3, .bx 2 0)], ar := [(0, .a false (r_Token x0_87)), (1, .a false (r_Node true x1_7)), (2, .a false (r_Node true x2_9))], bx := [(0, .b [.rf 0 0 x0_87.length, .sc (.int .i64 x0_88), .sc (.int .i64 x0_89)]), (1, .b [.sc (.int .i64 x1_4), .sc (.string x1_5), .sc (.int .i64 x1_6), .rf 1 0 x1_7.length]), (2, .b [.sc (.int .i64 x2_5), .sc (.string x2_6), .sc (.int .i64 x2_7), .rf 2 0 x2_9.length])] }
theorem Ls_l12Object_0_ok (Rs_l12Expr) (hRs_l12Expr : Ps_l12Expr Rs_l12Expr) : ∀ (n_ : Nat) (x0_84 : List T_Token) (x0_85 : Int) (x0_86 : Int) (x1_4 : Int) (x1_5 : ByteArray) (x1_6 : Int) (x1_7 : List T_Node) (x2_5 : Int) (x2_6 : ByteArray) (x2_7 : Int) (x2_8 : List T_Node) (r_ : ((List T_Token) × Int × Int × (List T_Node))), Ls_l12Object_0 Rs_l12Expr n_ x0_84 x0_85 x0_86 x1_4 x1_5 x1_6 x1_7 x2_5 x2_6 x2_7 x2_8 = some r_ → ev EE (.loop lp52_0 [0, 2, 3] [0, 2, 3] { np := 1, tm := [(0, .bx 0 0), (2, .bx 1 0), (3, .bx 2 0)], ar := [(0, .a false (r_Token x0_84)), (1, .a false (r_Node true x1_7)), (2, .a false (r_Node true x2_8))], bx := [(0, .b [.rf 0 0 x0_84.length, .sc (.int .i64 x0_85), .sc (.int .i64 x0_86)]), (1, .b [.sc (.int .i64 x1_4), .sc (.string x1_5), .sc (.int .i64 x1_6), .rf 1 0 x1_7.length]), (2, .b [.sc (.int .i64 x2_5), .sc (.string x2_6), .sc (.int .i64 x2_7), .rf 2 0 x2_8.length])] }) = some (Ls_l12Object_0_ans x0_84 x0_85 x0_86 x1_4 x1_5 x1_6 x1_7 x2_5 x2_6 x2_7 x2_8 r_) := by
  intro n_
  induction n_ with
  | zero => intro x0_84 x0_85 x0_86 x1_4 x1_5 x1_6 x1_7 x2_5 x2_6 x2_7 x2_8 r_ h_; simp only [Ls_l12Object_0] at h_; cases h_
  | succ n_ ih_ =>
    intro x0_84 x0_85 x0_86 x1_4 x1_5 x1_6 x1_7 x2_5 x2_6 x2_7 x2_8 r_ h_
    rw [ev_loop EE lp52_0.eq_1]
    simp only [Ls_l12Object_0] at h_
    rcases bI h_ with ⟨h1_, h_⟩ | ⟨h1_, h_⟩
    · obtain ⟨r160, h2_, h_⟩ := bS_some h_
      have h2_f := Fs_l12Sign_ok (⟨#[125]⟩ : ByteArray) x0_84 x0_85 x0_86 _ h2_
      try simp [Fs_l12Sign_ans] at h2_f
      rcases bI h_ with ⟨h3_, h_⟩ | ⟨h3_, h_⟩
      · cases h_
        simp +decide [-getElem?_pos, h1_, h2_f, h3_, Ls_l12Object_0_ans]
      rcases bI h_ with ⟨h4_, h_⟩ | ⟨h4_, h_⟩
      · have h4_s := h4_; try simp at h4_s
        obtain ⟨⟨r161, r162⟩, h6_, h_⟩ := bS_some h_
        try dsimp only at h_
        have h6_f := Fs_l12Take_ok (⟨#[44]⟩ : ByteArray) x0_84 x0_85 x0_86 _ h6_
        try simp [Fs_l12Take_ans] at h6_f
        obtain ⟨⟨r163, r164, r165⟩, h7_, h_⟩ := bS_some h_
        try dsimp only at h_
        have h7_f := Fs_l12Name_ok false x0_84 r161 r162 _ h7_
        try simp [Fs_l12Name_ans] at h7_f
        obtain ⟨⟨r166, r167⟩, h8_, h_⟩ := bS_some h_
        try dsimp only at h_
        have h8_f := Fs_l12Take_ok (⟨#[58]⟩ : ByteArray) x0_84 r164 r165 _ h8_
        try simp [Fs_l12Take_ans] at h8_f
        obtain ⟨⟨r168, r169, r170, r171, r172, r173, r174⟩, h9_, h_⟩ := bS_some h_
        try dsimp only at h_
        have h9_f := hRs_l12Expr x0_84 r166 r167 _ h9_
        try simp [Fs_l12Expr_ans] at h9_f
        obtain ⟨h10_, h_⟩ := bP h_
        have q_ := ih_ r172 r173 r174 x1_4 x1_5 x1_6 x1_7 x2_5 x2_6 x2_7 (x2_8 ++ ([(⟨26, r163, 0, [(⟨r168, r169, r170, r171⟩ : T_Node)]⟩ : T_Node)])) _ h_
        rcases r_ with ⟨x0_87, x0_88, x0_89, x2_9⟩
        all_goals (try simp [Ls_l12Object_0_ans] at q_)
        all_goals simp +decide [-getElem?_pos, h1_, h2_f, h3_, h4_, h4_s, h6_f, h7_f, h8_f, h9_f, h10_, q_, Ls_l12Object_0_ans]
      have h4_s := h4_; try simp at h4_s
      obtain ⟨⟨r175, r176, r177⟩, h6_, h_⟩ := bS_some h_
      try dsimp only at h_
      have h6_f := Fs_l12Name_ok false x0_84 x0_85 x0_86 _ h6_
      try simp [Fs_l12Name_ans, h4_s] at h6_f
      obtain ⟨⟨r178, r179⟩, h7_, h_⟩ := bS_some h_
      try dsimp only at h_
      have h7_f := Fs_l12Take_ok (⟨#[58]⟩ : ByteArray) x0_84 r176 r177 _ h7_
      try simp [Fs_l12Take_ans, h4_s] at h7_f
      obtain ⟨⟨r180, r181, r182, r183, r184, r185, r186⟩, h8_, h_⟩ := bS_some h_
      try dsimp only at h_
      have h8_f := hRs_l12Expr x0_84 r178 r179 _ h8_
      try simp [Fs_l12Expr_ans, h4_s] at h8_f
      obtain ⟨h9_, h_⟩ := bP h_
      have q_ := ih_ r184 r185 r186 x1_4 x1_5 x1_6 x1_7 x2_5 x2_6 x2_7 (x2_8 ++ ([(⟨26, r175, 0, [(⟨r180, r181, r182, r183⟩ : T_Node)]⟩ : T_Node)])) _ h_
      rcases r_ with ⟨x0_87, x0_88, x0_89, x2_9⟩
      all_goals (try simp [Ls_l12Object_0_ans, h4_s] at q_)
      all_goals simp +decide [-getElem?_pos, h1_, h2_f, h3_, h4_, h4_s, h6_f, h7_f, h8_f, h9_, q_, Ls_l12Object_0_ans]
    cases h_
    simp +decide [-getElem?_pos, h1_, Ls_l12Object_0_ans]
/-- spec.l12Object -/
def Fs_l12Object (Rs_l12Expr : (List T_Token) → Int → Int → Option (Int × ByteArray × Int × (List T_Node) × (List T_Token) × Int × Int)) (x0_81 : List T_Token) (x0_82 : Int) (x0_83 : Int) : Option (Int × ByteArray × Int × (List T_Node) × (List T_Token) × Int × Int) :=
  bS (Fs_l12Take (⟨#[123]⟩ : ByteArray) x0_81 x0_82 x0_83) fun (r158, r159) =>
  bS (Ls_l12Object_0 Rs_l12Expr FU x0_81 r158 r159 0 (⟨#[]⟩ : ByteArray) 0 [] 25 (⟨#[]⟩ : ByteArray) 0 []) fun (r187, r188, r189, r190) =>
  bS (Fs_l12Take (⟨#[125]⟩ : ByteArray) r187 r188 r189) fun (r191, r192) =>
  some (25, (⟨#[]⟩ : ByteArray), 0, r190, r187, r191, r192)
def Fs_l12Object_ans (x0_81 : List T_Token) (x0_82 : Int) (x0_83 : Int) : (Int × ByteArray × Int × (List T_Node) × (List T_Token) × Int × Int) → Ans
  | (q81, q82, q83, q84, q85, q86, q87) => .val (.ag [.sc (.int .i64 q81), .sc (.string q82), .sc (.int .i64 q83), .ls true (r_Node true q84)]) [.b [.ls true (r_Token q85), .sc (.int .i64 q86), .sc (.int .i64 q87)]]
theorem Fs_l12Object_ok (Rs_l12Expr) (hRs_l12Expr : Ps_l12Expr Rs_l12Expr) (x0_81 : List T_Token) (x0_82 : Int) (x0_83 : Int) (r_ : (Int × ByteArray × Int × (List T_Node) × (List T_Token) × Int × Int)) (h_ : Fs_l12Object Rs_l12Expr x0_81 x0_82 x0_83 = some r_) : ev EE (.call 52 [.bx 0 0] [.b [.ls true (r_Token x0_81), .sc (.int .i64 x0_82), .sc (.int .i64 x0_83)]]) = some (Fs_l12Object_ans x0_81 x0_82 x0_83 r_) := by
  rw [ev_eq]
  simp only [Fs_l12Object] at h_
  obtain ⟨⟨r158, r159⟩, h1_, h_⟩ := bS_some h_
  try dsimp only at h_
  have h1_f := Fs_l12Take_ok (⟨#[123]⟩ : ByteArray) x0_81 x0_82 x0_83 _ h1_
  try simp [Fs_l12Take_ans] at h1_f
  obtain ⟨⟨r187, r188, r189, r190⟩, h2_, h_⟩ := bS_some h_
  try dsimp only at h_
  have h2_f := Ls_l12Object_0_ok Rs_l12Expr hRs_l12Expr FU x0_81 r158 r159 0 (⟨#[]⟩ : ByteArray) 0 [] 25 (⟨#[]⟩ : ByteArray) 0 [] _ h2_
  try simp [Ls_l12Object_0_ans] at h2_f
  obtain ⟨⟨r191, r192⟩, h3_, h_⟩ := bS_some h_
  try dsimp only at h_
  have h3_f := Fs_l12Take_ok (⟨#[125]⟩ : ByteArray) r187 r188 r189 _ h3_
  try simp [Fs_l12Take_ans] at h3_f
  cases h_
  simp +decide [-getElem?_pos, ir52, h1_f, h2_f, h3_f, Fs_l12Object_ans]
def Ls_l12Function_0 : Nat → ByteArray → Int → (List T_Token) → Int → Int → Int → ByteArray → Int → (List T_Node) → Option (ByteArray × Int × Int)
  | 0, _, _, _, _, _, _, _, _, _ => none
  | n_ + 1, t3_6, t4_9, x0_93, x0_94, x0_95, x1_8, x1_9, x1_10, x1_11 =>
  if x0_95 < 0 then
    bS (Fs_l12Sign (⟨#[41]⟩ : ByteArray) x0_93 x0_94 x0_95) fun r204 =>
    if r204 = true then
      some (t3_6, x0_94, x0_95)
    else
    if 0 < t4_9 then
      bS (Fs_l12Take (⟨#[44]⟩ : ByteArray) x0_93 x0_94 x0_95) fun (r205, r206) =>
      bS (cat t3_6 (⟨#[32]⟩ : ByteArray)) fun s4 =>
      bS (Fs_l12Name false x0_93 r205 r206) fun (r207, r208, r209) =>
      bS (cat s4 r207) fun s5 =>
      Ls_l12Function_0 n_ s5 (IntKind.i64.wrap (t4_9 + 1)) x0_93 r208 r209 x1_8 x1_9 x1_10 x1_11
    else
    bS (Fs_l12Name false x0_93 x0_94 x0_95) fun (r210, r211, r212) =>
    bS (cat t3_6 r210) fun s6 =>
    Ls_l12Function_0 n_ s6 (IntKind.i64.wrap (t4_9 + 1)) x0_93 r211 r212 x1_8 x1_9 x1_10 x1_11
  else
    some (t3_6, x0_94, x0_95)
def Ls_l12Function_0_ans (t3_6 : ByteArray) (t4_9 : Int) (x0_93 : List T_Token) (x0_94 : Int) (x0_95 : Int) (x1_8 : Int) (x1_9 : ByteArray) (x1_10 : Int) (x1_11 : List T_Node) : (ByteArray × Int × Int) → Ans
  | (t3_7, x0_96, x0_97) => .out (.exit 0) { np := 1, tm := [(0, .bx 0 0), (2, .bx 1 0), (3, .sc (.string t3_7))], ar := [(0, .a false (r_Token x0_93)), (1, .a false (r_Node true x1_11))], bx := [(0, .b [.rf 0 0 x0_93.length, .sc (.int .i64 x0_96), .sc (.int .i64 x0_97)]), (1, .b [.sc (.int .i64 x1_8), .sc (.string x1_9), .sc (.int .i64 x1_10), .rf 1 0 x1_11.length])] }
theorem Ls_l12Function_0_ok : ∀ (n_ : Nat) (t3_6 : ByteArray) (t4_9 : Int) (x0_93 : List T_Token) (x0_94 : Int) (x0_95 : Int) (x1_8 : Int) (x1_9 : ByteArray) (x1_10 : Int) (x1_11 : List T_Node) (r_ : (ByteArray × Int × Int)), Ls_l12Function_0 n_ t3_6 t4_9 x0_93 x0_94 x0_95 x1_8 x1_9 x1_10 x1_11 = some r_ → ev EE (.loop lp53_0 [0, 2, 3, 4] [0, 2, 3] { np := 1, tm := [(0, .bx 0 0), (2, .bx 1 0), (3, .sc (.string t3_6)), (4, .sc (.int .i64 t4_9))], ar := [(0, .a false (r_Token x0_93)), (1, .a false (r_Node true x1_11))], bx := [(0, .b [.rf 0 0 x0_93.length, .sc (.int .i64 x0_94), .sc (.int .i64 x0_95)]), (1, .b [.sc (.int .i64 x1_8), .sc (.string x1_9), .sc (.int .i64 x1_10), .rf 1 0 x1_11.length])] }) = some (Ls_l12Function_0_ans t3_6 t4_9 x0_93 x0_94 x0_95 x1_8 x1_9 x1_10 x1_11 r_) := by
  intro n_
  induction n_ with
  | zero => intro t3_6 t4_9 x0_93 x0_94 x0_95 x1_8 x1_9 x1_10 x1_11 r_ h_; simp only [Ls_l12Function_0] at h_; cases h_
  | succ n_ ih_ =>
    intro t3_6 t4_9 x0_93 x0_94 x0_95 x1_8 x1_9 x1_10 x1_11 r_ h_
    rw [ev_loop EE lp53_0.eq_1]
    simp only [Ls_l12Function_0] at h_
    rcases bI h_ with ⟨h1_, h_⟩ | ⟨h1_, h_⟩
    · obtain ⟨r204, h2_, h_⟩ := bS_some h_
      have h2_f := Fs_l12Sign_ok (⟨#[41]⟩ : ByteArray) x0_93 x0_94 x0_95 _ h2_
      try simp [Fs_l12Sign_ans] at h2_f
      rcases bI h_ with ⟨h3_, h_⟩ | ⟨h3_, h_⟩
      · cases h_
        simp +decide [-getElem?_pos, h1_, h2_f, h3_, Ls_l12Function_0_ans]
      rcases bI h_ with ⟨h4_, h_⟩ | ⟨h4_, h_⟩
      · obtain ⟨⟨r205, r206⟩, h5_, h_⟩ := bS_some h_
        try dsimp only at h_
        have h5_f := Fs_l12Take_ok (⟨#[44]⟩ : ByteArray) x0_93 x0_94 x0_95 _ h5_
        try simp [Fs_l12Take_ans] at h5_f
        obtain ⟨s4, h6_, h_⟩ := cat_some h_
        obtain ⟨⟨r207, r208, r209⟩, h7_, h_⟩ := bS_some h_
        try dsimp only at h_
        have h7_f := Fs_l12Name_ok false x0_93 r205 r206 _ h7_
        try simp [Fs_l12Name_ans] at h7_f
        obtain ⟨s5, h8_, h_⟩ := cat_some h_
        have q_ := ih_ s5 (IntKind.i64.wrap (t4_9 + 1)) x0_93 r208 r209 x1_8 x1_9 x1_10 x1_11 _ h_
        rcases r_ with ⟨t3_7, x0_96, x0_97⟩
        all_goals (try simp [Ls_l12Function_0_ans] at q_)
        all_goals simp +decide [-getElem?_pos, h1_, h2_f, h3_, h4_, h5_f, h6_, h7_f, h8_, q_, Ls_l12Function_0_ans]
      obtain ⟨⟨r210, r211, r212⟩, h5_, h_⟩ := bS_some h_
      try dsimp only at h_
      have h5_f := Fs_l12Name_ok false x0_93 x0_94 x0_95 _ h5_
      try simp [Fs_l12Name_ans] at h5_f
      obtain ⟨s6, h6_, h_⟩ := cat_some h_
      have q_ := ih_ s6 (IntKind.i64.wrap (t4_9 + 1)) x0_93 r211 r212 x1_8 x1_9 x1_10 x1_11 _ h_
      rcases r_ with ⟨t3_7, x0_96, x0_97⟩
      all_goals (try simp [Ls_l12Function_0_ans] at q_)
      all_goals simp +decide [-getElem?_pos, h1_, h2_f, h3_, h4_, h5_f, h6_, q_, Ls_l12Function_0_ans]
    cases h_
    simp +decide [-getElem?_pos, h1_, Ls_l12Function_0_ans]
def Fs_l12Stmt_ans (x0_38 : List T_Token) (x0_39 : Int) (x0_40 : Int) : (Int × ByteArray × Int × (List T_Node) × (List T_Token) × Int × Int) → Ans
  | (q88, q89, q90, q91, q92, q93, q94) => .val (.ag [.sc (.int .i64 q88), .sc (.string q89), .sc (.int .i64 q90), .ls true (r_Node true q91)]) [.b [.ls true (r_Token q92), .sc (.int .i64 q93), .sc (.int .i64 q94)]]
def Ps_l12Stmt (Rs_l12Stmt : (List T_Token) → Int → Int → Option (Int × ByteArray × Int × (List T_Node) × (List T_Token) × Int × Int)) : Prop := ∀ (x0_38 : List T_Token) (x0_39 : Int) (x0_40 : Int) (r_ : (Int × ByteArray × Int × (List T_Node) × (List T_Token) × Int × Int)), Rs_l12Stmt x0_38 x0_39 x0_40 = some r_ → ev EE (.call 25 [.bx 0 0] [.b [.ls true (r_Token x0_38), .sc (.int .i64 x0_39), .sc (.int .i64 x0_40)]]) = some (Fs_l12Stmt_ans x0_38 x0_39 x0_40 r_)
def Ls_l12Block_0 (Rs_l12Stmt : (List T_Token) → Int → Int → Option (Int × ByteArray × Int × (List T_Node) × (List T_Token) × Int × Int)) : Nat → (List T_Token) → Int → Int → Int → ByteArray → Int → (List T_Node) → Int → ByteArray → Int → (List T_Node) → Option ((List T_Token) × Int × Int × (List T_Node))
  | 0, _, _, _, _, _, _, _, _, _, _, _ => none
  | n_ + 1, x0_101, x0_102, x0_103, x1_12, x1_13, x1_14, x1_15, x2_10, x2_11, x2_12, x2_13 =>
  if x0_103 < 0 then
    bS (Fs_l12Sign (⟨#[125]⟩ : ByteArray) x0_101 x0_102 x0_103) fun r220 =>
    if r220 = true then
      some (x0_101, x0_102, x0_103, x2_13)
    else
    bS (Rs_l12Stmt x0_101 x0_102 x0_103) fun (r221, r222, r223, r224, r225, r226, r227) =>
    if lim (x2_13.length + 1) 56 = true then
    Ls_l12Block_0 Rs_l12Stmt n_ r225 r226 r227 x1_12 x1_13 x1_14 x1_15 x2_10 x2_11 x2_12 (x2_13 ++ [(⟨r221, r222, r223, r224⟩ : T_Node)])
    else none
  else
    some (x0_101, x0_102, x0_103, x2_13)
def Ls_l12Block_0_ans (x0_101 : List T_Token) (x0_102 : Int) (x0_103 : Int) (x1_12 : Int) (x1_13 : ByteArray) (x1_14 : Int) (x1_15 : List T_Node) (x2_10 : Int) (x2_11 : ByteArray) (x2_12 : Int) (x2_13 : List T_Node) : ((List T_Token) × Int × Int × (List T_Node)) → Ans
  | (x0_104, x0_105, x0_106, x2_14) => .out (.exit 0) { np := 1, tm := [(0, .bx 0 0), (2, .bx 1 0), (3, .bx 2 0)], ar := [(0, .a false (r_Token x0_104)), (1, .a false (r_Node true x1_15)), (2, .a false (r_Node true x2_14))], bx := [(0, .b [.rf 0 0 x0_104.length, .sc (.int .i64 x0_105), .sc (.int .i64 x0_106)]), (1, .b [.sc (.int .i64 x1_12), .sc (.string x1_13), .sc (.int .i64 x1_14), .rf 1 0 x1_15.length]), (2, .b [.sc (.int .i64 x2_10), .sc (.string x2_11), .sc (.int .i64 x2_12), .rf 2 0 x2_14.length])] }
theorem Ls_l12Block_0_ok (Rs_l12Stmt) (hRs_l12Stmt : Ps_l12Stmt Rs_l12Stmt) : ∀ (n_ : Nat) (x0_101 : List T_Token) (x0_102 : Int) (x0_103 : Int) (x1_12 : Int) (x1_13 : ByteArray) (x1_14 : Int) (x1_15 : List T_Node) (x2_10 : Int) (x2_11 : ByteArray) (x2_12 : Int) (x2_13 : List T_Node) (r_ : ((List T_Token) × Int × Int × (List T_Node))), Ls_l12Block_0 Rs_l12Stmt n_ x0_101 x0_102 x0_103 x1_12 x1_13 x1_14 x1_15 x2_10 x2_11 x2_12 x2_13 = some r_ → ev EE (.loop lp46_0 [0, 2, 3] [0, 2, 3] { np := 1, tm := [(0, .bx 0 0), (2, .bx 1 0), (3, .bx 2 0)], ar := [(0, .a false (r_Token x0_101)), (1, .a false (r_Node true x1_15)), (2, .a false (r_Node true x2_13))], bx := [(0, .b [.rf 0 0 x0_101.length, .sc (.int .i64 x0_102), .sc (.int .i64 x0_103)]), (1, .b [.sc (.int .i64 x1_12), .sc (.string x1_13), .sc (.int .i64 x1_14), .rf 1 0 x1_15.length]), (2, .b [.sc (.int .i64 x2_10), .sc (.string x2_11), .sc (.int .i64 x2_12), .rf 2 0 x2_13.length])] }) = some (Ls_l12Block_0_ans x0_101 x0_102 x0_103 x1_12 x1_13 x1_14 x1_15 x2_10 x2_11 x2_12 x2_13 r_) := by
  intro n_
  induction n_ with
  | zero => intro x0_101 x0_102 x0_103 x1_12 x1_13 x1_14 x1_15 x2_10 x2_11 x2_12 x2_13 r_ h_; simp only [Ls_l12Block_0] at h_; cases h_
  | succ n_ ih_ =>
    intro x0_101 x0_102 x0_103 x1_12 x1_13 x1_14 x1_15 x2_10 x2_11 x2_12 x2_13 r_ h_
    rw [ev_loop EE lp46_0.eq_1]
    simp only [Ls_l12Block_0] at h_
    rcases bI h_ with ⟨h1_, h_⟩ | ⟨h1_, h_⟩
    · obtain ⟨r220, h2_, h_⟩ := bS_some h_
      have h2_f := Fs_l12Sign_ok (⟨#[125]⟩ : ByteArray) x0_101 x0_102 x0_103 _ h2_
      try simp [Fs_l12Sign_ans] at h2_f
      rcases bI h_ with ⟨h3_, h_⟩ | ⟨h3_, h_⟩
      · cases h_
        simp +decide [-getElem?_pos, h1_, h2_f, h3_, Ls_l12Block_0_ans]
      obtain ⟨⟨r221, r222, r223, r224, r225, r226, r227⟩, h4_, h_⟩ := bS_some h_
      try dsimp only at h_
      have h4_f := hRs_l12Stmt x0_101 x0_102 x0_103 _ h4_
      try simp [Fs_l12Stmt_ans] at h4_f
      obtain ⟨h5_, h_⟩ := bP h_
      have q_ := ih_ r225 r226 r227 x1_12 x1_13 x1_14 x1_15 x2_10 x2_11 x2_12 (x2_13 ++ [(⟨r221, r222, r223, r224⟩ : T_Node)]) _ h_
      rcases r_ with ⟨x0_104, x0_105, x0_106, x2_14⟩
      all_goals (try simp [Ls_l12Block_0_ans] at q_)
      all_goals simp +decide [-getElem?_pos, h1_, h2_f, h3_, h4_f, h5_, q_, Ls_l12Block_0_ans]
    cases h_
    simp +decide [-getElem?_pos, h1_, Ls_l12Block_0_ans]
/-- spec.l12Block -/
def Fs_l12Block (Rs_l12Stmt : (List T_Token) → Int → Int → Option (Int × ByteArray × Int × (List T_Node) × (List T_Token) × Int × Int)) (x0_98 : List T_Token) (x0_99 : Int) (x0_100 : Int) : Option (Int × ByteArray × Int × (List T_Node) × (List T_Token) × Int × Int) :=
  bS (Fs_l12Take (⟨#[123]⟩ : ByteArray) x0_98 x0_99 x0_100) fun (r218, r219) =>
  bS (Ls_l12Block_0 Rs_l12Stmt FU x0_98 r218 r219 0 (⟨#[]⟩ : ByteArray) 0 [] 1 (⟨#[]⟩ : ByteArray) 0 []) fun (r228, r229, r230, r231) =>
  bS (Fs_l12Take (⟨#[125]⟩ : ByteArray) r228 r229 r230) fun (r232, r233) =>
  some (1, (⟨#[]⟩ : ByteArray), 0, r231, r228, r232, r233)
def Fs_l12Block_ans (x0_98 : List T_Token) (x0_99 : Int) (x0_100 : Int) : (Int × ByteArray × Int × (List T_Node) × (List T_Token) × Int × Int) → Ans
  | (q95, q96, q97, q98, q99, q100, q101) => .val (.ag [.sc (.int .i64 q95), .sc (.string q96), .sc (.int .i64 q97), .ls true (r_Node true q98)]) [.b [.ls true (r_Token q99), .sc (.int .i64 q100), .sc (.int .i64 q101)]]
theorem Fs_l12Block_ok (Rs_l12Stmt) (hRs_l12Stmt : Ps_l12Stmt Rs_l12Stmt) (x0_98 : List T_Token) (x0_99 : Int) (x0_100 : Int) (r_ : (Int × ByteArray × Int × (List T_Node) × (List T_Token) × Int × Int)) (h_ : Fs_l12Block Rs_l12Stmt x0_98 x0_99 x0_100 = some r_) : ev EE (.call 46 [.bx 0 0] [.b [.ls true (r_Token x0_98), .sc (.int .i64 x0_99), .sc (.int .i64 x0_100)]]) = some (Fs_l12Block_ans x0_98 x0_99 x0_100 r_) := by
  rw [ev_eq]
  simp only [Fs_l12Block] at h_
  obtain ⟨⟨r218, r219⟩, h1_, h_⟩ := bS_some h_
  try dsimp only at h_
  have h1_f := Fs_l12Take_ok (⟨#[123]⟩ : ByteArray) x0_98 x0_99 x0_100 _ h1_
  try simp [Fs_l12Take_ans] at h1_f
  obtain ⟨⟨r228, r229, r230, r231⟩, h2_, h_⟩ := bS_some h_
  try dsimp only at h_
  have h2_f := Ls_l12Block_0_ok Rs_l12Stmt hRs_l12Stmt FU x0_98 r218 r219 0 (⟨#[]⟩ : ByteArray) 0 [] 1 (⟨#[]⟩ : ByteArray) 0 [] _ h2_
  try simp [Ls_l12Block_0_ans] at h2_f
  obtain ⟨⟨r232, r233⟩, h3_, h_⟩ := bS_some h_
  try dsimp only at h_
  have h3_f := Fs_l12Take_ok (⟨#[125]⟩ : ByteArray) r228 r229 r230 _ h3_
  try simp [Fs_l12Take_ans] at h3_f
  cases h_
  simp +decide [-getElem?_pos, ir46, h1_f, h2_f, h3_f, Fs_l12Block_ans]
/-- spec.l12Function -/
def Fs_l12Function (Rs_l12Stmt : (List T_Token) → Int → Int → Option (Int × ByteArray × Int × (List T_Node) × (List T_Token) × Int × Int)) (x0_90 : List T_Token) (x0_91 : Int) (x0_92 : Int) : Option (Int × ByteArray × Int × (List T_Node) × (List T_Token) × Int × Int) :=
  bS (Fs_l12Next x0_90 x0_91 x0_92) fun r201 =>
  bS (Fs_l12Take (⟨#[40]⟩ : ByteArray) x0_90 r201 x0_92) fun (r202, r203) =>
  bS (Ls_l12Function_0 FU (⟨#[]⟩ : ByteArray) 0 x0_90 r202 r203 0 (⟨#[]⟩ : ByteArray) 0 []) fun (r213, r214, r215) =>
  bS (Fs_l12Take (⟨#[41]⟩ : ByteArray) x0_90 r214 r215) fun (r216, r217) =>
  bS (Fs_l12Block Rs_l12Stmt x0_90 r216 r217) fun (r234, r235, r236, r237, r238, r239, r240) =>
  some (27, r213, 0, [(⟨r234, r235, r236, r237⟩ : T_Node)], r238, r239, r240)
def Fs_l12Function_ans (x0_90 : List T_Token) (x0_91 : Int) (x0_92 : Int) : (Int × ByteArray × Int × (List T_Node) × (List T_Token) × Int × Int) → Ans
  | (q102, q103, q104, q105, q106, q107, q108) => .val (.ag [.sc (.int .i64 q102), .sc (.string q103), .sc (.int .i64 q104), .ls true (r_Node true q105)]) [.b [.ls true (r_Token q106), .sc (.int .i64 q107), .sc (.int .i64 q108)]]
theorem Fs_l12Function_ok (Rs_l12Stmt) (hRs_l12Stmt : Ps_l12Stmt Rs_l12Stmt) (x0_90 : List T_Token) (x0_91 : Int) (x0_92 : Int) (r_ : (Int × ByteArray × Int × (List T_Node) × (List T_Token) × Int × Int)) (h_ : Fs_l12Function Rs_l12Stmt x0_90 x0_91 x0_92 = some r_) : ev EE (.call 53 [.bx 0 0] [.b [.ls true (r_Token x0_90), .sc (.int .i64 x0_91), .sc (.int .i64 x0_92)]]) = some (Fs_l12Function_ans x0_90 x0_91 x0_92 r_) := by
  rw [ev_eq]
  simp only [Fs_l12Function] at h_
  obtain ⟨r201, h1_, h_⟩ := bS_some h_
  have h1_f := Fs_l12Next_ok x0_90 x0_91 x0_92 _ h1_
  try simp [Fs_l12Next_ans] at h1_f
  obtain ⟨⟨r202, r203⟩, h2_, h_⟩ := bS_some h_
  try dsimp only at h_
  have h2_f := Fs_l12Take_ok (⟨#[40]⟩ : ByteArray) x0_90 r201 x0_92 _ h2_
  try simp [Fs_l12Take_ans] at h2_f
  obtain ⟨⟨r213, r214, r215⟩, h3_, h_⟩ := bS_some h_
  try dsimp only at h_
  have h3_f := Ls_l12Function_0_ok FU (⟨#[]⟩ : ByteArray) 0 x0_90 r202 r203 0 (⟨#[]⟩ : ByteArray) 0 [] _ h3_
  try simp [Ls_l12Function_0_ans] at h3_f
  obtain ⟨⟨r216, r217⟩, h4_, h_⟩ := bS_some h_
  try dsimp only at h_
  have h4_f := Fs_l12Take_ok (⟨#[41]⟩ : ByteArray) x0_90 r214 r215 _ h4_
  try simp [Fs_l12Take_ans] at h4_f
  obtain ⟨⟨r234, r235, r236, r237, r238, r239, r240⟩, h5_, h_⟩ := bS_some h_
  try dsimp only at h_
  have h5_f := Fs_l12Block_ok Rs_l12Stmt hRs_l12Stmt x0_90 r216 r217 _ h5_
  try simp [Fs_l12Block_ans] at h5_f
  cases h_
  simp +decide [-getElem?_pos, ir53, h1_f, h2_f, h3_f, h4_f, h5_f, Fs_l12Function_ans]
/-- spec.l12Atom -/
def Fs_l12Atom (Rs_l12Stmt : (List T_Token) → Int → Int → Option (Int × ByteArray × Int × (List T_Node) × (List T_Token) × Int × Int)) (Rs_l12Expr : (List T_Token) → Int → Int → Option (Int × ByteArray × Int × (List T_Node) × (List T_Token) × Int × Int)) (x0_75 : List T_Token) (x0_76 : Int) (x0_77 : Int) : Option (Int × ByteArray × Int × (List T_Node) × (List T_Token) × Int × Int) :=
  bS (Fs_l12Now x0_75 x0_76 x0_77) fun (r127, r128, r129, r130) =>
  bS (Fs_l12Words x0_75 x0_76 x0_77) fun r135 =>
  if r135 = 0 then
    if x0_77 < 0 then
      if r127 = 2 then
        bS (Fs_l12Next x0_75 x0_76 x0_77) fun r136 =>
        some (10, (⟨#[]⟩ : ByteArray), r129, [], x0_75, r136, x0_77)
      else
      if r127 = 3 then
        bS (Fs_l12Next x0_75 x0_76 x0_77) fun r137 =>
        some (11, r128, 0, [], x0_75, r137, x0_77)
      else
      bS (Fs_l12Sign (⟨#[45]⟩ : ByteArray) x0_75 x0_76 x0_77) fun r138 =>
      if r138 = true then
        bS (Fs_l12Next x0_75 x0_76 x0_77) fun r139 =>
        bS (Fs_l12Now x0_75 r139 x0_77) fun (r140, r141, r142, r143) =>
        if r140 = 2 then
          bS (Fs_l12Next x0_75 r139 x0_77) fun r144 =>
          some (10, (⟨#[]⟩ : ByteArray), IntKind.i64.wrap (0 - r142), [], x0_75, r144, x0_77)
        else
        bS (Fs_l12Bad x0_75 r139 x0_77) fun r145 =>
        some (0, (⟨#[]⟩ : ByteArray), 0, [], x0_75, r139, r145)
      else
      bS (Fs_l12Sign (⟨#[40]⟩ : ByteArray) x0_75 x0_76 x0_77) fun r146 =>
      if r146 = true then
        bS (Fs_l12Next x0_75 x0_76 x0_77) fun r147 =>
        bS (Rs_l12Expr x0_75 r147 x0_77) fun (r148, r149, r150, r151, r152, r153, r154) =>
        bS (Fs_l12Take (⟨#[41]⟩ : ByteArray) r152 r153 r154) fun (r155, r156) =>
        some (r148, r149, r150, r151, r152, r155, r156)
      else
      bS (Fs_l12Sign (⟨#[123]⟩ : ByteArray) x0_75 x0_76 x0_77) fun r157 =>
      if r157 = true then
        bS (Fs_l12Object Rs_l12Expr x0_75 x0_76 x0_77) fun (r193, r194, r195, r196, r197, r198, r199) =>
        some (r193, r194, r195, r196, r197, r198, r199)
      else
      bS (Fs_l12Is (⟨#[102, 117, 110, 99, 116, 105, 111, 110]⟩ : ByteArray) x0_75 x0_76 x0_77) fun r200 =>
      if r200 = true then
        bS (Fs_l12Function Rs_l12Stmt x0_75 x0_76 x0_77) fun (r241, r242, r243, r244, r245, r246, r247) =>
        some (r241, r242, r243, r244, r245, r246, r247)
      else
      bS (Fs_l12Name false x0_75 x0_76 x0_77) fun (r248, r249, r250) =>
      some (16, r248, 0, [], x0_75, r249, r250)
    else
    bS (Fs_l12Sign (⟨#[45]⟩ : ByteArray) x0_75 x0_76 x0_77) fun r251 =>
    if r251 = true then
      bS (Fs_l12Next x0_75 x0_76 x0_77) fun r252 =>
      bS (Fs_l12Now x0_75 r252 x0_77) fun (r253, r254, r255, r256) =>
      if r253 = 2 then
        bS (Fs_l12Next x0_75 r252 x0_77) fun r257 =>
        some (10, (⟨#[]⟩ : ByteArray), IntKind.i64.wrap (0 - r255), [], x0_75, r257, x0_77)
      else
      bS (Fs_l12Bad x0_75 r252 x0_77) fun r258 =>
      some (0, (⟨#[]⟩ : ByteArray), 0, [], x0_75, r252, r258)
    else
    bS (Fs_l12Sign (⟨#[40]⟩ : ByteArray) x0_75 x0_76 x0_77) fun r259 =>
    if r259 = true then
      bS (Fs_l12Next x0_75 x0_76 x0_77) fun r260 =>
      bS (Rs_l12Expr x0_75 r260 x0_77) fun (r261, r262, r263, r264, r265, r266, r267) =>
      bS (Fs_l12Take (⟨#[41]⟩ : ByteArray) r265 r266 r267) fun (r268, r269) =>
      some (r261, r262, r263, r264, r265, r268, r269)
    else
    bS (Fs_l12Sign (⟨#[123]⟩ : ByteArray) x0_75 x0_76 x0_77) fun r270 =>
    if r270 = true then
      bS (Fs_l12Object Rs_l12Expr x0_75 x0_76 x0_77) fun (r271, r272, r273, r274, r275, r276, r277) =>
      some (r271, r272, r273, r274, r275, r276, r277)
    else
    bS (Fs_l12Is (⟨#[102, 117, 110, 99, 116, 105, 111, 110]⟩ : ByteArray) x0_75 x0_76 x0_77) fun r278 =>
    if r278 = true then
      bS (Fs_l12Function Rs_l12Stmt x0_75 x0_76 x0_77) fun (r279, r280, r281, r282, r283, r284, r285) =>
      some (r279, r280, r281, r282, r283, r284, r285)
    else
    bS (Fs_l12Name false x0_75 x0_76 x0_77) fun (r286, r287, r288) =>
    some (16, r286, 0, [], x0_75, r287, r288)
  else
  bS (Fs_l12Next x0_75 x0_76 x0_77) fun r289 =>
  some (r135, (⟨#[]⟩ : ByteArray), 0, [], x0_75, r289, x0_77)
def Fs_l12Atom_ans (x0_75 : List T_Token) (x0_76 : Int) (x0_77 : Int) : (Int × ByteArray × Int × (List T_Node) × (List T_Token) × Int × Int) → Ans
  | (q109, q110, q111, q112, q113, q114, q115) => .val (.ag [.sc (.int .i64 q109), .sc (.string q110), .sc (.int .i64 q111), .ls true (r_Node true q112)]) [.b [.ls true (r_Token q113), .sc (.int .i64 q114), .sc (.int .i64 q115)]]
theorem Fs_l12Atom_ok (Rs_l12Stmt) (hRs_l12Stmt : Ps_l12Stmt Rs_l12Stmt) (Rs_l12Expr) (hRs_l12Expr : Ps_l12Expr Rs_l12Expr) (x0_75 : List T_Token) (x0_76 : Int) (x0_77 : Int) (r_ : (Int × ByteArray × Int × (List T_Node) × (List T_Token) × Int × Int)) (h_ : Fs_l12Atom Rs_l12Stmt Rs_l12Expr x0_75 x0_76 x0_77 = some r_) : ev EE (.call 50 [.bx 0 0] [.b [.ls true (r_Token x0_75), .sc (.int .i64 x0_76), .sc (.int .i64 x0_77)]]) = some (Fs_l12Atom_ans x0_75 x0_76 x0_77 r_) := by
  rw [ev_eq]
  simp only [Fs_l12Atom] at h_
  obtain ⟨⟨r127, r128, r129, r130⟩, h1_, h_⟩ := bS_some h_
  try dsimp only at h_
  have h1_f := Fs_l12Now_ok x0_75 x0_76 x0_77 _ h1_
  try simp [Fs_l12Now_ans] at h1_f
  obtain ⟨r135, h2_, h_⟩ := bS_some h_
  have h2_f := Fs_l12Words_ok x0_75 x0_76 x0_77 _ h2_
  try simp [Fs_l12Words_ans] at h2_f
  rcases bI h_ with ⟨h3_, h_⟩ | ⟨h3_, h_⟩
  · rcases bI h_ with ⟨h4_, h_⟩ | ⟨h4_, h_⟩
    · rcases bI h_ with ⟨h5_, h_⟩ | ⟨h5_, h_⟩
      · obtain ⟨r136, h6_, h_⟩ := bS_some h_
        have h6_f := Fs_l12Next_ok x0_75 x0_76 x0_77 _ h6_
        try simp [Fs_l12Next_ans] at h6_f
        cases h_
        simp +decide [-getElem?_pos, ir50, h1_f, h2_f, eq_true h3_, h4_, eq_true h5_, h6_f, Fs_l12Atom_ans]
      rcases bI h_ with ⟨h6_, h_⟩ | ⟨h6_, h_⟩
      · obtain ⟨r137, h7_, h_⟩ := bS_some h_
        have h7_f := Fs_l12Next_ok x0_75 x0_76 x0_77 _ h7_
        try simp [Fs_l12Next_ans] at h7_f
        cases h_
        simp +decide [-getElem?_pos, ir50, h1_f, h2_f, eq_true h3_, h4_, h5_, eq_true h6_, h7_f, Fs_l12Atom_ans]
      obtain ⟨r138, h7_, h_⟩ := bS_some h_
      have h7_f := Fs_l12Sign_ok (⟨#[45]⟩ : ByteArray) x0_75 x0_76 x0_77 _ h7_
      try simp [Fs_l12Sign_ans] at h7_f
      rcases bI h_ with ⟨h8_, h_⟩ | ⟨h8_, h_⟩
      · obtain ⟨r139, h9_, h_⟩ := bS_some h_
        have h9_f := Fs_l12Next_ok x0_75 x0_76 x0_77 _ h9_
        try simp [Fs_l12Next_ans] at h9_f
        obtain ⟨⟨r140, r141, r142, r143⟩, h10_, h_⟩ := bS_some h_
        try dsimp only at h_
        have h10_f := Fs_l12Now_ok x0_75 r139 x0_77 _ h10_
        try simp [Fs_l12Now_ans] at h10_f
        rcases bI h_ with ⟨h11_, h_⟩ | ⟨h11_, h_⟩
        · obtain ⟨r144, h12_, h_⟩ := bS_some h_
          have h12_f := Fs_l12Next_ok x0_75 r139 x0_77 _ h12_
          try simp [Fs_l12Next_ans] at h12_f
          cases h_
          simp +decide [-getElem?_pos, ir50, h1_f, h2_f, eq_true h3_, h4_, h5_, h6_, h7_f, h8_, h9_f, h10_f, eq_true h11_, h12_f, Fs_l12Atom_ans]
        obtain ⟨r145, h12_, h_⟩ := bS_some h_
        have h12_f := Fs_l12Bad_ok x0_75 r139 x0_77 _ h12_
        try simp [Fs_l12Bad_ans] at h12_f
        cases h_
        simp +decide [-getElem?_pos, ir50, h1_f, h2_f, eq_true h3_, h4_, h5_, h6_, h7_f, h8_, h9_f, h10_f, h11_, h12_f, Fs_l12Atom_ans]
      obtain ⟨r146, h9_, h_⟩ := bS_some h_
      have h9_f := Fs_l12Sign_ok (⟨#[40]⟩ : ByteArray) x0_75 x0_76 x0_77 _ h9_
      try simp [Fs_l12Sign_ans] at h9_f
      rcases bI h_ with ⟨h10_, h_⟩ | ⟨h10_, h_⟩
      · obtain ⟨r147, h11_, h_⟩ := bS_some h_
        have h11_f := Fs_l12Next_ok x0_75 x0_76 x0_77 _ h11_
        try simp [Fs_l12Next_ans] at h11_f
        obtain ⟨⟨r148, r149, r150, r151, r152, r153, r154⟩, h12_, h_⟩ := bS_some h_
        try dsimp only at h_
        have h12_f := hRs_l12Expr x0_75 r147 x0_77 _ h12_
        try simp [Fs_l12Expr_ans] at h12_f
        obtain ⟨⟨r155, r156⟩, h13_, h_⟩ := bS_some h_
        try dsimp only at h_
        have h13_f := Fs_l12Take_ok (⟨#[41]⟩ : ByteArray) r152 r153 r154 _ h13_
        try simp [Fs_l12Take_ans] at h13_f
        cases h_
        simp +decide [-getElem?_pos, ir50, h1_f, h2_f, eq_true h3_, h4_, h5_, h6_, h7_f, h8_, h9_f, h10_, h11_f, h12_f, h13_f, Fs_l12Atom_ans]
      obtain ⟨r157, h11_, h_⟩ := bS_some h_
      have h11_f := Fs_l12Sign_ok (⟨#[123]⟩ : ByteArray) x0_75 x0_76 x0_77 _ h11_
      try simp [Fs_l12Sign_ans] at h11_f
      rcases bI h_ with ⟨h12_, h_⟩ | ⟨h12_, h_⟩
      · obtain ⟨⟨r193, r194, r195, r196, r197, r198, r199⟩, h13_, h_⟩ := bS_some h_
        try dsimp only at h_
        have h13_f := Fs_l12Object_ok Rs_l12Expr hRs_l12Expr x0_75 x0_76 x0_77 _ h13_
        try simp [Fs_l12Object_ans] at h13_f
        cases h_
        simp +decide [-getElem?_pos, ir50, h1_f, h2_f, eq_true h3_, h4_, h5_, h6_, h7_f, h8_, h9_f, h10_, h11_f, h12_, h13_f, Fs_l12Atom_ans]
      obtain ⟨r200, h13_, h_⟩ := bS_some h_
      have h13_f := Fs_l12Is_ok (⟨#[102, 117, 110, 99, 116, 105, 111, 110]⟩ : ByteArray) x0_75 x0_76 x0_77 _ h13_
      try simp [Fs_l12Is_ans] at h13_f
      rcases bI h_ with ⟨h14_, h_⟩ | ⟨h14_, h_⟩
      · obtain ⟨⟨r241, r242, r243, r244, r245, r246, r247⟩, h15_, h_⟩ := bS_some h_
        try dsimp only at h_
        have h15_f := Fs_l12Function_ok Rs_l12Stmt hRs_l12Stmt x0_75 x0_76 x0_77 _ h15_
        try simp [Fs_l12Function_ans] at h15_f
        cases h_
        simp +decide [-getElem?_pos, ir50, h1_f, h2_f, eq_true h3_, h4_, h5_, h6_, h7_f, h8_, h9_f, h10_, h11_f, h12_, h13_f, h14_, h15_f, Fs_l12Atom_ans]
      obtain ⟨⟨r248, r249, r250⟩, h15_, h_⟩ := bS_some h_
      try dsimp only at h_
      have h15_f := Fs_l12Name_ok false x0_75 x0_76 x0_77 _ h15_
      try simp [Fs_l12Name_ans] at h15_f
      cases h_
      simp +decide [-getElem?_pos, ir50, h1_f, h2_f, eq_true h3_, h4_, h5_, h6_, h7_f, h8_, h9_f, h10_, h11_f, h12_, h13_f, h14_, h15_f, Fs_l12Atom_ans]
    obtain ⟨r251, h5_, h_⟩ := bS_some h_
    have h5_f := Fs_l12Sign_ok (⟨#[45]⟩ : ByteArray) x0_75 x0_76 x0_77 _ h5_
    try simp [Fs_l12Sign_ans] at h5_f
    rcases bI h_ with ⟨h6_, h_⟩ | ⟨h6_, h_⟩
    · obtain ⟨r252, h7_, h_⟩ := bS_some h_
      have h7_f := Fs_l12Next_ok x0_75 x0_76 x0_77 _ h7_
      try simp [Fs_l12Next_ans] at h7_f
      obtain ⟨⟨r253, r254, r255, r256⟩, h8_, h_⟩ := bS_some h_
      try dsimp only at h_
      have h8_f := Fs_l12Now_ok x0_75 r252 x0_77 _ h8_
      try simp [Fs_l12Now_ans] at h8_f
      rcases bI h_ with ⟨h9_, h_⟩ | ⟨h9_, h_⟩
      · obtain ⟨r257, h10_, h_⟩ := bS_some h_
        have h10_f := Fs_l12Next_ok x0_75 r252 x0_77 _ h10_
        try simp [Fs_l12Next_ans] at h10_f
        cases h_
        simp +decide [-getElem?_pos, ir50, h1_f, h2_f, eq_true h3_, h4_, h5_f, h6_, h7_f, h8_f, eq_true h9_, h10_f, Fs_l12Atom_ans]
      obtain ⟨r258, h10_, h_⟩ := bS_some h_
      have h10_f := Fs_l12Bad_ok x0_75 r252 x0_77 _ h10_
      try simp [Fs_l12Bad_ans] at h10_f
      cases h_
      simp +decide [-getElem?_pos, ir50, h1_f, h2_f, eq_true h3_, h4_, h5_f, h6_, h7_f, h8_f, h9_, h10_f, Fs_l12Atom_ans]
    obtain ⟨r259, h7_, h_⟩ := bS_some h_
    have h7_f := Fs_l12Sign_ok (⟨#[40]⟩ : ByteArray) x0_75 x0_76 x0_77 _ h7_
    try simp [Fs_l12Sign_ans] at h7_f
    rcases bI h_ with ⟨h8_, h_⟩ | ⟨h8_, h_⟩
    · obtain ⟨r260, h9_, h_⟩ := bS_some h_
      have h9_f := Fs_l12Next_ok x0_75 x0_76 x0_77 _ h9_
      try simp [Fs_l12Next_ans] at h9_f
      obtain ⟨⟨r261, r262, r263, r264, r265, r266, r267⟩, h10_, h_⟩ := bS_some h_
      try dsimp only at h_
      have h10_f := hRs_l12Expr x0_75 r260 x0_77 _ h10_
      try simp [Fs_l12Expr_ans] at h10_f
      obtain ⟨⟨r268, r269⟩, h11_, h_⟩ := bS_some h_
      try dsimp only at h_
      have h11_f := Fs_l12Take_ok (⟨#[41]⟩ : ByteArray) r265 r266 r267 _ h11_
      try simp [Fs_l12Take_ans] at h11_f
      cases h_
      simp +decide [-getElem?_pos, ir50, h1_f, h2_f, eq_true h3_, h4_, h5_f, h6_, h7_f, h8_, h9_f, h10_f, h11_f, Fs_l12Atom_ans]
    obtain ⟨r270, h9_, h_⟩ := bS_some h_
    have h9_f := Fs_l12Sign_ok (⟨#[123]⟩ : ByteArray) x0_75 x0_76 x0_77 _ h9_
    try simp [Fs_l12Sign_ans] at h9_f
    rcases bI h_ with ⟨h10_, h_⟩ | ⟨h10_, h_⟩
    · obtain ⟨⟨r271, r272, r273, r274, r275, r276, r277⟩, h11_, h_⟩ := bS_some h_
      try dsimp only at h_
      have h11_f := Fs_l12Object_ok Rs_l12Expr hRs_l12Expr x0_75 x0_76 x0_77 _ h11_
      try simp [Fs_l12Object_ans] at h11_f
      cases h_
      simp +decide [-getElem?_pos, ir50, h1_f, h2_f, eq_true h3_, h4_, h5_f, h6_, h7_f, h8_, h9_f, h10_, h11_f, Fs_l12Atom_ans]
    obtain ⟨r278, h11_, h_⟩ := bS_some h_
    have h11_f := Fs_l12Is_ok (⟨#[102, 117, 110, 99, 116, 105, 111, 110]⟩ : ByteArray) x0_75 x0_76 x0_77 _ h11_
    try simp [Fs_l12Is_ans] at h11_f
    rcases bI h_ with ⟨h12_, h_⟩ | ⟨h12_, h_⟩
    · obtain ⟨⟨r279, r280, r281, r282, r283, r284, r285⟩, h13_, h_⟩ := bS_some h_
      try dsimp only at h_
      have h13_f := Fs_l12Function_ok Rs_l12Stmt hRs_l12Stmt x0_75 x0_76 x0_77 _ h13_
      try simp [Fs_l12Function_ans] at h13_f
      cases h_
      simp +decide [-getElem?_pos, ir50, h1_f, h2_f, eq_true h3_, h4_, h5_f, h6_, h7_f, h8_, h9_f, h10_, h11_f, h12_, h13_f, Fs_l12Atom_ans]
    obtain ⟨⟨r286, r287, r288⟩, h13_, h_⟩ := bS_some h_
    try dsimp only at h_
    have h13_f := Fs_l12Name_ok false x0_75 x0_76 x0_77 _ h13_
    try simp [Fs_l12Name_ans] at h13_f
    cases h_
    simp +decide [-getElem?_pos, ir50, h1_f, h2_f, eq_true h3_, h4_, h5_f, h6_, h7_f, h8_, h9_f, h10_, h11_f, h12_, h13_f, Fs_l12Atom_ans]
  obtain ⟨r289, h4_, h_⟩ := bS_some h_
  have h4_f := Fs_l12Next_ok x0_75 x0_76 x0_77 _ h4_
  try simp [Fs_l12Next_ans] at h4_f
  cases h_
  simp +decide [-getElem?_pos, ir50, h1_f, h2_f, h3_, h4_f, Fs_l12Atom_ans]
end Go.Pv

namespace Go.Pv
set_option maxRecDepth 100000
set_option maxHeartbeats 40000000
set_option linter.unusedSimpArgs false
set_option linter.unusedVariables false
def Ls_l12Unary_0 (Rs_l12Expr : (List T_Token) → Int → Int → Option (Int × ByteArray × Int × (List T_Node) × (List T_Token) × Int × Int)) : Nat → (List T_Node) → (List T_Token) → Int → Int → Int → ByteArray → Int → (List T_Node) → Int → ByteArray → Int → Nat → Option ((List T_Node) × (List T_Token) × Int × Int)
  | 0, _, _, _, _, _, _, _, _, _, _, _, _ => none
  | n_ + 1, t6_2, x0_110, x0_111, x0_112, x1_20, x1_21, x1_22, x1_23, x2_19, x2_20, x2_21, x2_n1 =>
  if x0_112 < 0 then
    bS (Fs_l12Sign (⟨#[41]⟩ : ByteArray) x0_110 x0_111 x0_112) fun r304 =>
    if r304 = true then
      some (t6_2, x0_110, x0_111, x0_112)
    else
    if 1 < (t6_2.length : Int) then
      bS (Fs_l12Take (⟨#[44]⟩ : ByteArray) x0_110 x0_111 x0_112) fun (r305, r306) =>
      bS (Rs_l12Expr x0_110 r305 r306) fun (r307, r308, r309, r310, r311, r312, r313) =>
      if lim (t6_2.length + 1) 56 = true then
      Ls_l12Unary_0 Rs_l12Expr n_ (t6_2 ++ [(⟨r307, r308, r309, r310⟩ : T_Node)]) r311 r312 r313 x1_20 x1_21 x1_22 x1_23 x2_19 x2_20 x2_21 x2_n1
      else none
    else
    bS (Rs_l12Expr x0_110 x0_111 x0_112) fun (r314, r315, r316, r317, r318, r319, r320) =>
    if lim (t6_2.length + 1) 56 = true then
    Ls_l12Unary_0 Rs_l12Expr n_ (t6_2 ++ [(⟨r314, r315, r316, r317⟩ : T_Node)]) r318 r319 r320 x1_20 x1_21 x1_22 x1_23 x2_19 x2_20 x2_21 x2_n1
    else none
  else
    some (t6_2, x0_110, x0_111, x0_112)
def Ls_l12Unary_0_ans (t6_2 : List T_Node) (x0_110 : List T_Token) (x0_111 : Int) (x0_112 : Int) (x1_20 : Int) (x1_21 : ByteArray) (x1_22 : Int) (x1_23 : List T_Node) (x2_19 : Int) (x2_20 : ByteArray) (x2_21 : Int) (x2_n1 : Nat) : ((List T_Node) × (List T_Token) × Int × Int) → Ans
  | (t6_3, x0_113, x0_114, x0_115) => .out (.exit 2) { np := 1, tm := [(0, .bx 0 0), (2, .bx 1 0), (4, .bx 2 0), (6, .rf 0 0 t6_3.length)], ar := [(0, .a false (r_Node true t6_3)), (1, .a false (r_Token x0_113)), (2, .a false (r_Node true x1_23)), (3, .dead)], bx := [(0, .b [.rf 1 0 x0_113.length, .sc (.int .i64 x0_114), .sc (.int .i64 x0_115)]), (1, .b [.sc (.int .i64 x1_20), .sc (.string x1_21), .sc (.int .i64 x1_22), .rf 2 0 x1_23.length]), (2, .b [.sc (.int .i64 x2_19), .sc (.string x2_20), .sc (.int .i64 x2_21), .rf 3 0 x2_n1])] }
theorem Ls_l12Unary_0_ok (Rs_l12Expr) (hRs_l12Expr : Ps_l12Expr Rs_l12Expr) : ∀ (n_ : Nat) (t6_2 : List T_Node) (x0_110 : List T_Token) (x0_111 : Int) (x0_112 : Int) (x1_20 : Int) (x1_21 : ByteArray) (x1_22 : Int) (x1_23 : List T_Node) (x2_19 : Int) (x2_20 : ByteArray) (x2_21 : Int) (x2_n1 : Nat) (r_ : ((List T_Node) × (List T_Token) × Int × Int)), Ls_l12Unary_0 Rs_l12Expr n_ t6_2 x0_110 x0_111 x0_112 x1_20 x1_21 x1_22 x1_23 x2_19 x2_20 x2_21 x2_n1 = some r_ → ev EE (.loop lp49_0 [0, 2, 4, 6] [0, 2, 4, 6] { np := 1, tm := [(0, .bx 0 0), (2, .bx 1 0), (4, .bx 2 0), (6, .rf 0 0 t6_2.length)], ar := [(0, .a false (r_Node true t6_2)), (1, .a false (r_Token x0_110)), (2, .a false (r_Node true x1_23)), (3, .dead)], bx := [(0, .b [.rf 1 0 x0_110.length, .sc (.int .i64 x0_111), .sc (.int .i64 x0_112)]), (1, .b [.sc (.int .i64 x1_20), .sc (.string x1_21), .sc (.int .i64 x1_22), .rf 2 0 x1_23.length]), (2, .b [.sc (.int .i64 x2_19), .sc (.string x2_20), .sc (.int .i64 x2_21), .rf 3 0 x2_n1])] }) = some (Ls_l12Unary_0_ans t6_2 x0_110 x0_111 x0_112 x1_20 x1_21 x1_22 x1_23 x2_19 x2_20 x2_21 x2_n1 r_) := by
  intro n_
  induction n_ with
  | zero => intro t6_2 x0_110 x0_111 x0_112 x1_20 x1_21 x1_22 x1_23 x2_19 x2_20 x2_21 x2_n1 r_ h_; simp only [Ls_l12Unary_0] at h_; cases h_
  | succ n_ ih_ =>
    intro t6_2 x0_110 x0_111 x0_112 x1_20 x1_21 x1_22 x1_23 x2_19 x2_20 x2_21 x2_n1 r_ h_
    rw [ev_loop EE lp49_0.eq_1]
    simp only [Ls_l12Unary_0] at h_
    rcases bI h_ with ⟨h1_, h_⟩ | ⟨h1_, h_⟩
    · obtain ⟨r304, h2_, h_⟩ := bS_some h_
      have h2_f := Fs_l12Sign_ok (⟨#[41]⟩ : ByteArray) x0_110 x0_111 x0_112 _ h2_
      try simp [Fs_l12Sign_ans] at h2_f
      rcases bI h_ with ⟨h3_, h_⟩ | ⟨h3_, h_⟩
      · cases h_
        simp +decide [-getElem?_pos, h1_, h2_f, h3_, Ls_l12Unary_0_ans]
      rcases bI h_ with ⟨h4_, h_⟩ | ⟨h4_, h_⟩
      · have h4_s := h4_; try simp at h4_s
        obtain ⟨⟨r305, r306⟩, h6_, h_⟩ := bS_some h_
        try dsimp only at h_
        have h6_f := Fs_l12Take_ok (⟨#[44]⟩ : ByteArray) x0_110 x0_111 x0_112 _ h6_
        try simp [Fs_l12Take_ans] at h6_f
        obtain ⟨⟨r307, r308, r309, r310, r311, r312, r313⟩, h7_, h_⟩ := bS_some h_
        try dsimp only at h_
        have h7_f := hRs_l12Expr x0_110 r305 r306 _ h7_
        try simp [Fs_l12Expr_ans] at h7_f
        obtain ⟨h8_, h_⟩ := bP h_
        have q_ := ih_ (t6_2 ++ [(⟨r307, r308, r309, r310⟩ : T_Node)]) r311 r312 r313 x1_20 x1_21 x1_22 x1_23 x2_19 x2_20 x2_21 x2_n1 _ h_
        rcases r_ with ⟨t6_3, x0_113, x0_114, x0_115⟩
        all_goals (try simp [Ls_l12Unary_0_ans] at q_)
        all_goals simp +decide [-getElem?_pos, h1_, h2_f, h3_, h4_, h4_s, h6_f, h7_f, h8_, q_, Ls_l12Unary_0_ans]
      have h4_s := h4_; try simp at h4_s
      obtain ⟨⟨r314, r315, r316, r317, r318, r319, r320⟩, h6_, h_⟩ := bS_some h_
      try dsimp only at h_
      have h6_f := hRs_l12Expr x0_110 x0_111 x0_112 _ h6_
      try simp [Fs_l12Expr_ans] at h6_f
      obtain ⟨h7_, h_⟩ := bP h_
      have q_ := ih_ (t6_2 ++ [(⟨r314, r315, r316, r317⟩ : T_Node)]) r318 r319 r320 x1_20 x1_21 x1_22 x1_23 x2_19 x2_20 x2_21 x2_n1 _ h_
      rcases r_ with ⟨t6_3, x0_113, x0_114, x0_115⟩
      all_goals (try simp [Ls_l12Unary_0_ans] at q_)
      all_goals simp +decide [-getElem?_pos, h1_, h2_f, h3_, h4_, h4_s, h6_f, h7_, q_, Ls_l12Unary_0_ans]
    cases h_
    simp +decide [-getElem?_pos, h1_, Ls_l12Unary_0_ans]
def Ls_l12Unary_1 (Rs_l12Expr : (List T_Token) → Int → Int → Option (Int × ByteArray × Int × (List T_Node) × (List T_Token) × Int × Int)) : Nat → (List T_Token) → Int → Int → Int → ByteArray → Int → (List T_Node) → Int → ByteArray → Int → (List T_Node) → Option ((List T_Token) × Int × Int × Int × ByteArray × Int × (List T_Node))
  | 0, _, _, _, _, _, _, _, _, _, _, _ => none
  | n_ + 1, x0_107, x0_108, x0_109, x1_16, x1_17, x1_18, x1_19, x2_15, x2_16, x2_17, x2_18 =>
  bS (Fs_l12Sign (⟨#[46]⟩ : ByteArray) x0_107 x0_108 x0_109) fun r297 =>
  if r297 = true then
    bS (Fs_l12Next x0_107 x0_108 x0_109) fun r298 =>
    bS (Fs_l12Name true x0_107 r298 x0_109) fun (r299, r300, r301) =>
    Ls_l12Unary_1 Rs_l12Expr n_ x0_107 r300 r301 x1_16 x1_17 x1_18 x1_19 17 r299 0 [(⟨x2_15, x2_16, x2_17, x2_18⟩ : T_Node)]
  else
  bS (Fs_l12Sign (⟨#[40]⟩ : ByteArray) x0_107 x0_108 x0_109) fun r302 =>
  if r302 = true then
    bS (Fs_l12Next x0_107 x0_108 x0_109) fun r303 =>
    bS (Ls_l12Unary_0 Rs_l12Expr FU [(⟨x2_15, x2_16, x2_17, x2_18⟩ : T_Node)] x0_107 r303 x0_109 x1_16 x1_17 x1_18 x1_19 x2_15 x2_16 x2_17 x2_18.length) fun (r321, r322, r323, r324) =>
    bS (Fs_l12Take (⟨#[41]⟩ : ByteArray) r322 r323 r324) fun (r325, r326) =>
    bS (Fs_l12Node 18 r321) fun (r327, r328, r329, r330) =>
    Ls_l12Unary_1 Rs_l12Expr n_ r322 r325 r326 x1_16 x1_17 x1_18 x1_19 r327 r328 r329 r330
  else
    some (x0_107, x0_108, x0_109, x2_15, x2_16, x2_17, x2_18)
def Ls_l12Unary_1_ans (x0_107 : List T_Token) (x0_108 : Int) (x0_109 : Int) (x1_16 : Int) (x1_17 : ByteArray) (x1_18 : Int) (x1_19 : List T_Node) (x2_15 : Int) (x2_16 : ByteArray) (x2_17 : Int) (x2_18 : List T_Node) : ((List T_Token) × Int × Int × Int × ByteArray × Int × (List T_Node)) → Ans
  | (x0_116, x0_117, x0_118, x2_22, x2_23, x2_24, x2_25) => .out (.exit 0) { np := 1, tm := [(2, .bx 1 0), (4, .bx 2 0)], ar := [(0, .a false (r_Token x0_116)), (1, .a false (r_Node true x1_19)), (2, .a false (r_Node true x2_25))], bx := [(0, .b [.rf 0 0 x0_116.length, .sc (.int .i64 x0_117), .sc (.int .i64 x0_118)]), (1, .b [.sc (.int .i64 x1_16), .sc (.string x1_17), .sc (.int .i64 x1_18), .rf 1 0 x1_19.length]), (2, .b [.sc (.int .i64 x2_22), .sc (.string x2_23), .sc (.int .i64 x2_24), .rf 2 0 x2_25.length])] }
theorem Ls_l12Unary_1_ok (Rs_l12Expr) (hRs_l12Expr : Ps_l12Expr Rs_l12Expr) : ∀ (n_ : Nat) (x0_107 : List T_Token) (x0_108 : Int) (x0_109 : Int) (x1_16 : Int) (x1_17 : ByteArray) (x1_18 : Int) (x1_19 : List T_Node) (x2_15 : Int) (x2_16 : ByteArray) (x2_17 : Int) (x2_18 : List T_Node) (r_ : ((List T_Token) × Int × Int × Int × ByteArray × Int × (List T_Node))), Ls_l12Unary_1 Rs_l12Expr n_ x0_107 x0_108 x0_109 x1_16 x1_17 x1_18 x1_19 x2_15 x2_16 x2_17 x2_18 = some r_ → ev EE (.loop lp49_1 [0, 2, 4] [2, 4] { np := 1, tm := [(0, .bx 0 0), (2, .bx 1 0), (4, .bx 2 0)], ar := [(0, .a false (r_Token x0_107)), (1, .a false (r_Node true x1_19)), (2, .a false (r_Node true x2_18))], bx := [(0, .b [.rf 0 0 x0_107.length, .sc (.int .i64 x0_108), .sc (.int .i64 x0_109)]), (1, .b [.sc (.int .i64 x1_16), .sc (.string x1_17), .sc (.int .i64 x1_18), .rf 1 0 x1_19.length]), (2, .b [.sc (.int .i64 x2_15), .sc (.string x2_16), .sc (.int .i64 x2_17), .rf 2 0 x2_18.length])] }) = some (Ls_l12Unary_1_ans x0_107 x0_108 x0_109 x1_16 x1_17 x1_18 x1_19 x2_15 x2_16 x2_17 x2_18 r_) := by
  intro n_
  induction n_ with
  | zero => intro x0_107 x0_108 x0_109 x1_16 x1_17 x1_18 x1_19 x2_15 x2_16 x2_17 x2_18 r_ h_; simp only [Ls_l12Unary_1] at h_; cases h_
  | succ n_ ih_ =>
    intro x0_107 x0_108 x0_109 x1_16 x1_17 x1_18 x1_19 x2_15 x2_16 x2_17 x2_18 r_ h_
    rw [ev_loop EE lp49_1.eq_1]
    simp only [Ls_l12Unary_1] at h_
    obtain ⟨r297, h1_, h_⟩ := bS_some h_
    have h1_f := Fs_l12Sign_ok (⟨#[46]⟩ : ByteArray) x0_107 x0_108 x0_109 _ h1_
    try simp [Fs_l12Sign_ans] at h1_f
    rcases bI h_ with ⟨h2_, h_⟩ | ⟨h2_, h_⟩
    · obtain ⟨r298, h3_, h_⟩ := bS_some h_
      have h3_f := Fs_l12Next_ok x0_107 x0_108 x0_109 _ h3_
      try simp [Fs_l12Next_ans] at h3_f
      obtain ⟨⟨r299, r300, r301⟩, h4_, h_⟩ := bS_some h_
      try dsimp only at h_
      have h4_f := Fs_l12Name_ok true x0_107 r298 x0_109 _ h4_
      try simp [Fs_l12Name_ans] at h4_f
      have q_ := ih_ x0_107 r300 r301 x1_16 x1_17 x1_18 x1_19 17 r299 0 [(⟨x2_15, x2_16, x2_17, x2_18⟩ : T_Node)] _ h_
      rcases r_ with ⟨x0_116, x0_117, x0_118, x2_22, x2_23, x2_24, x2_25⟩
      all_goals (try simp [Ls_l12Unary_1_ans] at q_)
      all_goals simp +decide [-getElem?_pos, h1_f, h2_, h3_f, h4_f, q_, Ls_l12Unary_1_ans]
    obtain ⟨r302, h3_, h_⟩ := bS_some h_
    have h3_f := Fs_l12Sign_ok (⟨#[40]⟩ : ByteArray) x0_107 x0_108 x0_109 _ h3_
    try simp [Fs_l12Sign_ans] at h3_f
    rcases bI h_ with ⟨h4_, h_⟩ | ⟨h4_, h_⟩
    · obtain ⟨r303, h5_, h_⟩ := bS_some h_
      have h5_f := Fs_l12Next_ok x0_107 x0_108 x0_109 _ h5_
      try simp [Fs_l12Next_ans] at h5_f
      obtain ⟨⟨r321, r322, r323, r324⟩, h6_, h_⟩ := bS_some h_
      try dsimp only at h_
      have h6_f := Ls_l12Unary_0_ok Rs_l12Expr hRs_l12Expr FU [(⟨x2_15, x2_16, x2_17, x2_18⟩ : T_Node)] x0_107 r303 x0_109 x1_16 x1_17 x1_18 x1_19 x2_15 x2_16 x2_17 x2_18.length _ h6_
      try simp [Ls_l12Unary_0_ans] at h6_f
      obtain ⟨⟨r325, r326⟩, h7_, h_⟩ := bS_some h_
      try dsimp only at h_
      have h7_f := Fs_l12Take_ok (⟨#[41]⟩ : ByteArray) r322 r323 r324 _ h7_
      try simp [Fs_l12Take_ans] at h7_f
      obtain ⟨⟨r327, r328, r329, r330⟩, h8_, h_⟩ := bS_some h_
      try dsimp only at h_
      have h8_f := Fs_l12Node_ok 18 r321 _ h8_
      try simp [Fs_l12Node_ans] at h8_f
      have q_ := ih_ r322 r325 r326 x1_16 x1_17 x1_18 x1_19 r327 r328 r329 r330 _ h_
      rcases r_ with ⟨x0_116, x0_117, x0_118, x2_22, x2_23, x2_24, x2_25⟩
      all_goals (try simp [Ls_l12Unary_1_ans] at q_)
      all_goals simp +decide [-getElem?_pos, h1_f, h2_, h3_f, h4_, h5_f, h6_f, h7_f, h8_f, q_, Ls_l12Unary_1_ans]
    cases h_
    simp +decide [-getElem?_pos, h1_f, h2_, h3_f, h4_, Ls_l12Unary_1_ans]
/-- spec.l12Unary -/
def Ss_l12Unary (Rs_l12Stmt : (List T_Token) → Int → Int → Option (Int × ByteArray × Int × (List T_Node) × (List T_Token) × Int × Int)) (Rs_l12Expr : (List T_Token) → Int → Int → Option (Int × ByteArray × Int × (List T_Node) × (List T_Token) × Int × Int)) (Rs_l12Unary : (List T_Token) → Int → Int → Option (Int × ByteArray × Int × (List T_Node) × (List T_Token) × Int × Int)) (x0_72 : List T_Token) (x0_73 : Int) (x0_74 : Int) : Option (Int × ByteArray × Int × (List T_Node) × (List T_Token) × Int × Int) :=
  bS (Fs_l12Sign (⟨#[33]⟩ : ByteArray) x0_72 x0_73 x0_74) fun r114 =>
  if r114 = true then
    bS (Fs_l12Next x0_72 x0_73 x0_74) fun r115 =>
    bS (Rs_l12Unary x0_72 r115 x0_74) fun (r116, r117, r118, r119, r120, r121, r122) =>
    bS (Fs_l12Node 24 [(⟨r116, r117, r118, r119⟩ : T_Node)]) fun (r123, r124, r125, r126) =>
    some (r123, r124, r125, r126, r120, r121, r122)
  else
  bS (Fs_l12Atom Rs_l12Stmt Rs_l12Expr x0_72 x0_73 x0_74) fun (r290, r291, r292, r293, r294, r295, r296) =>
  bS (Ls_l12Unary_1 Rs_l12Expr FU r294 r295 r296 0 (⟨#[]⟩ : ByteArray) 0 [] r290 r291 r292 r293) fun (r331, r332, r333, r334, r335, r336, r337) =>
  some (r334, r335, r336, r337, r331, r332, r333)
theorem Ss_l12Unary_ok (Rs_l12Stmt) (hRs_l12Stmt : Ps_l12Stmt Rs_l12Stmt) (Rs_l12Expr) (hRs_l12Expr : Ps_l12Expr Rs_l12Expr) (Rs_l12Unary) (hRs_l12Unary : Ps_l12Unary Rs_l12Unary) (x0_72 : List T_Token) (x0_73 : Int) (x0_74 : Int) (r_ : (Int × ByteArray × Int × (List T_Node) × (List T_Token) × Int × Int)) (h_ : Ss_l12Unary Rs_l12Stmt Rs_l12Expr Rs_l12Unary x0_72 x0_73 x0_74 = some r_) : ev EE (.call 49 [.bx 0 0] [.b [.ls true (r_Token x0_72), .sc (.int .i64 x0_73), .sc (.int .i64 x0_74)]]) = some (Fs_l12Unary_ans x0_72 x0_73 x0_74 r_) := by
  rw [ev_eq]
  simp only [Ss_l12Unary] at h_
  obtain ⟨r114, h1_, h_⟩ := bS_some h_
  have h1_f := Fs_l12Sign_ok (⟨#[33]⟩ : ByteArray) x0_72 x0_73 x0_74 _ h1_
  try simp [Fs_l12Sign_ans] at h1_f
  rcases bI h_ with ⟨h2_, h_⟩ | ⟨h2_, h_⟩
  · obtain ⟨r115, h3_, h_⟩ := bS_some h_
    have h3_f := Fs_l12Next_ok x0_72 x0_73 x0_74 _ h3_
    try simp [Fs_l12Next_ans] at h3_f
    obtain ⟨⟨r116, r117, r118, r119, r120, r121, r122⟩, h4_, h_⟩ := bS_some h_
    try dsimp only at h_
    have h4_f := hRs_l12Unary x0_72 r115 x0_74 _ h4_
    try simp [Fs_l12Unary_ans] at h4_f
    obtain ⟨⟨r123, r124, r125, r126⟩, h5_, h_⟩ := bS_some h_
    try dsimp only at h_
    have h5_f := Fs_l12Node_ok 24 [(⟨r116, r117, r118, r119⟩ : T_Node)] _ h5_
    try simp [Fs_l12Node_ans] at h5_f
    cases h_
    simp +decide [-getElem?_pos, ir49, h1_f, h2_, h3_f, h4_f, h5_f, Fs_l12Unary_ans]
  obtain ⟨⟨r290, r291, r292, r293, r294, r295, r296⟩, h3_, h_⟩ := bS_some h_
  try dsimp only at h_
  have h3_f := Fs_l12Atom_ok Rs_l12Stmt hRs_l12Stmt Rs_l12Expr hRs_l12Expr x0_72 x0_73 x0_74 _ h3_
  try simp [Fs_l12Atom_ans] at h3_f
  obtain ⟨⟨r331, r332, r333, r334, r335, r336, r337⟩, h4_, h_⟩ := bS_some h_
  try dsimp only at h_
  have h4_f := Ls_l12Unary_1_ok Rs_l12Expr hRs_l12Expr FU r294 r295 r296 0 (⟨#[]⟩ : ByteArray) 0 [] r290 r291 r292 r293 _ h4_
  try simp [Ls_l12Unary_1_ans] at h4_f
  cases h_
  simp +decide [-getElem?_pos, ir49, h1_f, h2_, h3_f, h4_f, Fs_l12Unary_ans]
def Fs_l12Unaryn (Rs_l12Stmt : (List T_Token) → Int → Int → Option (Int × ByteArray × Int × (List T_Node) × (List T_Token) × Int × Int)) (Rs_l12Expr : (List T_Token) → Int → Int → Option (Int × ByteArray × Int × (List T_Node) × (List T_Token) × Int × Int)) : Nat → (List T_Token) → Int → Int → Option (Int × ByteArray × Int × (List T_Node) × (List T_Token) × Int × Int)
  | 0 => fun _ _ _ => none
  | n_ + 1 => Ss_l12Unary Rs_l12Stmt Rs_l12Expr (Fs_l12Unaryn Rs_l12Stmt Rs_l12Expr n_)
def Fs_l12Unary (Rs_l12Stmt : (List T_Token) → Int → Int → Option (Int × ByteArray × Int × (List T_Node) × (List T_Token) × Int × Int)) (Rs_l12Expr : (List T_Token) → Int → Int → Option (Int × ByteArray × Int × (List T_Node) × (List T_Token) × Int × Int)) (x0_72 : List T_Token) (x0_73 : Int) (x0_74 : Int) : Option (Int × ByteArray × Int × (List T_Node) × (List T_Token) × Int × Int) := Fs_l12Unaryn Rs_l12Stmt Rs_l12Expr FU x0_72 x0_73 x0_74
theorem Fs_l12Unaryn_ok (Rs_l12Stmt) (hRs_l12Stmt : Ps_l12Stmt Rs_l12Stmt) (Rs_l12Expr) (hRs_l12Expr : Ps_l12Expr Rs_l12Expr) : ∀ (n_ : Nat) (x0_72 : List T_Token) (x0_73 : Int) (x0_74 : Int) (r_ : (Int × ByteArray × Int × (List T_Node) × (List T_Token) × Int × Int)), Fs_l12Unaryn Rs_l12Stmt Rs_l12Expr n_ x0_72 x0_73 x0_74 = some r_ → ev EE (.call 49 [.bx 0 0] [.b [.ls true (r_Token x0_72), .sc (.int .i64 x0_73), .sc (.int .i64 x0_74)]]) = some (Fs_l12Unary_ans x0_72 x0_73 x0_74 r_) := by
  intro n_
  induction n_ with
  | zero => intro x0_72 x0_73 x0_74 r_ h_; cases h_
  | succ n_ ih_ => intro x0_72 x0_73 x0_74 r_ h_; exact Ss_l12Unary_ok Rs_l12Stmt hRs_l12Stmt Rs_l12Expr hRs_l12Expr (Fs_l12Unaryn Rs_l12Stmt Rs_l12Expr n_) ih_ x0_72 x0_73 x0_74 r_ h_
theorem Fs_l12Unary_ok (Rs_l12Stmt) (hRs_l12Stmt : Ps_l12Stmt Rs_l12Stmt) (Rs_l12Expr) (hRs_l12Expr : Ps_l12Expr Rs_l12Expr) (x0_72 : List T_Token) (x0_73 : Int) (x0_74 : Int) (r_ : (Int × ByteArray × Int × (List T_Node) × (List T_Token) × Int × Int)) (h_ : Fs_l12Unary Rs_l12Stmt Rs_l12Expr x0_72 x0_73 x0_74 = some r_) : ev EE (.call 49 [.bx 0 0] [.b [.ls true (r_Token x0_72), .sc (.int .i64 x0_73), .sc (.int .i64 x0_74)]]) = some (Fs_l12Unary_ans x0_72 x0_73 x0_74 r_) := Fs_l12Unaryn_ok Rs_l12Stmt hRs_l12Stmt Rs_l12Expr hRs_l12Expr FU x0_72 x0_73 x0_74 r_ h_
def Ls_l12Product_0 (Rs_l12Stmt : (List T_Token) → Int → Int → Option (Int × ByteArray × Int × (List T_Node) × (List T_Token) × Int × Int)) (Rs_l12Expr : (List T_Token) → Int → Int → Option (Int × ByteArray × Int × (List T_Node) × (List T_Token) × Int × Int)) : Nat → (List T_Token) → Int → Int → Int → ByteArray → Int → (List T_Node) → Int → ByteArray → Int → (List T_Node) → Option ((List T_Token) × Int × Int × Int × ByteArray × Int × (List T_Node))
  | 0, _, _, _, _, _, _, _, _, _, _, _ => none
  | n_ + 1, x0_119, x0_120, x0_121, x1_24, x1_25, x1_26, x1_27, x2_26, x2_27, x2_28, x2_29 =>
  bS (Fs_l12Sign (⟨#[42]⟩ : ByteArray) x0_119 x0_120 x0_121) fun r345 =>
  if r345 = true then
    bS (Fs_l12Next x0_119 x0_120 x0_121) fun r346 =>
    bS (Fs_l12Unary Rs_l12Stmt Rs_l12Expr x0_119 r346 x0_121) fun (r347, r348, r349, r350, r351, r352, r353) =>
    bS (Fs_l12Node 21 [(⟨x2_26, x2_27, x2_28, x2_29⟩ : T_Node), (⟨r347, r348, r349, r350⟩ : T_Node)]) fun (r354, r355, r356, r357) =>
    Ls_l12Product_0 Rs_l12Stmt Rs_l12Expr n_ r351 r352 r353 x1_24 x1_25 x1_26 x1_27 r354 r355 r356 r357
  else
    some (x0_119, x0_120, x0_121, x2_26, x2_27, x2_28, x2_29)
def Ls_l12Product_0_ans (x0_119 : List T_Token) (x0_120 : Int) (x0_121 : Int) (x1_24 : Int) (x1_25 : ByteArray) (x1_26 : Int) (x1_27 : List T_Node) (x2_26 : Int) (x2_27 : ByteArray) (x2_28 : Int) (x2_29 : List T_Node) : ((List T_Token) × Int × Int × Int × ByteArray × Int × (List T_Node)) → Ans
  | (x0_122, x0_123, x0_124, x2_30, x2_31, x2_32, x2_33) => .out (.exit 0) { np := 1, tm := [(2, .bx 1 0), (3, .bx 2 0)], ar := [(0, .a false (r_Token x0_122)), (1, .a false (r_Node true x1_27)), (2, .a false (r_Node true x2_33))], bx := [(0, .b [.rf 0 0 x0_122.length, .sc (.int .i64 x0_123), .sc (.int .i64 x0_124)]), (1, .b [.sc (.int .i64 x1_24), .sc (.string x1_25), .sc (.int .i64 x1_26), .rf 1 0 x1_27.length]), (2, .b [.sc (.int .i64 x2_30), .sc (.string x2_31), .sc (.int .i64 x2_32), .rf 2 0 x2_33.length])] }
theorem Ls_l12Product_0_ok (Rs_l12Stmt) (hRs_l12Stmt : Ps_l12Stmt Rs_l12Stmt) (Rs_l12Expr) (hRs_l12Expr : Ps_l12Expr Rs_l12Expr) : ∀ (n_ : Nat) (x0_119 : List T_Token) (x0_120 : Int) (x0_121 : Int) (x1_24 : Int) (x1_25 : ByteArray) (x1_26 : Int) (x1_27 : List T_Node) (x2_26 : Int) (x2_27 : ByteArray) (x2_28 : Int) (x2_29 : List T_Node) (r_ : ((List T_Token) × Int × Int × Int × ByteArray × Int × (List T_Node))), Ls_l12Product_0 Rs_l12Stmt Rs_l12Expr n_ x0_119 x0_120 x0_121 x1_24 x1_25 x1_26 x1_27 x2_26 x2_27 x2_28 x2_29 = some r_ → ev EE (.loop lp48_0 [0, 2, 3] [2, 3] { np := 1, tm := [(0, .bx 0 0), (2, .bx 1 0), (3, .bx 2 0)], ar := [(0, .a false (r_Token x0_119)), (1, .a false (r_Node true x1_27)), (2, .a false (r_Node true x2_29))], bx := [(0, .b [.rf 0 0 x0_119.length, .sc (.int .i64 x0_120), .sc (.int .i64 x0_121)]), (1, .b [.sc (.int .i64 x1_24), .sc (.string x1_25), .sc (.int .i64 x1_26), .rf 1 0 x1_27.length]), (2, .b [.sc (.int .i64 x2_26), .sc (.string x2_27), .sc (.int .i64 x2_28), .rf 2 0 x2_29.length])] }) = some (Ls_l12Product_0_ans x0_119 x0_120 x0_121 x1_24 x1_25 x1_26 x1_27 x2_26 x2_27 x2_28 x2_29 r_) := by
  intro n_
  induction n_ with
  | zero => intro x0_119 x0_120 x0_121 x1_24 x1_25 x1_26 x1_27 x2_26 x2_27 x2_28 x2_29 r_ h_; simp only [Ls_l12Product_0] at h_; cases h_
  | succ n_ ih_ =>
    intro x0_119 x0_120 x0_121 x1_24 x1_25 x1_26 x1_27 x2_26 x2_27 x2_28 x2_29 r_ h_
    rw [ev_loop EE lp48_0.eq_1]
    simp only [Ls_l12Product_0] at h_
    obtain ⟨r345, h1_, h_⟩ := bS_some h_
    have h1_f := Fs_l12Sign_ok (⟨#[42]⟩ : ByteArray) x0_119 x0_120 x0_121 _ h1_
    try simp [Fs_l12Sign_ans] at h1_f
    rcases bI h_ with ⟨h2_, h_⟩ | ⟨h2_, h_⟩
    · obtain ⟨r346, h3_, h_⟩ := bS_some h_
      have h3_f := Fs_l12Next_ok x0_119 x0_120 x0_121 _ h3_
      try simp [Fs_l12Next_ans] at h3_f
      obtain ⟨⟨r347, r348, r349, r350, r351, r352, r353⟩, h4_, h_⟩ := bS_some h_
      try dsimp only at h_
      have h4_f := Fs_l12Unary_ok Rs_l12Stmt hRs_l12Stmt Rs_l12Expr hRs_l12Expr x0_119 r346 x0_121 _ h4_
      try simp [Fs_l12Unary_ans] at h4_f
      obtain ⟨⟨r354, r355, r356, r357⟩, h5_, h_⟩ := bS_some h_
      try dsimp only at h_
      have h5_f := Fs_l12Node_ok 21 [(⟨x2_26, x2_27, x2_28, x2_29⟩ : T_Node), (⟨r347, r348, r349, r350⟩ : T_Node)] _ h5_
      try simp [Fs_l12Node_ans] at h5_f
      have q_ := ih_ r351 r352 r353 x1_24 x1_25 x1_26 x1_27 r354 r355 r356 r357 _ h_
      rcases r_ with ⟨x0_122, x0_123, x0_124, x2_30, x2_31, x2_32, x2_33⟩
      all_goals (try simp [Ls_l12Product_0_ans] at q_)
      all_goals simp +decide [-getElem?_pos, h1_f, h2_, h3_f, h4_f, h5_f, q_, Ls_l12Product_0_ans]
    cases h_
    simp +decide [-getElem?_pos, h1_f, h2_, Ls_l12Product_0_ans]
/-- spec.l12Product -/
def Fs_l12Product (Rs_l12Stmt : (List T_Token) → Int → Int → Option (Int × ByteArray × Int × (List T_Node) × (List T_Token) × Int × Int)) (Rs_l12Expr : (List T_Token) → Int → Int → Option (Int × ByteArray × Int × (List T_Node) × (List T_Token) × Int × Int)) (x0_69 : List T_Token) (x0_70 : Int) (x0_71 : Int) : Option (Int × ByteArray × Int × (List T_Node) × (List T_Token) × Int × Int) :=
  bS (Fs_l12Unary Rs_l12Stmt Rs_l12Expr x0_69 x0_70 x0_71) fun (r338, r339, r340, r341, r342, r343, r344) =>
  bS (Ls_l12Product_0 Rs_l12Stmt Rs_l12Expr FU r342 r343 r344 0 (⟨#[]⟩ : ByteArray) 0 [] r338 r339 r340 r341) fun (r358, r359, r360, r361, r362, r363, r364) =>
  some (r361, r362, r363, r364, r358, r359, r360)
def Fs_l12Product_ans (x0_69 : List T_Token) (x0_70 : Int) (x0_71 : Int) : (Int × ByteArray × Int × (List T_Node) × (List T_Token) × Int × Int) → Ans
  | (q116, q117, q118, q119, q120, q121, q122) => .val (.ag [.sc (.int .i64 q116), .sc (.string q117), .sc (.int .i64 q118), .ls true (r_Node true q119)]) [.b [.ls true (r_Token q120), .sc (.int .i64 q121), .sc (.int .i64 q122)]]
theorem Fs_l12Product_ok (Rs_l12Stmt) (hRs_l12Stmt : Ps_l12Stmt Rs_l12Stmt) (Rs_l12Expr) (hRs_l12Expr : Ps_l12Expr Rs_l12Expr) (x0_69 : List T_Token) (x0_70 : Int) (x0_71 : Int) (r_ : (Int × ByteArray × Int × (List T_Node) × (List T_Token) × Int × Int)) (h_ : Fs_l12Product Rs_l12Stmt Rs_l12Expr x0_69 x0_70 x0_71 = some r_) : ev EE (.call 48 [.bx 0 0] [.b [.ls true (r_Token x0_69), .sc (.int .i64 x0_70), .sc (.int .i64 x0_71)]]) = some (Fs_l12Product_ans x0_69 x0_70 x0_71 r_) := by
  rw [ev_eq]
  simp only [Fs_l12Product] at h_
  obtain ⟨⟨r338, r339, r340, r341, r342, r343, r344⟩, h1_, h_⟩ := bS_some h_
  try dsimp only at h_
  have h1_f := Fs_l12Unary_ok Rs_l12Stmt hRs_l12Stmt Rs_l12Expr hRs_l12Expr x0_69 x0_70 x0_71 _ h1_
  try simp [Fs_l12Unary_ans] at h1_f
  obtain ⟨⟨r358, r359, r360, r361, r362, r363, r364⟩, h2_, h_⟩ := bS_some h_
  try dsimp only at h_
  have h2_f := Ls_l12Product_0_ok Rs_l12Stmt hRs_l12Stmt Rs_l12Expr hRs_l12Expr FU r342 r343 r344 0 (⟨#[]⟩ : ByteArray) 0 [] r338 r339 r340 r341 _ h2_
  try simp [Ls_l12Product_0_ans] at h2_f
  cases h_
  simp +decide [-getElem?_pos, ir48, h1_f, h2_f, Fs_l12Product_ans]
def Ls_l12Sum_0 (Rs_l12Stmt : (List T_Token) → Int → Int → Option (Int × ByteArray × Int × (List T_Node) × (List T_Token) × Int × Int)) (Rs_l12Expr : (List T_Token) → Int → Int → Option (Int × ByteArray × Int × (List T_Node) × (List T_Token) × Int × Int)) : Nat → (List T_Token) → Int → Int → Int → ByteArray → Int → (List T_Node) → Int → ByteArray → Int → (List T_Node) → Option ((List T_Token) × Int × Int × Int × ByteArray × Int × (List T_Node))
  | 0, _, _, _, _, _, _, _, _, _, _, _ => none
  | n_ + 1, x0_125, x0_126, x0_127, x1_28, x1_29, x1_30, x1_31, x2_34, x2_35, x2_36, x2_37 =>
  bS (Fs_l12Sign (⟨#[43]⟩ : ByteArray) x0_125 x0_126 x0_127) fun r372 =>
  if r372 = true then
    bS (Fs_l12Sign (⟨#[45]⟩ : ByteArray) x0_125 x0_126 x0_127) fun r373 =>
    if r373 = true then
      bS (Fs_l12Next x0_125 x0_126 x0_127) fun r374 =>
      bS (Fs_l12Product Rs_l12Stmt Rs_l12Expr x0_125 r374 x0_127) fun (r375, r376, r377, r378, r379, r380, r381) =>
      bS (Fs_l12Node 20 [(⟨x2_34, x2_35, x2_36, x2_37⟩ : T_Node), (⟨r375, r376, r377, r378⟩ : T_Node)]) fun (r382, r383, r384, r385) =>
      Ls_l12Sum_0 Rs_l12Stmt Rs_l12Expr n_ r379 r380 r381 x1_28 x1_29 x1_30 x1_31 r382 r383 r384 r385
    else
    bS (Fs_l12Next x0_125 x0_126 x0_127) fun r386 =>
    bS (Fs_l12Product Rs_l12Stmt Rs_l12Expr x0_125 r386 x0_127) fun (r387, r388, r389, r390, r391, r392, r393) =>
    bS (Fs_l12Node 19 [(⟨x2_34, x2_35, x2_36, x2_37⟩ : T_Node), (⟨r387, r388, r389, r390⟩ : T_Node)]) fun (r394, r395, r396, r397) =>
    Ls_l12Sum_0 Rs_l12Stmt Rs_l12Expr n_ r391 r392 r393 x1_28 x1_29 x1_30 x1_31 r394 r395 r396 r397
  else
  bS (Fs_l12Sign (⟨#[45]⟩ : ByteArray) x0_125 x0_126 x0_127) fun r398 =>
  if r398 = true then
    bS (Fs_l12Next x0_125 x0_126 x0_127) fun r399 =>
    bS (Fs_l12Product Rs_l12Stmt Rs_l12Expr x0_125 r399 x0_127) fun (r400, r401, r402, r403, r404, r405, r406) =>
    bS (Fs_l12Node 20 [(⟨x2_34, x2_35, x2_36, x2_37⟩ : T_Node), (⟨r400, r401, r402, r403⟩ : T_Node)]) fun (r407, r408, r409, r410) =>
    Ls_l12Sum_0 Rs_l12Stmt Rs_l12Expr n_ r404 r405 r406 x1_28 x1_29 x1_30 x1_31 r407 r408 r409 r410
  else
    some (x0_125, x0_126, x0_127, x2_34, x2_35, x2_36, x2_37)
def Ls_l12Sum_0_ans (x0_125 : List T_Token) (x0_126 : Int) (x0_127 : Int) (x1_28 : Int) (x1_29 : ByteArray) (x1_30 : Int) (x1_31 : List T_Node) (x2_34 : Int) (x2_35 : ByteArray) (x2_36 : Int) (x2_37 : List T_Node) : ((List T_Token) × Int × Int × Int × ByteArray × Int × (List T_Node)) → Ans
  | (x0_128, x0_129, x0_130, x2_38, x2_39, x2_40, x2_41) => .out (.exit 0) { np := 1, tm := [(2, .bx 1 0), (3, .bx 2 0)], ar := [(0, .a false (r_Token x0_128)), (1, .a false (r_Node true x1_31)), (2, .a false (r_Node true x2_41))], bx := [(0, .b [.rf 0 0 x0_128.length, .sc (.int .i64 x0_129), .sc (.int .i64 x0_130)]), (1, .b [.sc (.int .i64 x1_28), .sc (.string x1_29), .sc (.int .i64 x1_30), .rf 1 0 x1_31.length]), (2, .b [.sc (.int .i64 x2_38), .sc (.string x2_39), .sc (.int .i64 x2_40), .rf 2 0 x2_41.length])] }
theorem Ls_l12Sum_0_ok (Rs_l12Stmt) (hRs_l12Stmt : Ps_l12Stmt Rs_l12Stmt) (Rs_l12Expr) (hRs_l12Expr : Ps_l12Expr Rs_l12Expr) : ∀ (n_ : Nat) (x0_125 : List T_Token) (x0_126 : Int) (x0_127 : Int) (x1_28 : Int) (x1_29 : ByteArray) (x1_30 : Int) (x1_31 : List T_Node) (x2_34 : Int) (x2_35 : ByteArray) (x2_36 : Int) (x2_37 : List T_Node) (r_ : ((List T_Token) × Int × Int × Int × ByteArray × Int × (List T_Node))), Ls_l12Sum_0 Rs_l12Stmt Rs_l12Expr n_ x0_125 x0_126 x0_127 x1_28 x1_29 x1_30 x1_31 x2_34 x2_35 x2_36 x2_37 = some r_ → ev EE (.loop lp45_0 [0, 2, 3] [2, 3] { np := 1, tm := [(0, .bx 0 0), (2, .bx 1 0), (3, .bx 2 0)], ar := [(0, .a false (r_Token x0_125)), (1, .a false (r_Node true x1_31)), (2, .a false (r_Node true x2_37))], bx := [(0, .b [.rf 0 0 x0_125.length, .sc (.int .i64 x0_126), .sc (.int .i64 x0_127)]), (1, .b [.sc (.int .i64 x1_28), .sc (.string x1_29), .sc (.int .i64 x1_30), .rf 1 0 x1_31.length]), (2, .b [.sc (.int .i64 x2_34), .sc (.string x2_35), .sc (.int .i64 x2_36), .rf 2 0 x2_37.length])] }) = some (Ls_l12Sum_0_ans x0_125 x0_126 x0_127 x1_28 x1_29 x1_30 x1_31 x2_34 x2_35 x2_36 x2_37 r_) := by
  intro n_
  induction n_ with
  | zero => intro x0_125 x0_126 x0_127 x1_28 x1_29 x1_30 x1_31 x2_34 x2_35 x2_36 x2_37 r_ h_; simp only [Ls_l12Sum_0] at h_; cases h_
  | succ n_ ih_ =>
    intro x0_125 x0_126 x0_127 x1_28 x1_29 x1_30 x1_31 x2_34 x2_35 x2_36 x2_37 r_ h_
    rw [ev_loop EE lp45_0.eq_1]
    simp only [Ls_l12Sum_0] at h_
    obtain ⟨r372, h1_, h_⟩ := bS_some h_
    have h1_f := Fs_l12Sign_ok (⟨#[43]⟩ : ByteArray) x0_125 x0_126 x0_127 _ h1_
    try simp [Fs_l12Sign_ans] at h1_f
    rcases bI h_ with ⟨h2_, h_⟩ | ⟨h2_, h_⟩
    · obtain ⟨r373, h3_, h_⟩ := bS_some h_
      have h3_f := Fs_l12Sign_ok (⟨#[45]⟩ : ByteArray) x0_125 x0_126 x0_127 _ h3_
      try simp [Fs_l12Sign_ans] at h3_f
      rcases bI h_ with ⟨h4_, h_⟩ | ⟨h4_, h_⟩
      · obtain ⟨r374, h5_, h_⟩ := bS_some h_
        have h5_f := Fs_l12Next_ok x0_125 x0_126 x0_127 _ h5_
        try simp [Fs_l12Next_ans] at h5_f
        obtain ⟨⟨r375, r376, r377, r378, r379, r380, r381⟩, h6_, h_⟩ := bS_some h_
        try dsimp only at h_
        have h6_f := Fs_l12Product_ok Rs_l12Stmt hRs_l12Stmt Rs_l12Expr hRs_l12Expr x0_125 r374 x0_127 _ h6_
        try simp [Fs_l12Product_ans] at h6_f
        obtain ⟨⟨r382, r383, r384, r385⟩, h7_, h_⟩ := bS_some h_
        try dsimp only at h_
        have h7_f := Fs_l12Node_ok 20 [(⟨x2_34, x2_35, x2_36, x2_37⟩ : T_Node), (⟨r375, r376, r377, r378⟩ : T_Node)] _ h7_
        try simp [Fs_l12Node_ans] at h7_f
        have q_ := ih_ r379 r380 r381 x1_28 x1_29 x1_30 x1_31 r382 r383 r384 r385 _ h_
        rcases r_ with ⟨x0_128, x0_129, x0_130, x2_38, x2_39, x2_40, x2_41⟩
        all_goals (try simp [Ls_l12Sum_0_ans] at q_)
        all_goals simp +decide [-getElem?_pos, h1_f, h2_, h3_f, h4_, h5_f, h6_f, h7_f, q_, Ls_l12Sum_0_ans]
      obtain ⟨r386, h5_, h_⟩ := bS_some h_
      have h5_f := Fs_l12Next_ok x0_125 x0_126 x0_127 _ h5_
      try simp [Fs_l12Next_ans] at h5_f
      obtain ⟨⟨r387, r388, r389, r390, r391, r392, r393⟩, h6_, h_⟩ := bS_some h_
      try dsimp only at h_
      have h6_f := Fs_l12Product_ok Rs_l12Stmt hRs_l12Stmt Rs_l12Expr hRs_l12Expr x0_125 r386 x0_127 _ h6_
      try simp [Fs_l12Product_ans] at h6_f
      obtain ⟨⟨r394, r395, r396, r397⟩, h7_, h_⟩ := bS_some h_
      try dsimp only at h_
      have h7_f := Fs_l12Node_ok 19 [(⟨x2_34, x2_35, x2_36, x2_37⟩ : T_Node), (⟨r387, r388, r389, r390⟩ : T_Node)] _ h7_
      try simp [Fs_l12Node_ans] at h7_f
      have q_ := ih_ r391 r392 r393 x1_28 x1_29 x1_30 x1_31 r394 r395 r396 r397 _ h_
      rcases r_ with ⟨x0_128, x0_129, x0_130, x2_38, x2_39, x2_40, x2_41⟩
      all_goals (try simp [Ls_l12Sum_0_ans] at q_)
      all_goals simp +decide [-getElem?_pos, h1_f, h2_, h3_f, h4_, h5_f, h6_f, h7_f, q_, Ls_l12Sum_0_ans]
    obtain ⟨r398, h3_, h_⟩ := bS_some h_
    have h3_f := Fs_l12Sign_ok (⟨#[45]⟩ : ByteArray) x0_125 x0_126 x0_127 _ h3_
    try simp [Fs_l12Sign_ans] at h3_f
    rcases bI h_ with ⟨h4_, h_⟩ | ⟨h4_, h_⟩
    · obtain ⟨r399, h5_, h_⟩ := bS_some h_
      have h5_f := Fs_l12Next_ok x0_125 x0_126 x0_127 _ h5_
      try simp [Fs_l12Next_ans] at h5_f
      obtain ⟨⟨r400, r401, r402, r403, r404, r405, r406⟩, h6_, h_⟩ := bS_some h_
      try dsimp only at h_
      have h6_f := Fs_l12Product_ok Rs_l12Stmt hRs_l12Stmt Rs_l12Expr hRs_l12Expr x0_125 r399 x0_127 _ h6_
      try simp [Fs_l12Product_ans] at h6_f
      obtain ⟨⟨r407, r408, r409, r410⟩, h7_, h_⟩ := bS_some h_
      try dsimp only at h_
      have h7_f := Fs_l12Node_ok 20 [(⟨x2_34, x2_35, x2_36, x2_37⟩ : T_Node), (⟨r400, r401, r402, r403⟩ : T_Node)] _ h7_
      try simp [Fs_l12Node_ans] at h7_f
      have q_ := ih_ r404 r405 r406 x1_28 x1_29 x1_30 x1_31 r407 r408 r409 r410 _ h_
      rcases r_ with ⟨x0_128, x0_129, x0_130, x2_38, x2_39, x2_40, x2_41⟩
      all_goals (try simp [Ls_l12Sum_0_ans] at q_)
      all_goals simp +decide [-getElem?_pos, h1_f, h2_, h3_f, h4_, h5_f, h6_f, h7_f, q_, Ls_l12Sum_0_ans]
    cases h_
    simp +decide [-getElem?_pos, h1_f, h2_, h3_f, h4_, Ls_l12Sum_0_ans]
/-- spec.l12Sum -/
def Fs_l12Sum (Rs_l12Stmt : (List T_Token) → Int → Int → Option (Int × ByteArray × Int × (List T_Node) × (List T_Token) × Int × Int)) (Rs_l12Expr : (List T_Token) → Int → Int → Option (Int × ByteArray × Int × (List T_Node) × (List T_Token) × Int × Int)) (x0_66 : List T_Token) (x0_67 : Int) (x0_68 : Int) : Option (Int × ByteArray × Int × (List T_Node) × (List T_Token) × Int × Int) :=
  bS (Fs_l12Product Rs_l12Stmt Rs_l12Expr x0_66 x0_67 x0_68) fun (r365, r366, r367, r368, r369, r370, r371) =>
  bS (Ls_l12Sum_0 Rs_l12Stmt Rs_l12Expr FU r369 r370 r371 0 (⟨#[]⟩ : ByteArray) 0 [] r365 r366 r367 r368) fun (r411, r412, r413, r414, r415, r416, r417) =>
  some (r414, r415, r416, r417, r411, r412, r413)
def Fs_l12Sum_ans (x0_66 : List T_Token) (x0_67 : Int) (x0_68 : Int) : (Int × ByteArray × Int × (List T_Node) × (List T_Token) × Int × Int) → Ans
  | (q123, q124, q125, q126, q127, q128, q129) => .val (.ag [.sc (.int .i64 q123), .sc (.string q124), .sc (.int .i64 q125), .ls true (r_Node true q126)]) [.b [.ls true (r_Token q127), .sc (.int .i64 q128), .sc (.int .i64 q129)]]
theorem Fs_l12Sum_ok (Rs_l12Stmt) (hRs_l12Stmt : Ps_l12Stmt Rs_l12Stmt) (Rs_l12Expr) (hRs_l12Expr : Ps_l12Expr Rs_l12Expr) (x0_66 : List T_Token) (x0_67 : Int) (x0_68 : Int) (r_ : (Int × ByteArray × Int × (List T_Node) × (List T_Token) × Int × Int)) (h_ : Fs_l12Sum Rs_l12Stmt Rs_l12Expr x0_66 x0_67 x0_68 = some r_) : ev EE (.call 45 [.bx 0 0] [.b [.ls true (r_Token x0_66), .sc (.int .i64 x0_67), .sc (.int .i64 x0_68)]]) = some (Fs_l12Sum_ans x0_66 x0_67 x0_68 r_) := by
  rw [ev_eq]
  simp only [Fs_l12Sum] at h_
  obtain ⟨⟨r365, r366, r367, r368, r369, r370, r371⟩, h1_, h_⟩ := bS_some h_
  try dsimp only at h_
  have h1_f := Fs_l12Product_ok Rs_l12Stmt hRs_l12Stmt Rs_l12Expr hRs_l12Expr x0_66 x0_67 x0_68 _ h1_
  try simp [Fs_l12Product_ans] at h1_f
  obtain ⟨⟨r411, r412, r413, r414, r415, r416, r417⟩, h2_, h_⟩ := bS_some h_
  try dsimp only at h_
  have h2_f := Ls_l12Sum_0_ok Rs_l12Stmt hRs_l12Stmt Rs_l12Expr hRs_l12Expr FU r369 r370 r371 0 (⟨#[]⟩ : ByteArray) 0 [] r365 r366 r367 r368 _ h2_
  try simp [Ls_l12Sum_0_ans] at h2_f
  cases h_
  simp +decide [-getElem?_pos, ir45, h1_f, h2_f, Fs_l12Sum_ans]
end Go.Pv
