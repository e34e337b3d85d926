/- Proof: the functions as Lean functions, third part. No condition. -/
import Derived.Test.YtaadneenebhnoaaGtB
set_option autoImplicit true
set_option relaxedAutoImplicit true
set_option linter.unusedSimpArgs false
set_option linter.unusedVariables false
namespace Go.Pv
set_option maxRecDepth 100000
set_option maxHeartbeats 40000000
set_option linter.unusedSimpArgs false
set_option linter.unusedVariables false
/-- spec.l12Expr -/
def Ss_l12Expr (Rs_l12Stmt : (List T_Token) → Int → Int → Option (Int × ByteArray × Int × (List T_Node) × (List T_Token) × Int × Int)) (Rs_l12Expr : (List T_Token) → Int → Int → Option (Int × ByteArray × Int × (List T_Node) × (List T_Token) × Int × Int)) (x0_63 : List T_Token) (x0_64 : Int) (x0_65 : Int) : Option (Int × ByteArray × Int × (List T_Node) × (List T_Token) × Int × Int) :=
  bS (Fs_l12Sum Rs_l12Stmt Rs_l12Expr x0_63 x0_64 x0_65) fun (r418, r419, r420, r421, r422, r423, r424) =>
  bS (Fs_l12Sign (⟨#[60]⟩ : ByteArray) r422 r423 r424) fun r425 =>
  if r425 = true then
    bS (Fs_l12Next r422 r423 r424) fun r426 =>
    bS (Fs_l12Sum Rs_l12Stmt Rs_l12Expr r422 r426 r424) fun (r427, r428, r429, r430, r431, r432, r433) =>
    bS (Fs_l12Node 22 [(⟨r418, r419, r420, r421⟩ : T_Node), (⟨r427, r428, r429, r430⟩ : T_Node)]) fun (r434, r435, r436, r437) =>
    some (r434, r435, r436, r437, r431, r432, r433)
  else
  bS (Fs_l12Sign (⟨#[61, 61]⟩ : ByteArray) r422 r423 r424) fun r438 =>
  if r438 = true then
    bS (Fs_l12Next r422 r423 r424) fun r439 =>
    bS (Fs_l12Sum Rs_l12Stmt Rs_l12Expr r422 r439 r424) fun (r440, r441, r442, r443, r444, r445, r446) =>
    bS (Fs_l12Node 23 [(⟨r418, r419, r420, r421⟩ : T_Node), (⟨r440, r441, r442, r443⟩ : T_Node)]) fun (r447, r448, r449, r450) =>
    some (r447, r448, r449, r450, r444, r445, r446)
  else
    some (r418, r419, r420, r421, r422, r423, r424)
theorem Ss_l12Expr_ok (Rs_l12Stmt) (hRs_l12Stmt : Ps_l12Stmt Rs_l12Stmt) (Rs_l12Expr) (hRs_l12Expr : Ps_l12Expr Rs_l12Expr) (x0_63 : List T_Token) (x0_64 : Int) (x0_65 : Int) (r_ : (Int × ByteArray × Int × (List T_Node) × (List T_Token) × Int × Int)) (h_ : Ss_l12Expr Rs_l12Stmt Rs_l12Expr x0_63 x0_64 x0_65 = some r_) : ev EE (.call 32 [.bx 0 0] [.b [.ls true (r_Token x0_63), .sc (.int .i64 x0_64), .sc (.int .i64 x0_65)]]) = some (Fs_l12Expr_ans x0_63 x0_64 x0_65 r_) := by
  rw [ev_eq]
  simp only [Ss_l12Expr] at h_
  obtain ⟨⟨r418, r419, r420, r421, r422, r423, r424⟩, h1_, h_⟩ := bS_some h_
  try dsimp only at h_
  have h1_f := Fs_l12Sum_ok Rs_l12Stmt hRs_l12Stmt Rs_l12Expr hRs_l12Expr x0_63 x0_64 x0_65 _ h1_
  try simp [Fs_l12Sum_ans] at h1_f
  obtain ⟨r425, h2_, h_⟩ := bS_some h_
  have h2_f := Fs_l12Sign_ok (⟨#[60]⟩ : ByteArray) r422 r423 r424 _ h2_
  try simp [Fs_l12Sign_ans] at h2_f
  rcases bI h_ with ⟨h3_, h_⟩ | ⟨h3_, h_⟩
  · obtain ⟨r426, h4_, h_⟩ := bS_some h_
    have h4_f := Fs_l12Next_ok r422 r423 r424 _ h4_
    try simp [Fs_l12Next_ans] at h4_f
    obtain ⟨⟨r427, r428, r429, r430, r431, r432, r433⟩, h5_, h_⟩ := bS_some h_
    try dsimp only at h_
    have h5_f := Fs_l12Sum_ok Rs_l12Stmt hRs_l12Stmt Rs_l12Expr hRs_l12Expr r422 r426 r424 _ h5_
    try simp [Fs_l12Sum_ans] at h5_f
    obtain ⟨⟨r434, r435, r436, r437⟩, h6_, h_⟩ := bS_some h_
    try dsimp only at h_
    have h6_f := Fs_l12Node_ok 22 [(⟨r418, r419, r420, r421⟩ : T_Node), (⟨r427, r428, r429, r430⟩ : T_Node)] _ h6_
    try simp [Fs_l12Node_ans] at h6_f
    cases h_
    simp +decide [-getElem?_pos, ir32, h1_f, h2_f, h3_, h4_f, h5_f, h6_f, Fs_l12Expr_ans]
  obtain ⟨r438, h4_, h_⟩ := bS_some h_
  have h4_f := Fs_l12Sign_ok (⟨#[61, 61]⟩ : ByteArray) r422 r423 r424 _ h4_
  try simp [Fs_l12Sign_ans] at h4_f
  rcases bI h_ with ⟨h5_, h_⟩ | ⟨h5_, h_⟩
  · obtain ⟨r439, h6_, h_⟩ := bS_some h_
    have h6_f := Fs_l12Next_ok r422 r423 r424 _ h6_
    try simp [Fs_l12Next_ans] at h6_f
    obtain ⟨⟨r440, r441, r442, r443, r444, r445, r446⟩, h7_, h_⟩ := bS_some h_
    try dsimp only at h_
    have h7_f := Fs_l12Sum_ok Rs_l12Stmt hRs_l12Stmt Rs_l12Expr hRs_l12Expr r422 r439 r424 _ h7_
    try simp [Fs_l12Sum_ans] at h7_f
    obtain ⟨⟨r447, r448, r449, r450⟩, h8_, h_⟩ := bS_some h_
    try dsimp only at h_
    have h8_f := Fs_l12Node_ok 23 [(⟨r418, r419, r420, r421⟩ : T_Node), (⟨r440, r441, r442, r443⟩ : T_Node)] _ h8_
    try simp [Fs_l12Node_ans] at h8_f
    cases h_
    simp +decide [-getElem?_pos, ir32, h1_f, h2_f, h3_, h4_f, h5_, h6_f, h7_f, h8_f, Fs_l12Expr_ans]
  cases h_
  simp +decide [-getElem?_pos, ir32, h1_f, h2_f, h3_, h4_f, h5_, Fs_l12Expr_ans]
def Fs_l12Exprn (Rs_l12Stmt : (List T_Token) → Int → Int → Option (Int × ByteArray × Int × (List T_Node) × (List T_Token) × Int × Int)) : Nat → (List T_Token) → Int → Int → Option (Int × ByteArray × Int × (List T_Node) × (List T_Token) × Int × Int)
  | 0 => fun _ _ _ => none
  | n_ + 1 => Ss_l12Expr Rs_l12Stmt (Fs_l12Exprn Rs_l12Stmt n_)
def Fs_l12Expr (Rs_l12Stmt : (List T_Token) → Int → Int → Option (Int × ByteArray × Int × (List T_Node) × (List T_Token) × Int × Int)) (x0_63 : List T_Token) (x0_64 : Int) (x0_65 : Int) : Option (Int × ByteArray × Int × (List T_Node) × (List T_Token) × Int × Int) := Fs_l12Exprn Rs_l12Stmt FU x0_63 x0_64 x0_65
theorem Fs_l12Exprn_ok (Rs_l12Stmt) (hRs_l12Stmt : Ps_l12Stmt Rs_l12Stmt) : ∀ (n_ : Nat) (x0_63 : List T_Token) (x0_64 : Int) (x0_65 : Int) (r_ : (Int × ByteArray × Int × (List T_Node) × (List T_Token) × Int × Int)), Fs_l12Exprn Rs_l12Stmt n_ x0_63 x0_64 x0_65 = some r_ → ev EE (.call 32 [.bx 0 0] [.b [.ls true (r_Token x0_63), .sc (.int .i64 x0_64), .sc (.int .i64 x0_65)]]) = some (Fs_l12Expr_ans x0_63 x0_64 x0_65 r_) := by
  intro n_
  induction n_ with
  | zero => intro x0_63 x0_64 x0_65 r_ h_; cases h_
  | succ n_ ih_ => intro x0_63 x0_64 x0_65 r_ h_; exact Ss_l12Expr_ok Rs_l12Stmt hRs_l12Stmt (Fs_l12Exprn Rs_l12Stmt n_) ih_ x0_63 x0_64 x0_65 r_ h_
theorem Fs_l12Expr_ok (Rs_l12Stmt) (hRs_l12Stmt : Ps_l12Stmt Rs_l12Stmt) (x0_63 : List T_Token) (x0_64 : Int) (x0_65 : Int) (r_ : (Int × ByteArray × Int × (List T_Node) × (List T_Token) × Int × Int)) (h_ : Fs_l12Expr Rs_l12Stmt x0_63 x0_64 x0_65 = some r_) : ev EE (.call 32 [.bx 0 0] [.b [.ls true (r_Token x0_63), .sc (.int .i64 x0_64), .sc (.int .i64 x0_65)]]) = some (Fs_l12Expr_ans x0_63 x0_64 x0_65 r_) := Fs_l12Exprn_ok Rs_l12Stmt hRs_l12Stmt FU x0_63 x0_64 x0_65 r_ h_
/-- spec.l12Cond -/
def Fs_l12Cond (Rs_l12Stmt : (List T_Token) → Int → Int → Option (Int × ByteArray × Int × (List T_Node) × (List T_Token) × Int × Int)) (a1_13 : Int) (x0_131 : List T_Token) (x0_132 : Int) (x0_133 : Int) : Option (Int × ByteArray × Int × (List T_Node) × (List T_Token) × Int × Int) :=
  bS (Fs_l12Next x0_131 x0_132 x0_133) fun r461 =>
  bS (Fs_l12Take (⟨#[40]⟩ : ByteArray) x0_131 r461 x0_133) fun (r462, r463) =>
  bS (Fs_l12Expr Rs_l12Stmt x0_131 r462 r463) fun (r464, r465, r466, r467, r468, r469, r470) =>
  bS (Fs_l12Take (⟨#[41]⟩ : ByteArray) r468 r469 r470) fun (r471, r472) =>
  bS (Fs_l12Block Rs_l12Stmt r468 r471 r472) fun (r473, r474, r475, r476, r477, r478, r479) =>
  bS (Fs_l12Node a1_13 [(⟨r464, r465, r466, r467⟩ : T_Node), (⟨r473, r474, r475, r476⟩ : T_Node)]) fun (r480, r481, r482, r483) =>
  if a1_13 = 5 then
    bS (Fs_l12Is (⟨#[101, 108, 115, 101]⟩ : ByteArray) r477 r478 r479) fun r484 =>
    if r484 = true then
      bS (Fs_l12Next r477 r478 r479) fun r485 =>
      bS (Fs_l12Block Rs_l12Stmt r477 r485 r479) fun (r486, r487, r488, r489, r490, r491, r492) =>
      if lim (r483.length + 1) 56 = true then
      some (r480, r481, r482, r483 ++ [(⟨r486, r487, r488, r489⟩ : T_Node)], r490, r491, r492)
      else none
    else
      some (r480, r481, r482, r483, r477, r478, r479)
  else
    some (r480, r481, r482, r483, r477, r478, r479)
def Fs_l12Cond_ans (a1_13 : Int) (x0_131 : List T_Token) (x0_132 : Int) (x0_133 : Int) : (Int × ByteArray × Int × (List T_Node) × (List T_Token) × Int × Int) → Ans
  | (q130, q131, q132, q133, q134, q135, q136) => .val (.ag [.sc (.int .i64 q130), .sc (.string q131), .sc (.int .i64 q132), .ls true (r_Node true q133)]) [.b [.ls true (r_Token q134), .sc (.int .i64 q135), .sc (.int .i64 q136)]]
theorem Fs_l12Cond_ok (Rs_l12Stmt) (hRs_l12Stmt : Ps_l12Stmt Rs_l12Stmt) (a1_13 : Int) (x0_131 : List T_Token) (x0_132 : Int) (x0_133 : Int) (r_ : (Int × ByteArray × Int × (List T_Node) × (List T_Token) × Int × Int)) (h_ : Fs_l12Cond Rs_l12Stmt a1_13 x0_131 x0_132 x0_133 = some r_) : ev EE (.call 33 [.bx 0 0, .sc (.int .i64 a1_13)] [.b [.ls true (r_Token x0_131), .sc (.int .i64 x0_132), .sc (.int .i64 x0_133)]]) = some (Fs_l12Cond_ans a1_13 x0_131 x0_132 x0_133 r_) := by
  rw [ev_eq]
  simp only [Fs_l12Cond] at h_
  obtain ⟨r461, h1_, h_⟩ := bS_some h_
  have h1_f := Fs_l12Next_ok x0_131 x0_132 x0_133 _ h1_
  try simp [Fs_l12Next_ans] at h1_f
  obtain ⟨⟨r462, r463⟩, h2_, h_⟩ := bS_some h_
  try dsimp only at h_
  have h2_f := Fs_l12Take_ok (⟨#[40]⟩ : ByteArray) x0_131 r461 x0_133 _ h2_
  try simp [Fs_l12Take_ans] at h2_f
  obtain ⟨⟨r464, r465, r466, r467, r468, r469, r470⟩, h3_, h_⟩ := bS_some h_
  try dsimp only at h_
  have h3_f := Fs_l12Expr_ok Rs_l12Stmt hRs_l12Stmt x0_131 r462 r463 _ h3_
  try simp [Fs_l12Expr_ans] at h3_f
  obtain ⟨⟨r471, r472⟩, h4_, h_⟩ := bS_some h_
  try dsimp only at h_
  have h4_f := Fs_l12Take_ok (⟨#[41]⟩ : ByteArray) r468 r469 r470 _ h4_
  try simp [Fs_l12Take_ans] at h4_f
  obtain ⟨⟨r473, r474, r475, r476, r477, r478, r479⟩, h5_, h_⟩ := bS_some h_
  try dsimp only at h_
  have h5_f := Fs_l12Block_ok Rs_l12Stmt hRs_l12Stmt r468 r471 r472 _ h5_
  try simp [Fs_l12Block_ans] at h5_f
  obtain ⟨⟨r480, r481, r482, r483⟩, h6_, h_⟩ := bS_some h_
  try dsimp only at h_
  have h6_f := Fs_l12Node_ok a1_13 [(⟨r464, r465, r466, r467⟩ : T_Node), (⟨r473, r474, r475, r476⟩ : T_Node)] _ h6_
  try simp [Fs_l12Node_ans] at h6_f
  rcases bI h_ with ⟨h7_, h_⟩ | ⟨h7_, h_⟩
  · obtain ⟨r484, h8_, h_⟩ := bS_some h_
    have h8_f := Fs_l12Is_ok (⟨#[101, 108, 115, 101]⟩ : ByteArray) r477 r478 r479 _ h8_
    try simp [Fs_l12Is_ans] at h8_f
    rcases bI h_ with ⟨h9_, h_⟩ | ⟨h9_, h_⟩
    · obtain ⟨r485, h10_, h_⟩ := bS_some h_
      have h10_f := Fs_l12Next_ok r477 r478 r479 _ h10_
      try simp [Fs_l12Next_ans] at h10_f
      obtain ⟨⟨r486, r487, r488, r489, r490, r491, r492⟩, h11_, h_⟩ := bS_some h_
      try dsimp only at h_
      have h11_f := Fs_l12Block_ok Rs_l12Stmt hRs_l12Stmt r477 r485 r479 _ h11_
      try simp [Fs_l12Block_ans] at h11_f
      obtain ⟨h12_, h_⟩ := bP h_
      cases h_
      simp +decide [-getElem?_pos, ir33, h1_f, h2_f, h3_f, h4_f, h5_f, h6_f, eq_true h7_, h8_f, h9_, h10_f, h11_f, h12_, Fs_l12Cond_ans]
    cases h_
    simp +decide [-getElem?_pos, ir33, h1_f, h2_f, h3_f, h4_f, h5_f, h6_f, eq_true h7_, h8_f, h9_, Fs_l12Cond_ans]
  cases h_
  simp +decide [-getElem?_pos, ir33, h1_f, h2_f, h3_f, h4_f, h5_f, h6_f, h7_, Fs_l12Cond_ans]
/-- spec.l12Ends -/
def Fs_l12Ends (Rs_l12Stmt : (List T_Token) → Int → Int → Option (Int × ByteArray × Int × (List T_Node) × (List T_Token) × Int × Int)) (a1_14 : Int) (x0_134 : List T_Token) (x0_135 : Int) (x0_136 : Int) : Option (Int × ByteArray × Int × (List T_Node) × (List T_Token) × Int × Int) :=
  bS (Fs_l12Next x0_134 x0_135 x0_136) fun r509 =>
  bS (Fs_l12Expr Rs_l12Stmt x0_134 r509 x0_136) fun (r510, r511, r512, r513, r514, r515, r516) =>
  bS (Fs_l12Take (⟨#[59]⟩ : ByteArray) r514 r515 r516) fun (r517, r518) =>
  bS (Fs_l12Node a1_14 [(⟨r510, r511, r512, r513⟩ : T_Node)]) fun (r519, r520, r521, r522) =>
  some (r519, r520, r521, r522, r514, r517, r518)
def Fs_l12Ends_ans (a1_14 : Int) (x0_134 : List T_Token) (x0_135 : Int) (x0_136 : Int) : (Int × ByteArray × Int × (List T_Node) × (List T_Token) × Int × Int) → Ans
  | (q137, q138, q139, q140, q141, q142, q143) => .val (.ag [.sc (.int .i64 q137), .sc (.string q138), .sc (.int .i64 q139), .ls true (r_Node true q140)]) [.b [.ls true (r_Token q141), .sc (.int .i64 q142), .sc (.int .i64 q143)]]
theorem Fs_l12Ends_ok (Rs_l12Stmt) (hRs_l12Stmt : Ps_l12Stmt Rs_l12Stmt) (a1_14 : Int) (x0_134 : List T_Token) (x0_135 : Int) (x0_136 : Int) (r_ : (Int × ByteArray × Int × (List T_Node) × (List T_Token) × Int × Int)) (h_ : Fs_l12Ends Rs_l12Stmt a1_14 x0_134 x0_135 x0_136 = some r_) : ev EE (.call 34 [.bx 0 0, .sc (.int .i64 a1_14)] [.b [.ls true (r_Token x0_134), .sc (.int .i64 x0_135), .sc (.int .i64 x0_136)]]) = some (Fs_l12Ends_ans a1_14 x0_134 x0_135 x0_136 r_) := by
  rw [ev_eq]
  simp only [Fs_l12Ends] at h_
  obtain ⟨r509, h1_, h_⟩ := bS_some h_
  have h1_f := Fs_l12Next_ok x0_134 x0_135 x0_136 _ h1_
  try simp [Fs_l12Next_ans] at h1_f
  obtain ⟨⟨r510, r511, r512, r513, r514, r515, r516⟩, h2_, h_⟩ := bS_some h_
  try dsimp only at h_
  have h2_f := Fs_l12Expr_ok Rs_l12Stmt hRs_l12Stmt x0_134 r509 x0_136 _ h2_
  try simp [Fs_l12Expr_ans] at h2_f
  obtain ⟨⟨r517, r518⟩, h3_, h_⟩ := bS_some h_
  try dsimp only at h_
  have h3_f := Fs_l12Take_ok (⟨#[59]⟩ : ByteArray) r514 r515 r516 _ h3_
  try simp [Fs_l12Take_ans] at h3_f
  obtain ⟨⟨r519, r520, r521, r522⟩, h4_, h_⟩ := bS_some h_
  try dsimp only at h_
  have h4_f := Fs_l12Node_ok a1_14 [(⟨r510, r511, r512, r513⟩ : T_Node)] _ h4_
  try simp [Fs_l12Node_ans] at h4_f
  cases h_
  simp +decide [-getElem?_pos, ir34, h1_f, h2_f, h3_f, h4_f, Fs_l12Ends_ans]
/-- spec.l12Stmt -/
def Ss_l12Stmt (Rs_l12Stmt : (List T_Token) → Int → Int → Option (Int × ByteArray × Int × (List T_Node) × (List T_Token) × Int × Int)) (x0_38 : List T_Token) (x0_39 : Int) (x0_40 : Int) : Option (Int × ByteArray × Int × (List T_Node) × (List T_Token) × Int × Int) :=
  bS (Fs_l12Is (⟨#[108, 101, 116]⟩ : ByteArray) x0_38 x0_39 x0_40) fun r84 =>
  if r84 = true then
    bS (Fs_l12Next x0_38 x0_39 x0_40) fun r85 =>
    bS (Fs_l12Name false x0_38 r85 x0_40) fun (r102, r103, r104) =>
    bS (Fs_l12Take (⟨#[61]⟩ : ByteArray) x0_38 r103 r104) fun (r112, r113) =>
    bS (Fs_l12Expr Rs_l12Stmt x0_38 r112 r113) fun (r451, r452, r453, r454, r455, r456, r457) =>
    bS (Fs_l12Take (⟨#[59]⟩ : ByteArray) r455 r456 r457) fun (r458, r459) =>
    some (2, r102, 0, [(⟨r451, r452, r453, r454⟩ : T_Node)], r455, r458, r459)
  else
  bS (Fs_l12Is (⟨#[105, 102]⟩ : ByteArray) x0_38 x0_39 x0_40) fun r460 =>
  if r460 = true then
    bS (Fs_l12Cond Rs_l12Stmt 5 x0_38 x0_39 x0_40) fun (r493, r494, r495, r496, r497, r498, r499) =>
    some (r493, r494, r495, r496, r497, r498, r499)
  else
  bS (Fs_l12Is (⟨#[119, 104, 105, 108, 101]⟩ : ByteArray) x0_38 x0_39 x0_40) fun r500 =>
  if r500 = true then
    bS (Fs_l12Cond Rs_l12Stmt 6 x0_38 x0_39 x0_40) fun (r501, r502, r503, r504, r505, r506, r507) =>
    some (r501, r502, r503, r504, r505, r506, r507)
  else
  bS (Fs_l12Is (⟨#[114, 101, 116, 117, 114, 110]⟩ : ByteArray) x0_38 x0_39 x0_40) fun r508 =>
  if r508 = true then
    bS (Fs_l12Ends Rs_l12Stmt 7 x0_38 x0_39 x0_40) fun (r523, r524, r525, r526, r527, r528, r529) =>
    some (r523, r524, r525, r526, r527, r528, r529)
  else
  bS (Fs_l12Is (⟨#[112, 114, 105, 110, 116]⟩ : ByteArray) x0_38 x0_39 x0_40) fun r530 =>
  if r530 = true then
    bS (Fs_l12Ends Rs_l12Stmt 8 x0_38 x0_39 x0_40) fun (r531, r532, r533, r534, r535, r536, r537) =>
    some (r531, r532, r533, r534, r535, r536, r537)
  else
  bS (Fs_l12Expr Rs_l12Stmt x0_38 x0_39 x0_40) fun (r538, r539, r540, r541, r542, r543, r544) =>
  bS (Fs_l12Sign (⟨#[61]⟩ : ByteArray) r542 r543 r544) fun r545 =>
  if r545 = true then
    if r538 = 16 then
      bS (Fs_l12Next r542 r543 r544) fun r546 =>
      bS (Fs_l12Expr Rs_l12Stmt r542 r546 r544) fun (r547, r548, r549, r550, r551, r552, r553) =>
      bS (Fs_l12Take (⟨#[59]⟩ : ByteArray) r551 r552 r553) fun (r554, r555) =>
      some (3, r539, 0, [(⟨r547, r548, r549, r550⟩ : T_Node)], r551, r554, r555)
    else
    if r538 = 17 then
      bS (Fs_l12Next r542 r543 r544) fun r556 =>
      bS (Fs_l12Expr Rs_l12Stmt r542 r556 r544) fun (r557, r558, r559, r560, r561, r562, r563) =>
      bS (Fs_l12Take (⟨#[59]⟩ : ByteArray) r561 r562 r563) fun (r564, r565) =>
      bS (getI r541 0) fun e6 =>
      some (4, r539, 0, [(⟨e6.op_, e6.s_, e6.n_, e6.kids_⟩ : T_Node), (⟨r557, r558, r559, r560⟩ : T_Node)], r561, r564, r565)
    else
    bS (Fs_l12Take (⟨#[59]⟩ : ByteArray) r542 r543 r544) fun (r566, r567) =>
    bS (Fs_l12Node 9 [(⟨r538, r539, r540, r541⟩ : T_Node)]) fun (r568, r569, r570, r571) =>
    some (r568, r569, r570, r571, r542, r566, r567)
  else
  bS (Fs_l12Take (⟨#[59]⟩ : ByteArray) r542 r543 r544) fun (r572, r573) =>
  bS (Fs_l12Node 9 [(⟨r538, r539, r540, r541⟩ : T_Node)]) fun (r574, r575, r576, r577) =>
  some (r574, r575, r576, r577, r542, r572, r573)
theorem Ss_l12Stmt_ok (Rs_l12Stmt) (hRs_l12Stmt : Ps_l12Stmt Rs_l12Stmt) (x0_38 : List T_Token) (x0_39 : Int) (x0_40 : Int) (r_ : (Int × ByteArray × Int × (List T_Node) × (List T_Token) × Int × Int)) (h_ : Ss_l12Stmt Rs_l12Stmt x0_38 x0_39 x0_40 = some r_) : ev EE (.call 25 [.bx 0 0] [.b [.ls true (r_Token x0_38), .sc (.int .i64 x0_39), .sc (.int .i64 x0_40)]]) = some (Fs_l12Stmt_ans x0_38 x0_39 x0_40 r_) := by
  rw [ev_eq]
  simp only [Ss_l12Stmt] at h_
  obtain ⟨r84, h1_, h_⟩ := bS_some h_
  have h1_f := Fs_l12Is_ok (⟨#[108, 101, 116]⟩ : ByteArray) x0_38 x0_39 x0_40 _ h1_
  try simp [Fs_l12Is_ans] at h1_f
  rcases bI h_ with ⟨h2_, h_⟩ | ⟨h2_, h_⟩
  · obtain ⟨r85, h3_, h_⟩ := bS_some h_
    have h3_f := Fs_l12Next_ok x0_38 x0_39 x0_40 _ h3_
    try simp [Fs_l12Next_ans] at h3_f
    obtain ⟨⟨r102, r103, r104⟩, h4_, h_⟩ := bS_some h_
    try dsimp only at h_
    have h4_f := Fs_l12Name_ok false x0_38 r85 x0_40 _ h4_
    try simp [Fs_l12Name_ans] at h4_f
    obtain ⟨⟨r112, r113⟩, h5_, h_⟩ := bS_some h_
    try dsimp only at h_
    have h5_f := Fs_l12Take_ok (⟨#[61]⟩ : ByteArray) x0_38 r103 r104 _ h5_
    try simp [Fs_l12Take_ans] at h5_f
    obtain ⟨⟨r451, r452, r453, r454, r455, r456, r457⟩, h6_, h_⟩ := bS_some h_
    try dsimp only at h_
    have h6_f := Fs_l12Expr_ok Rs_l12Stmt hRs_l12Stmt x0_38 r112 r113 _ h6_
    try simp [Fs_l12Expr_ans] at h6_f
    obtain ⟨⟨r458, r459⟩, h7_, h_⟩ := bS_some h_
    try dsimp only at h_
    have h7_f := Fs_l12Take_ok (⟨#[59]⟩ : ByteArray) r455 r456 r457 _ h7_
    try simp [Fs_l12Take_ans] at h7_f
    cases h_
    simp +decide [-getElem?_pos, ir25, h1_f, h2_, h3_f, h4_f, h5_f, h6_f, h7_f, Fs_l12Stmt_ans]
  obtain ⟨r460, h3_, h_⟩ := bS_some h_
  have h3_f := Fs_l12Is_ok (⟨#[105, 102]⟩ : ByteArray) x0_38 x0_39 x0_40 _ h3_
  try simp [Fs_l12Is_ans] at h3_f
  rcases bI h_ with ⟨h4_, h_⟩ | ⟨h4_, h_⟩
  · obtain ⟨⟨r493, r494, r495, r496, r497, r498, r499⟩, h5_, h_⟩ := bS_some h_
    try dsimp only at h_
    have h5_f := Fs_l12Cond_ok Rs_l12Stmt hRs_l12Stmt 5 x0_38 x0_39 x0_40 _ h5_
    try simp [Fs_l12Cond_ans] at h5_f
    cases h_
    simp +decide [-getElem?_pos, ir25, h1_f, h2_, h3_f, h4_, h5_f, Fs_l12Stmt_ans]
  obtain ⟨r500, h5_, h_⟩ := bS_some h_
  have h5_f := Fs_l12Is_ok (⟨#[119, 104, 105, 108, 101]⟩ : ByteArray) x0_38 x0_39 x0_40 _ h5_
  try simp [Fs_l12Is_ans] at h5_f
  rcases bI h_ with ⟨h6_, h_⟩ | ⟨h6_, h_⟩
  · obtain ⟨⟨r501, r502, r503, r504, r505, r506, r507⟩, h7_, h_⟩ := bS_some h_
    try dsimp only at h_
    have h7_f := Fs_l12Cond_ok Rs_l12Stmt hRs_l12Stmt 6 x0_38 x0_39 x0_40 _ h7_
    try simp [Fs_l12Cond_ans] at h7_f
    cases h_
    simp +decide [-getElem?_pos, ir25, h1_f, h2_, h3_f, h4_, h5_f, h6_, h7_f, Fs_l12Stmt_ans]
  obtain ⟨r508, h7_, h_⟩ := bS_some h_
  have h7_f := Fs_l12Is_ok (⟨#[114, 101, 116, 117, 114, 110]⟩ : ByteArray) x0_38 x0_39 x0_40 _ h7_
  try simp [Fs_l12Is_ans] at h7_f
  rcases bI h_ with ⟨h8_, h_⟩ | ⟨h8_, h_⟩
  · obtain ⟨⟨r523, r524, r525, r526, r527, r528, r529⟩, h9_, h_⟩ := bS_some h_
    try dsimp only at h_
    have h9_f := Fs_l12Ends_ok Rs_l12Stmt hRs_l12Stmt 7 x0_38 x0_39 x0_40 _ h9_
    try simp [Fs_l12Ends_ans] at h9_f
    cases h_
    simp +decide [-getElem?_pos, ir25, h1_f, h2_, h3_f, h4_, h5_f, h6_, h7_f, h8_, h9_f, Fs_l12Stmt_ans]
  obtain ⟨r530, h9_, h_⟩ := bS_some h_
  have h9_f := Fs_l12Is_ok (⟨#[112, 114, 105, 110, 116]⟩ : ByteArray) x0_38 x0_39 x0_40 _ h9_
  try simp [Fs_l12Is_ans] at h9_f
  rcases bI h_ with ⟨h10_, h_⟩ | ⟨h10_, h_⟩
  · obtain ⟨⟨r531, r532, r533, r534, r535, r536, r537⟩, h11_, h_⟩ := bS_some h_
    try dsimp only at h_
    have h11_f := Fs_l12Ends_ok Rs_l12Stmt hRs_l12Stmt 8 x0_38 x0_39 x0_40 _ h11_
    try simp [Fs_l12Ends_ans] at h11_f
    cases h_
    simp +decide [-getElem?_pos, ir25, h1_f, h2_, h3_f, h4_, h5_f, h6_, h7_f, h8_, h9_f, h10_, h11_f, Fs_l12Stmt_ans]
  obtain ⟨⟨r538, r539, r540, r541, r542, r543, r544⟩, h11_, h_⟩ := bS_some h_
  try dsimp only at h_
  have h11_f := Fs_l12Expr_ok Rs_l12Stmt hRs_l12Stmt x0_38 x0_39 x0_40 _ h11_
  try simp [Fs_l12Expr_ans] at h11_f
  obtain ⟨r545, h12_, h_⟩ := bS_some h_
  have h12_f := Fs_l12Sign_ok (⟨#[61]⟩ : ByteArray) r542 r543 r544 _ h12_
  try simp [Fs_l12Sign_ans] at h12_f
  rcases bI h_ with ⟨h13_, h_⟩ | ⟨h13_, h_⟩
  · rcases bI h_ with ⟨h14_, h_⟩ | ⟨h14_, h_⟩
    · obtain ⟨r546, h15_, h_⟩ := bS_some h_
      have h15_f := Fs_l12Next_ok r542 r543 r544 _ h15_
      try simp [Fs_l12Next_ans] at h15_f
      obtain ⟨⟨r547, r548, r549, r550, r551, r552, r553⟩, h16_, h_⟩ := bS_some h_
      try dsimp only at h_
      have h16_f := Fs_l12Expr_ok Rs_l12Stmt hRs_l12Stmt r542 r546 r544 _ h16_
      try simp [Fs_l12Expr_ans] at h16_f
      obtain ⟨⟨r554, r555⟩, h17_, h_⟩ := bS_some h_
      try dsimp only at h_
      have h17_f := Fs_l12Take_ok (⟨#[59]⟩ : ByteArray) r551 r552 r553 _ h17_
      try simp [Fs_l12Take_ans] at h17_f
      cases h_
      simp +decide [-getElem?_pos, ir25, h1_f, h2_, h3_f, h4_, h5_f, h6_, h7_f, h8_, h9_f, h10_, h11_f, h12_f, h13_, eq_true h14_, h15_f, h16_f, h17_f, Fs_l12Stmt_ans]
    rcases bI h_ with ⟨h15_, h_⟩ | ⟨h15_, h_⟩
    · obtain ⟨r556, h16_, h_⟩ := bS_some h_
      have h16_f := Fs_l12Next_ok r542 r543 r544 _ h16_
      try simp [Fs_l12Next_ans] at h16_f
      obtain ⟨⟨r557, r558, r559, r560, r561, r562, r563⟩, h17_, h_⟩ := bS_some h_
      try dsimp only at h_
      have h17_f := Fs_l12Expr_ok Rs_l12Stmt hRs_l12Stmt r542 r556 r544 _ h17_
      try simp [Fs_l12Expr_ans] at h17_f
      obtain ⟨⟨r564, r565⟩, h18_, h_⟩ := bS_some h_
      try dsimp only at h_
      have h18_f := Fs_l12Take_ok (⟨#[59]⟩ : ByteArray) r561 r562 r563 _ h18_
      try simp [Fs_l12Take_ans] at h18_f
      obtain ⟨e6, h19_, h_⟩ := bS_some h_
      obtain ⟨h19_a, h19_b, h19_c, h19_d⟩ := r_Node_getI (o := true)  h19_
      try simp [-getElem?_pos] at h19_d
      try simp at h19_b; try simp at h19_c
      cases h_
      simp +decide [-getElem?_pos, ir25, h1_f, h2_, h3_f, h4_, h5_f, h6_, h7_f, h8_, h9_f, h10_, h11_f, h12_f, h13_, h14_, eq_true h15_, h16_f, h17_f, h18_f, h19_a, h19_b, h19_c, h19_d, Fs_l12Stmt_ans]
    obtain ⟨⟨r566, r567⟩, h16_, h_⟩ := bS_some h_
    try dsimp only at h_
    have h16_f := Fs_l12Take_ok (⟨#[59]⟩ : ByteArray) r542 r543 r544 _ h16_
    try simp [Fs_l12Take_ans] at h16_f
    obtain ⟨⟨r568, r569, r570, r571⟩, h17_, h_⟩ := bS_some h_
    try dsimp only at h_
    have h17_f := Fs_l12Node_ok 9 [(⟨r538, r539, r540, r541⟩ : T_Node)] _ h17_
    try simp [Fs_l12Node_ans] at h17_f
    cases h_
    simp +decide [-getElem?_pos, ir25, h1_f, h2_, h3_f, h4_, h5_f, h6_, h7_f, h8_, h9_f, h10_, h11_f, h12_f, h13_, h14_, h15_, h16_f, h17_f, Fs_l12Stmt_ans]
  obtain ⟨⟨r572, r573⟩, h14_, h_⟩ := bS_some h_
  try dsimp only at h_
  have h14_f := Fs_l12Take_ok (⟨#[59]⟩ : ByteArray) r542 r543 r544 _ h14_
  try simp [Fs_l12Take_ans] at h14_f
  obtain ⟨⟨r574, r575, r576, r577⟩, h15_, h_⟩ := bS_some h_
  try dsimp only at h_
  have h15_f := Fs_l12Node_ok 9 [(⟨r538, r539, r540, r541⟩ : T_Node)] _ h15_
  try simp [Fs_l12Node_ans] at h15_f
  cases h_
  simp +decide [-getElem?_pos, ir25, h1_f, h2_, h3_f, h4_, h5_f, h6_, h7_f, h8_, h9_f, h10_, h11_f, h12_f, h13_, h14_f, h15_f, Fs_l12Stmt_ans]
def Fs_l12Stmtn : Nat → (List T_Token) → Int → Int → Option (Int × ByteArray × Int × (List T_Node) × (List T_Token) × Int × Int)
  | 0 => fun _ _ _ => none
  | n_ + 1 => Ss_l12Stmt (Fs_l12Stmtn n_)
def Fs_l12Stmt (x0_38 : List T_Token) (x0_39 : Int) (x0_40 : Int) : Option (Int × ByteArray × Int × (List T_Node) × (List T_Token) × Int × Int) := Fs_l12Stmtn FU x0_38 x0_39 x0_40
theorem Fs_l12Stmtn_ok : ∀ (n_ : Nat) (x0_38 : List T_Token) (x0_39 : Int) (x0_40 : Int) (r_ : (Int × ByteArray × Int × (List T_Node) × (List T_Token) × Int × Int)), Fs_l12Stmtn n_ x0_38 x0_39 x0_40 = some r_ → ev EE (.call 25 [.bx 0 0] [.b [.ls true (r_Token x0_38), .sc (.int .i64 x0_39), .sc (.int .i64 x0_40)]]) = some (Fs_l12Stmt_ans x0_38 x0_39 x0_40 r_) := by
  intro n_
  induction n_ with
  | zero => intro x0_38 x0_39 x0_40 r_ h_; cases h_
  | succ n_ ih_ => intro x0_38 x0_39 x0_40 r_ h_; exact Ss_l12Stmt_ok (Fs_l12Stmtn n_) ih_ x0_38 x0_39 x0_40 r_ h_
theorem Fs_l12Stmt_ok (x0_38 : List T_Token) (x0_39 : Int) (x0_40 : Int) (r_ : (Int × ByteArray × Int × (List T_Node) × (List T_Token) × Int × Int)) (h_ : Fs_l12Stmt x0_38 x0_39 x0_40 = some r_) : ev EE (.call 25 [.bx 0 0] [.b [.ls true (r_Token x0_38), .sc (.int .i64 x0_39), .sc (.int .i64 x0_40)]]) = some (Fs_l12Stmt_ans x0_38 x0_39 x0_40 r_) := Fs_l12Stmtn_ok FU x0_38 x0_39 x0_40 r_ h_
def Ls_Parse_0 : Nat → Int → ByteArray → Int → (List T_Node) → (List T_Token) → Int → Int → Int → ByteArray → Int → (List T_Node) → Option ((List T_Token) × Int × Int × (List T_Node))
  | 0, _, _, _, _, _, _, _, _, _, _, _ => none
  | n_ + 1, x0_31, x0_32, x0_33, x0_34, x1_1, x1_2, x1_3, x2_1, x2_2, x2_3, x2_4 =>
  if x1_3 < 0 then
    bS (Fs_l12Now x1_1 x1_2 x1_3) fun (r76, r77, r78, r79) =>
    if r76 = 0 then
      some (x1_1, x1_2, x1_3, x2_4)
    else
    bS (Fs_l12Stmt x1_1 x1_2 x1_3) fun (r578, r579, r580, r581, r582, r583, r584) =>
    if lim (x2_4.length + 1) 56 = true then
    Ls_Parse_0 n_ x0_31 x0_32 x0_33 x0_34 r582 r583 r584 x2_1 x2_2 x2_3 (x2_4 ++ [(⟨r578, r579, r580, r581⟩ : T_Node)])
    else none
  else
    some (x1_1, x1_2, x1_3, x2_4)
def Ls_Parse_0_ans (x0_31 : Int) (x0_32 : ByteArray) (x0_33 : Int) (x0_34 : List T_Node) (x1_1 : List T_Token) (x1_2 : Int) (x1_3 : Int) (x2_1 : Int) (x2_2 : ByteArray) (x2_3 : Int) (x2_4 : List T_Node) : ((List T_Token) × Int × Int × (List T_Node)) → Ans
  | (x1_32, x1_33, x1_34, x2_42) => .out (.exit 0) { np := 0, tm := [(2, .bx 0 0), (6, .bx 1 0), (7, .bx 2 0)], ar := [(0, .a false (r_Node true x0_34)), (1, .a false (r_Token x1_32)), (2, .a false (r_Node true x2_42))], bx := [(0, .b [.sc (.int .i64 x0_31), .sc (.string x0_32), .sc (.int .i64 x0_33), .rf 0 0 x0_34.length]), (1, .b [.rf 1 0 x1_32.length, .sc (.int .i64 x1_33), .sc (.int .i64 x1_34)]), (2, .b [.sc (.int .i64 x2_1), .sc (.string x2_2), .sc (.int .i64 x2_3), .rf 2 0 x2_42.length])] }
theorem Ls_Parse_0_ok : ∀ (n_ : Nat) (x0_31 : Int) (x0_32 : ByteArray) (x0_33 : Int) (x0_34 : List T_Node) (x1_1 : List T_Token) (x1_2 : Int) (x1_3 : Int) (x2_1 : Int) (x2_2 : ByteArray) (x2_3 : Int) (x2_4 : List T_Node) (r_ : ((List T_Token) × Int × Int × (List T_Node))), Ls_Parse_0 n_ x0_31 x0_32 x0_33 x0_34 x1_1 x1_2 x1_3 x2_1 x2_2 x2_3 x2_4 = some r_ → ev EE (.loop lp19_0 [2, 6, 7] [2, 3, 6, 7] { np := 0, tm := [(2, .bx 0 0), (6, .bx 1 0), (7, .bx 2 0)], ar := [(0, .a false (r_Node true x0_34)), (1, .a false (r_Token x1_1)), (2, .a false (r_Node true x2_4))], bx := [(0, .b [.sc (.int .i64 x0_31), .sc (.string x0_32), .sc (.int .i64 x0_33), .rf 0 0 x0_34.length]), (1, .b [.rf 1 0 x1_1.length, .sc (.int .i64 x1_2), .sc (.int .i64 x1_3)]), (2, .b [.sc (.int .i64 x2_1), .sc (.string x2_2), .sc (.int .i64 x2_3), .rf 2 0 x2_4.length])] }) = some (Ls_Parse_0_ans x0_31 x0_32 x0_33 x0_34 x1_1 x1_2 x1_3 x2_1 x2_2 x2_3 x2_4 r_) := by
  intro n_
  induction n_ with
  | zero => intro x0_31 x0_32 x0_33 x0_34 x1_1 x1_2 x1_3 x2_1 x2_2 x2_3 x2_4 r_ h_; simp only [Ls_Parse_0] at h_; cases h_
  | succ n_ ih_ =>
    intro x0_31 x0_32 x0_33 x0_34 x1_1 x1_2 x1_3 x2_1 x2_2 x2_3 x2_4 r_ h_
    rw [ev_loop EE lp19_0.eq_1]
    simp only [Ls_Parse_0] at h_
    rcases bI h_ with ⟨h1_, h_⟩ | ⟨h1_, h_⟩
    · obtain ⟨⟨r76, r77, r78, r79⟩, h2_, h_⟩ := bS_some h_
      try dsimp only at h_
      have h2_f := Fs_l12Now_ok x1_1 x1_2 x1_3 _ h2_
      try simp [Fs_l12Now_ans] at h2_f
      rcases bI h_ with ⟨h3_, h_⟩ | ⟨h3_, h_⟩
      · cases h_
        simp +decide [-getElem?_pos, h1_, h2_f, eq_true h3_, Ls_Parse_0_ans]
      obtain ⟨⟨r578, r579, r580, r581, r582, r583, r584⟩, h4_, h_⟩ := bS_some h_
      try dsimp only at h_
      have h4_f := Fs_l12Stmt_ok x1_1 x1_2 x1_3 _ h4_
      try simp [Fs_l12Stmt_ans] at h4_f
      obtain ⟨h5_, h_⟩ := bP h_
      have q_ := ih_ x0_31 x0_32 x0_33 x0_34 r582 r583 r584 x2_1 x2_2 x2_3 (x2_4 ++ [(⟨r578, r579, r580, r581⟩ : T_Node)]) _ h_
      rcases r_ with ⟨x1_32, x1_33, x1_34, x2_42⟩
      all_goals (try simp [Ls_Parse_0_ans] at q_)
      all_goals simp +decide [-getElem?_pos, h1_, h2_f, h3_, h4_f, h5_, q_, Ls_Parse_0_ans]
    cases h_
    simp +decide [-getElem?_pos, h1_, Ls_Parse_0_ans]
def Fs_Size_ans (a0_20 : Int) (a0_21 : ByteArray) (a0_22 : Int) (a0_23 : List T_Node) : Int → Ans
  | q144 => .val (.sc (.int .i64 q144)) []
def Ps_Size (Rs_Size : Int → ByteArray → Int → (List T_Node) → Option Int) : Prop := ∀ (a0_20 : Int) (a0_21 : ByteArray) (a0_22 : Int) (a0_23 : List T_Node) (r_ : Int), Rs_Size a0_20 a0_21 a0_22 a0_23 = some r_ → ev EE (.call 10 [.ag [.sc (.int .i64 a0_20), .sc (.string a0_21), .sc (.int .i64 a0_22), .ls false (r_Node false a0_23)]] []) = some (Fs_Size_ans a0_20 a0_21 a0_22 a0_23 r_)
def Ls_Size_0 (Rs_Size : Int → ByteArray → Int → (List T_Node) → Option Int) : Nat → Int → Int → Int → ByteArray → Int → (List T_Node) → Option Int
  | 0, _, _, _, _, _, _ => none
  | n_ + 1, t3_8, t4_10, x0_137, x0_138, x0_139, x0_140 =>
  if t4_10 < (x0_140.length : Int) then
    bS (getI x0_140 t4_10) fun e7 =>
    bS (Rs_Size e7.op_ e7.s_ e7.n_ e7.kids_) fun r589 =>
    Ls_Size_0 Rs_Size n_ (IntKind.i64.wrap (t3_8 + r589)) (IntKind.i64.wrap (t4_10 + 1)) x0_137 x0_138 x0_139 x0_140
  else
    some t3_8
def Ls_Size_0_ans (t3_8 : Int) (t4_10 : Int) (x0_137 : Int) (x0_138 : ByteArray) (x0_139 : Int) (x0_140 : List T_Node) : Int → Ans
  | t3_9 => .out (.exit 0) { np := 0, tm := [(3, .sc (.int .i64 t3_9))], ar := [], bx := [] }
theorem Ls_Size_0_ok (Rs_Size) (hRs_Size : Ps_Size Rs_Size) : ∀ (n_ : Nat) (t3_8 : Int) (t4_10 : Int) (x0_137 : Int) (x0_138 : ByteArray) (x0_139 : Int) (x0_140 : List T_Node) (r_ : Int), Ls_Size_0 Rs_Size n_ t3_8 t4_10 x0_137 x0_138 x0_139 x0_140 = some r_ → ev EE (.loop lp10_0 [1, 3, 4] [2, 3] { np := 0, tm := [(1, .bx 0 0), (3, .sc (.int .i64 t3_8)), (4, .sc (.int .i64 t4_10))], ar := [], bx := [(0, .b [.sc (.int .i64 x0_137), .sc (.string x0_138), .sc (.int .i64 x0_139), .ls false (r_Node false x0_140)])] }) = some (Ls_Size_0_ans t3_8 t4_10 x0_137 x0_138 x0_139 x0_140 r_) := by
  intro n_
  induction n_ with
  | zero => intro t3_8 t4_10 x0_137 x0_138 x0_139 x0_140 r_ h_; simp only [Ls_Size_0] at h_; cases h_
  | succ n_ ih_ =>
    intro t3_8 t4_10 x0_137 x0_138 x0_139 x0_140 r_ h_
    rw [ev_loop EE lp10_0.eq_1]
    simp only [Ls_Size_0] at h_
    rcases bI h_ with ⟨h1_, h_⟩ | ⟨h1_, h_⟩
    · have h1_s := h1_; try simp at h1_s
      obtain ⟨e7, h3_, h_⟩ := bS_some h_
      obtain ⟨h3_a, h3_b, h3_c, h3_d⟩ := r_Node_getI (o := false)  h3_
      try simp [-getElem?_pos] at h3_d
      obtain ⟨r589, h7_, h_⟩ := bS_some h_
      have h7_f := hRs_Size e7.op_ e7.s_ e7.n_ e7.kids_ _ h7_
      try simp [Fs_Size_ans] at h7_f
      have q_ := ih_ (IntKind.i64.wrap (t3_8 + r589)) (IntKind.i64.wrap (t4_10 + 1)) x0_137 x0_138 x0_139 x0_140 _ h_
      rcases r_ with t3_9
      all_goals (try simp [Ls_Size_0_ans] at q_)
      all_goals simp +decide [-getElem?_pos, h1_, h1_s, h3_a, h3_b, h3_c, h3_d, h7_f, q_, Ls_Size_0_ans]
    have h1_s := h1_; try simp at h1_s
    cases h_
    simp +decide [-getElem?_pos, h1_, h1_s, Ls_Size_0_ans]
/-- spec.Size -/
def Ss_Size (Rs_Size : Int → ByteArray → Int → (List T_Node) → Option Int) (a0_20 : Int) (a0_21 : ByteArray) (a0_22 : Int) (a0_23 : List T_Node) : Option Int :=
  bS (Ls_Size_0 Rs_Size FU 1 0 a0_20 a0_21 a0_22 a0_23) fun r590 =>
  some r590
theorem Ss_Size_ok (Rs_Size) (hRs_Size : Ps_Size Rs_Size) (a0_20 : Int) (a0_21 : ByteArray) (a0_22 : Int) (a0_23 : List T_Node) (r_ : Int) (h_ : Ss_Size Rs_Size a0_20 a0_21 a0_22 a0_23 = some r_) : ev EE (.call 10 [.ag [.sc (.int .i64 a0_20), .sc (.string a0_21), .sc (.int .i64 a0_22), .ls false (r_Node false a0_23)]] []) = some (Fs_Size_ans a0_20 a0_21 a0_22 a0_23 r_) := by
  rw [ev_eq]
  simp only [Ss_Size] at h_
  obtain ⟨r590, h1_, h_⟩ := bS_some h_
  have h1_f := Ls_Size_0_ok Rs_Size hRs_Size FU 1 0 a0_20 a0_21 a0_22 a0_23 _ h1_
  try simp [Ls_Size_0_ans] at h1_f
  cases h_
  simp +decide [-getElem?_pos, ir10, h1_f, Fs_Size_ans]
def Fs_Sizen : Nat → Int → ByteArray → Int → (List T_Node) → Option Int
  | 0 => fun _ _ _ _ => none
  | n_ + 1 => Ss_Size (Fs_Sizen n_)
def Fs_Size (a0_20 : Int) (a0_21 : ByteArray) (a0_22 : Int) (a0_23 : List T_Node) : Option Int := Fs_Sizen FU a0_20 a0_21 a0_22 a0_23
theorem Fs_Sizen_ok : ∀ (n_ : Nat) (a0_20 : Int) (a0_21 : ByteArray) (a0_22 : Int) (a0_23 : List T_Node) (r_ : Int), Fs_Sizen n_ a0_20 a0_21 a0_22 a0_23 = some r_ → ev EE (.call 10 [.ag [.sc (.int .i64 a0_20), .sc (.string a0_21), .sc (.int .i64 a0_22), .ls false (r_Node false a0_23)]] []) = some (Fs_Size_ans a0_20 a0_21 a0_22 a0_23 r_) := by
  intro n_
  induction n_ with
  | zero => intro a0_20 a0_21 a0_22 a0_23 r_ h_; cases h_
  | succ n_ ih_ => intro a0_20 a0_21 a0_22 a0_23 r_ h_; exact Ss_Size_ok (Fs_Sizen n_) ih_ a0_20 a0_21 a0_22 a0_23 r_ h_
theorem Fs_Size_ok (a0_20 : Int) (a0_21 : ByteArray) (a0_22 : Int) (a0_23 : List T_Node) (r_ : Int) (h_ : Fs_Size a0_20 a0_21 a0_22 a0_23 = some r_) : ev EE (.call 10 [.ag [.sc (.int .i64 a0_20), .sc (.string a0_21), .sc (.int .i64 a0_22), .ls false (r_Node false a0_23)]] []) = some (Fs_Size_ans a0_20 a0_21 a0_22 a0_23 r_) := Fs_Sizen_ok FU a0_20 a0_21 a0_22 a0_23 r_ h_
def Fs_Deep_ans (a0_24 : Int) (a0_25 : ByteArray) (a0_26 : Int) (a0_27 : List T_Node) : Int → Ans
  | q145 => .val (.sc (.int .i64 q145)) []
def Ps_Deep (Rs_Deep : Int → ByteArray → Int → (List T_Node) → Option Int) : Prop := ∀ (a0_24 : Int) (a0_25 : ByteArray) (a0_26 : Int) (a0_27 : List T_Node) (r_ : Int), Rs_Deep a0_24 a0_25 a0_26 a0_27 = some r_ → ev EE (.call 9 [.ag [.sc (.int .i64 a0_24), .sc (.string a0_25), .sc (.int .i64 a0_26), .ls false (r_Node false a0_27)]] []) = some (Fs_Deep_ans a0_24 a0_25 a0_26 a0_27 r_)
/-- spec.l1Max -/
def Fs_l1Max (a0_28 : Int) (a1_15 : Int) : Option Int :=
  if a1_15 < a0_28 then
    some a0_28
  else
    some a1_15
def Fs_l1Max_ans (a0_28 : Int) (a1_15 : Int) : Int → Ans
  | q146 => .val (.sc (.int .i64 q146)) []
theorem Fs_l1Max_ok (a0_28 : Int) (a1_15 : Int) (r_ : Int) (h_ : Fs_l1Max a0_28 a1_15 = some r_) : ev EE (.call 13 [.sc (.int .i64 a0_28), .sc (.int .i64 a1_15)] []) = some (Fs_l1Max_ans a0_28 a1_15 r_) := by
  rw [ev_eq]
  simp only [Fs_l1Max] at h_
  rcases bI h_ with ⟨h1_, h_⟩ | ⟨h1_, h_⟩
  · cases h_
    simp +decide [-getElem?_pos, ir13, h1_, Fs_l1Max_ans]
  cases h_
  simp +decide [-getElem?_pos, ir13, h1_, Fs_l1Max_ans]
def Ls_Deep_0 (Rs_Deep : Int → ByteArray → Int → (List T_Node) → Option Int) : Nat → Int → Int → Int → ByteArray → Int → (List T_Node) → Option Int
  | 0, _, _, _, _, _, _ => none
  | n_ + 1, t3_10, t4_11, x0_141, x0_142, x0_143, x0_144 =>
  if t4_11 < (x0_144.length : Int) then
    bS (getI x0_144 t4_11) fun e8 =>
    bS (Rs_Deep e8.op_ e8.s_ e8.n_ e8.kids_) fun r592 =>
    bS (Fs_l1Max t3_10 r592) fun r593 =>
    Ls_Deep_0 Rs_Deep n_ r593 (IntKind.i64.wrap (t4_11 + 1)) x0_141 x0_142 x0_143 x0_144
  else
    some t3_10
def Ls_Deep_0_ans (t3_10 : Int) (t4_11 : Int) (x0_141 : Int) (x0_142 : ByteArray) (x0_143 : Int) (x0_144 : List T_Node) : Int → Ans
  | t3_11 => .out (.exit 0) { np := 0, tm := [(3, .sc (.int .i64 t3_11))], ar := [], bx := [] }
theorem Ls_Deep_0_ok (Rs_Deep) (hRs_Deep : Ps_Deep Rs_Deep) : ∀ (n_ : Nat) (t3_10 : Int) (t4_11 : Int) (x0_141 : Int) (x0_142 : ByteArray) (x0_143 : Int) (x0_144 : List T_Node) (r_ : Int), Ls_Deep_0 Rs_Deep n_ t3_10 t4_11 x0_141 x0_142 x0_143 x0_144 = some r_ → ev EE (.loop lp9_0 [1, 3, 4] [2, 3] { np := 0, tm := [(1, .bx 0 0), (3, .sc (.int .i64 t3_10)), (4, .sc (.int .i64 t4_11))], ar := [], bx := [(0, .b [.sc (.int .i64 x0_141), .sc (.string x0_142), .sc (.int .i64 x0_143), .ls false (r_Node false x0_144)])] }) = some (Ls_Deep_0_ans t3_10 t4_11 x0_141 x0_142 x0_143 x0_144 r_) := by
  intro n_
  induction n_ with
  | zero => intro t3_10 t4_11 x0_141 x0_142 x0_143 x0_144 r_ h_; simp only [Ls_Deep_0] at h_; cases h_
  | succ n_ ih_ =>
    intro t3_10 t4_11 x0_141 x0_142 x0_143 x0_144 r_ h_
    rw [ev_loop EE lp9_0.eq_1]
    simp only [Ls_Deep_0] at h_
    rcases bI h_ with ⟨h1_, h_⟩ | ⟨h1_, h_⟩
    · have h1_s := h1_; try simp at h1_s
      obtain ⟨e8, h3_, h_⟩ := bS_some h_
      obtain ⟨h3_a, h3_b, h3_c, h3_d⟩ := r_Node_getI (o := false)  h3_
      try simp [-getElem?_pos] at h3_d
      obtain ⟨r592, h7_, h_⟩ := bS_some h_
      have h7_f := hRs_Deep e8.op_ e8.s_ e8.n_ e8.kids_ _ h7_
      try simp [Fs_Deep_ans] at h7_f
      obtain ⟨r593, h8_, h_⟩ := bS_some h_
      have h8_f := Fs_l1Max_ok t3_10 r592 _ h8_
      try simp [Fs_l1Max_ans] at h8_f
      have q_ := ih_ r593 (IntKind.i64.wrap (t4_11 + 1)) x0_141 x0_142 x0_143 x0_144 _ h_
      rcases r_ with t3_11
      all_goals (try simp [Ls_Deep_0_ans] at q_)
      all_goals simp +decide [-getElem?_pos, h1_, h1_s, h3_a, h3_b, h3_c, h3_d, h7_f, h8_f, q_, Ls_Deep_0_ans]
    have h1_s := h1_; try simp at h1_s
    cases h_
    simp +decide [-getElem?_pos, h1_, h1_s, Ls_Deep_0_ans]
end Go.Pv

namespace Go.Pv
set_option maxRecDepth 100000
set_option maxHeartbeats 40000000
set_option linter.unusedSimpArgs false
set_option linter.unusedVariables false
/-- spec.Deep -/
def Ss_Deep (Rs_Deep : Int → ByteArray → Int → (List T_Node) → Option Int) (a0_24 : Int) (a0_25 : ByteArray) (a0_26 : Int) (a0_27 : List T_Node) : Option Int :=
  bS (Ls_Deep_0 Rs_Deep FU 0 0 a0_24 a0_25 a0_26 a0_27) fun r594 =>
  some (IntKind.i64.wrap (r594 + 1))
theorem Ss_Deep_ok (Rs_Deep) (hRs_Deep : Ps_Deep Rs_Deep) (a0_24 : Int) (a0_25 : ByteArray) (a0_26 : Int) (a0_27 : List T_Node) (r_ : Int) (h_ : Ss_Deep Rs_Deep a0_24 a0_25 a0_26 a0_27 = some r_) : ev EE (.call 9 [.ag [.sc (.int .i64 a0_24), .sc (.string a0_25), .sc (.int .i64 a0_26), .ls false (r_Node false a0_27)]] []) = some (Fs_Deep_ans a0_24 a0_25 a0_26 a0_27 r_) := by
  rw [ev_eq]
  simp only [Ss_Deep] at h_
  obtain ⟨r594, h1_, h_⟩ := bS_some h_
  have h1_f := Ls_Deep_0_ok Rs_Deep hRs_Deep FU 0 0 a0_24 a0_25 a0_26 a0_27 _ h1_
  try simp [Ls_Deep_0_ans] at h1_f
  cases h_
  simp +decide [-getElem?_pos, ir9, h1_f, Fs_Deep_ans]
def Fs_Deepn : Nat → Int → ByteArray → Int → (List T_Node) → Option Int
  | 0 => fun _ _ _ _ => none
  | n_ + 1 => Ss_Deep (Fs_Deepn n_)
def Fs_Deep (a0_24 : Int) (a0_25 : ByteArray) (a0_26 : Int) (a0_27 : List T_Node) : Option Int := Fs_Deepn FU a0_24 a0_25 a0_26 a0_27
theorem Fs_Deepn_ok : ∀ (n_ : Nat) (a0_24 : Int) (a0_25 : ByteArray) (a0_26 : Int) (a0_27 : List T_Node) (r_ : Int), Fs_Deepn n_ a0_24 a0_25 a0_26 a0_27 = some r_ → ev EE (.call 9 [.ag [.sc (.int .i64 a0_24), .sc (.string a0_25), .sc (.int .i64 a0_26), .ls false (r_Node false a0_27)]] []) = some (Fs_Deep_ans a0_24 a0_25 a0_26 a0_27 r_) := by
  intro n_
  induction n_ with
  | zero => intro a0_24 a0_25 a0_26 a0_27 r_ h_; cases h_
  | succ n_ ih_ => intro a0_24 a0_25 a0_26 a0_27 r_ h_; exact Ss_Deep_ok (Fs_Deepn n_) ih_ a0_24 a0_25 a0_26 a0_27 r_ h_
theorem Fs_Deep_ok (a0_24 : Int) (a0_25 : ByteArray) (a0_26 : Int) (a0_27 : List T_Node) (r_ : Int) (h_ : Fs_Deep a0_24 a0_25 a0_26 a0_27 = some r_) : ev EE (.call 9 [.ag [.sc (.int .i64 a0_24), .sc (.string a0_25), .sc (.int .i64 a0_26), .ls false (r_Node false a0_27)]] []) = some (Fs_Deep_ans a0_24 a0_25 a0_26 a0_27 r_) := Fs_Deepn_ok FU a0_24 a0_25 a0_26 a0_27 r_ h_
/-- spec.Parse -/
def Fs_Parse (a0_5 : ByteArray) : Option (Int × ByteArray × Int × (List T_Node) × Int) :=
  bS (Fs_Tokens a0_5) fun (r74, r75) =>
  if 0 ≤ r75 then
    some (0, (⟨#[]⟩ : ByteArray), 0, [], r75)
  else
  bS (Ls_Parse_0 FU 0 (⟨#[]⟩ : ByteArray) 0 [] r74 0 (-1) 1 (⟨#[]⟩ : ByteArray) 0 []) fun (r585, r586, r587, r588) =>
  if 0 ≤ r587 then
    some (0, (⟨#[]⟩ : ByteArray), 0, [], r587)
  else
  bS (Fs_Size 1 (⟨#[]⟩ : ByteArray) 0 r588) fun r591 =>
  if 200 < r591 then
    some (0, (⟨#[]⟩ : ByteArray), 0, [], 0)
  else
  bS (Fs_Deep 1 (⟨#[]⟩ : ByteArray) 0 r588) fun r595 =>
  if 20 < r595 then
    some (0, (⟨#[]⟩ : ByteArray), 0, [], 0)
  else
    some (1, (⟨#[]⟩ : ByteArray), 0, r588, (-1))
def Fs_Parse_ans (a0_5 : ByteArray) : (Int × ByteArray × Int × (List T_Node) × Int) → Ans
  | (q147, q148, q149, q150, q151) => .val (.tu [.ag [.sc (.int .i64 q147), .sc (.string q148), .sc (.int .i64 q149), .ls true (r_Node true q150)], .sc (.int .i64 q151)]) []
theorem Fs_Parse_ok (a0_5 : ByteArray) (r_ : (Int × ByteArray × Int × (List T_Node) × Int)) (h_ : Fs_Parse a0_5 = some r_) : ev EE (.call 19 [.sc (.string a0_5)] []) = some (Fs_Parse_ans a0_5 r_) := by
  rw [ev_eq]
  simp only [Fs_Parse] at h_
  obtain ⟨⟨r74, r75⟩, h1_, h_⟩ := bS_some h_
  try dsimp only at h_
  have h1_f := Fs_Tokens_ok a0_5 _ h1_
  try simp [Fs_Tokens_ans] at h1_f
  rcases bI h_ with ⟨h2_, h_⟩ | ⟨h2_, h_⟩
  · cases h_
    simp +decide [-getElem?_pos, ir19, h1_f, h2_, Fs_Parse_ans]
  obtain ⟨⟨r585, r586, r587, r588⟩, h3_, h_⟩ := bS_some h_
  try dsimp only at h_
  have h3_f := Ls_Parse_0_ok FU 0 (⟨#[]⟩ : ByteArray) 0 [] r74 0 (-1) 1 (⟨#[]⟩ : ByteArray) 0 [] _ h3_
  try simp [Ls_Parse_0_ans] at h3_f
  rcases bI h_ with ⟨h4_, h_⟩ | ⟨h4_, h_⟩
  · cases h_
    simp +decide [-getElem?_pos, ir19, h1_f, h2_, h3_f, h4_, Fs_Parse_ans]
  obtain ⟨r591, h5_, h_⟩ := bS_some h_
  have h5_f := Fs_Size_ok 1 (⟨#[]⟩ : ByteArray) 0 r588 _ h5_
  try simp [Fs_Size_ans] at h5_f
  rcases bI h_ with ⟨h6_, h_⟩ | ⟨h6_, h_⟩
  · cases h_
    simp +decide [-getElem?_pos, ir19, h1_f, h2_, h3_f, h4_, h5_f, h6_, Fs_Parse_ans]
  obtain ⟨r595, h7_, h_⟩ := bS_some h_
  have h7_f := Fs_Deep_ok 1 (⟨#[]⟩ : ByteArray) 0 r588 _ h7_
  try simp [Fs_Deep_ans] at h7_f
  rcases bI h_ with ⟨h8_, h_⟩ | ⟨h8_, h_⟩
  · cases h_
    simp +decide [-getElem?_pos, ir19, h1_f, h2_, h3_f, h4_, h5_f, h6_, h7_f, h8_, Fs_Parse_ans]
  cases h_
  simp +decide [-getElem?_pos, ir19, h1_f, h2_, h3_f, h4_, h5_f, h6_, h7_f, h8_, Fs_Parse_ans]
/-- spec.l12DrawNode -/
def Fs_l12DrawNode (x0_4 : List Int) (x0_5 : Int) (x0_6 : Int) : Option (Int × ByteArray × Int × (List T_Node) × Int × Int) :=
  bS (Fs_l11DrawSource x0_4 x0_5 x0_6) fun (r28, r29, r30) =>
  bS (Fs_Parse r28) fun (r596, r597, r598, r599, r600) =>
  if 0 ≤ r600 then
    some (1, (⟨#[]⟩ : ByteArray), 0, [], r29, r30)
  else
    some (r596, r597, r598, r599, r29, r30)
def Fs_l12DrawNode_ans (x0_4 : List Int) (x0_5 : Int) (x0_6 : Int) : (Int × ByteArray × Int × (List T_Node) × Int × Int) → Ans
  | (q152, q153, q154, q155, q156, q157) => .val (.ag [.sc (.int .i64 q152), .sc (.string q153), .sc (.int .i64 q154), .ls true (r_Node true q155)]) [.b [.ls false (byi x0_4), .sc (.int .i64 q156), .sc (.int .i64 q157)]]
theorem Fs_l12DrawNode_ok (x0_4 : List Int) (x0_5 : Int) (x0_6 : Int) (r_ : (Int × ByteArray × Int × (List T_Node) × Int × Int)) (h_ : Fs_l12DrawNode x0_4 x0_5 x0_6 = some r_) : ev EE (.call 15 [.bx 0 0] [.b [.ls false (byi x0_4), .sc (.int .i64 x0_5), .sc (.int .i64 x0_6)]]) = some (Fs_l12DrawNode_ans x0_4 x0_5 x0_6 r_) := by
  rw [ev_eq]
  simp only [Fs_l12DrawNode] at h_
  obtain ⟨⟨r28, r29, r30⟩, h1_, h_⟩ := bS_some h_
  try dsimp only at h_
  have h1_f := Fs_l11DrawSource_ok x0_4 x0_5 x0_6 _ h1_
  try simp [Fs_l11DrawSource_ans] at h1_f
  obtain ⟨⟨r596, r597, r598, r599, r600⟩, h2_, h_⟩ := bS_some h_
  try dsimp only at h_
  have h2_f := Fs_Parse_ok r28 _ h2_
  try simp [Fs_Parse_ans] at h2_f
  rcases bI h_ with ⟨h3_, h_⟩ | ⟨h3_, h_⟩
  · cases h_
    simp +decide [-getElem?_pos, ir15, h1_f, h2_f, h3_, Fs_l12DrawNode_ans]
  cases h_
  simp +decide [-getElem?_pos, ir15, h1_f, h2_f, h3_, Fs_l12DrawNode_ans]
def Fs_l12Copy_ans (a0_29 : Int) (a0_30 : ByteArray) (a0_31 : Int) (a0_32 : List T_Node) : (Int × ByteArray × Int × (List T_Node)) → Ans
  | (q158, q159, q160, q161) => .val (.ag [.sc (.int .i64 q158), .sc (.string q159), .sc (.int .i64 q160), .ls true (r_Node true q161)]) []
def Ps_l12Copy (Rs_l12Copy : Int → ByteArray → Int → (List T_Node) → Option (Int × ByteArray × Int × (List T_Node))) : Prop := ∀ (a0_29 : Int) (a0_30 : ByteArray) (a0_31 : Int) (a0_32 : List T_Node) (r_ : (Int × ByteArray × Int × (List T_Node))), Rs_l12Copy a0_29 a0_30 a0_31 a0_32 = some r_ → ev EE (.call 14 [.ag [.sc (.int .i64 a0_29), .sc (.string a0_30), .sc (.int .i64 a0_31), .ls false (r_Node false a0_32)]] []) = some (Fs_l12Copy_ans a0_29 a0_30 a0_31 a0_32 r_)
def Ls_l12Copy_0 (Rs_l12Copy : Int → ByteArray → Int → (List T_Node) → Option (Int × ByteArray × Int × (List T_Node))) : Nat → Int → Int → ByteArray → Int → (List T_Node) → Int → ByteArray → Int → (List T_Node) → Int → ByteArray → Int → (List T_Node) → Option (List T_Node)
  | 0, _, _, _, _, _, _, _, _, _, _, _, _, _ => none
  | n_ + 1, t4_12, x0_145, x0_146, x0_147, x0_148, x1_35, x1_36, x1_37, x1_38, x2_43, x2_44, x2_45, x2_46 =>
  if t4_12 < (x0_148.length : Int) then
    bS (getI x0_148 t4_12) fun e9 =>
    bS (Rs_l12Copy e9.op_ e9.s_ e9.n_ e9.kids_) fun (r607, r608, r609, r610) =>
    if lim (x2_46.length + 1) 56 = true then
    Ls_l12Copy_0 Rs_l12Copy n_ (IntKind.i64.wrap (t4_12 + 1)) x0_145 x0_146 x0_147 x0_148 x1_35 x1_36 x1_37 x1_38 x2_43 x2_44 x2_45 (x2_46 ++ [(⟨r607, r608, r609, r610⟩ : T_Node)])
    else none
  else
    some x2_46
def Ls_l12Copy_0_ans (t4_12 : Int) (x0_145 : Int) (x0_146 : ByteArray) (x0_147 : Int) (x0_148 : List T_Node) (x1_35 : Int) (x1_36 : ByteArray) (x1_37 : Int) (x1_38 : List T_Node) (x2_43 : Int) (x2_44 : ByteArray) (x2_45 : Int) (x2_46 : List T_Node) : (List T_Node) → Ans
  | x1_39 => .out (.exit 0) { np := 0, tm := [(2, .bx 0 0), (3, .bx 1 0)], ar := [(0, .a false (r_Node true x1_38)), (1, .a false (r_Node true x1_39))], bx := [(0, .b [.sc (.int .i64 x1_35), .sc (.string x1_36), .sc (.int .i64 x1_37), .rf 0 0 x1_38.length]), (1, .b [.sc (.int .i64 x2_43), .sc (.string x2_44), .sc (.int .i64 x2_45), .rf 1 0 x1_39.length])] }
theorem Ls_l12Copy_0_ok (Rs_l12Copy) (hRs_l12Copy : Ps_l12Copy Rs_l12Copy) : ∀ (n_ : Nat) (t4_12 : Int) (x0_145 : Int) (x0_146 : ByteArray) (x0_147 : Int) (x0_148 : List T_Node) (x1_35 : Int) (x1_36 : ByteArray) (x1_37 : Int) (x1_38 : List T_Node) (x2_43 : Int) (x2_44 : ByteArray) (x2_45 : Int) (x2_46 : List T_Node) (r_ : (List T_Node)), Ls_l12Copy_0 Rs_l12Copy n_ t4_12 x0_145 x0_146 x0_147 x0_148 x1_35 x1_36 x1_37 x1_38 x2_43 x2_44 x2_45 x2_46 = some r_ → ev EE (.loop lp14_0 [1, 2, 3, 4] [2, 3] { np := 0, tm := [(1, .bx 0 0), (2, .bx 1 0), (3, .bx 2 0), (4, .sc (.int .i64 t4_12))], ar := [(0, .a false (r_Node true x1_38)), (1, .a false (r_Node true x2_46))], bx := [(0, .b [.sc (.int .i64 x0_145), .sc (.string x0_146), .sc (.int .i64 x0_147), .ls false (r_Node false x0_148)]), (1, .b [.sc (.int .i64 x1_35), .sc (.string x1_36), .sc (.int .i64 x1_37), .rf 0 0 x1_38.length]), (2, .b [.sc (.int .i64 x2_43), .sc (.string x2_44), .sc (.int .i64 x2_45), .rf 1 0 x2_46.length])] }) = some (Ls_l12Copy_0_ans t4_12 x0_145 x0_146 x0_147 x0_148 x1_35 x1_36 x1_37 x1_38 x2_43 x2_44 x2_45 x2_46 r_) := by
  intro n_
  induction n_ with
  | zero => intro t4_12 x0_145 x0_146 x0_147 x0_148 x1_35 x1_36 x1_37 x1_38 x2_43 x2_44 x2_45 x2_46 r_ h_; simp only [Ls_l12Copy_0] at h_; cases h_
  | succ n_ ih_ =>
    intro t4_12 x0_145 x0_146 x0_147 x0_148 x1_35 x1_36 x1_37 x1_38 x2_43 x2_44 x2_45 x2_46 r_ h_
    rw [ev_loop EE lp14_0.eq_1]
    simp only [Ls_l12Copy_0] at h_
    rcases bI h_ with ⟨h1_, h_⟩ | ⟨h1_, h_⟩
    · have h1_s := h1_; try simp at h1_s
      obtain ⟨e9, h3_, h_⟩ := bS_some h_
      obtain ⟨h3_a, h3_b, h3_c, h3_d⟩ := r_Node_getI (o := false)  h3_
      try simp [-getElem?_pos] at h3_d
      obtain ⟨⟨r607, r608, r609, r610⟩, h7_, h_⟩ := bS_some h_
      try dsimp only at h_
      have h7_f := hRs_l12Copy e9.op_ e9.s_ e9.n_ e9.kids_ _ h7_
      try simp [Fs_l12Copy_ans] at h7_f
      obtain ⟨h8_, h_⟩ := bP h_
      have q_ := ih_ (IntKind.i64.wrap (t4_12 + 1)) x0_145 x0_146 x0_147 x0_148 x1_35 x1_36 x1_37 x1_38 x2_43 x2_44 x2_45 (x2_46 ++ [(⟨r607, r608, r609, r610⟩ : T_Node)]) _ h_
      rcases r_ with x1_39
      all_goals (try simp [Ls_l12Copy_0_ans] at q_)
      all_goals simp +decide [-getElem?_pos, h1_, h1_s, h3_a, h3_b, h3_c, h3_d, h7_f, h8_, q_, Ls_l12Copy_0_ans]
    have h1_s := h1_; try simp at h1_s
    cases h_
    simp +decide [-getElem?_pos, h1_, h1_s, Ls_l12Copy_0_ans]
/-- spec.l12Copy -/
def Ss_l12Copy (Rs_l12Copy : Int → ByteArray → Int → (List T_Node) → Option (Int × ByteArray × Int × (List T_Node))) (a0_29 : Int) (a0_30 : ByteArray) (a0_31 : Int) (a0_32 : List T_Node) : Option (Int × ByteArray × Int × (List T_Node)) :=
  bS (Ls_l12Copy_0 Rs_l12Copy FU 0 a0_29 a0_30 a0_31 a0_32 0 (⟨#[]⟩ : ByteArray) 0 [] a0_29 a0_30 a0_31 []) fun r611 =>
  some (a0_29, a0_30, a0_31, r611)
theorem Ss_l12Copy_ok (Rs_l12Copy) (hRs_l12Copy : Ps_l12Copy Rs_l12Copy) (a0_29 : Int) (a0_30 : ByteArray) (a0_31 : Int) (a0_32 : List T_Node) (r_ : (Int × ByteArray × Int × (List T_Node))) (h_ : Ss_l12Copy Rs_l12Copy a0_29 a0_30 a0_31 a0_32 = some r_) : ev EE (.call 14 [.ag [.sc (.int .i64 a0_29), .sc (.string a0_30), .sc (.int .i64 a0_31), .ls false (r_Node false a0_32)]] []) = some (Fs_l12Copy_ans a0_29 a0_30 a0_31 a0_32 r_) := by
  rw [ev_eq]
  simp only [Ss_l12Copy] at h_
  obtain ⟨r611, h1_, h_⟩ := bS_some h_
  have h1_f := Ls_l12Copy_0_ok Rs_l12Copy hRs_l12Copy FU 0 a0_29 a0_30 a0_31 a0_32 0 (⟨#[]⟩ : ByteArray) 0 [] a0_29 a0_30 a0_31 [] _ h1_
  try simp [Ls_l12Copy_0_ans] at h1_f
  cases h_
  simp +decide [-getElem?_pos, ir14, h1_f, Fs_l12Copy_ans]
def Fs_l12Copyn : Nat → Int → ByteArray → Int → (List T_Node) → Option (Int × ByteArray × Int × (List T_Node))
  | 0 => fun _ _ _ _ => none
  | n_ + 1 => Ss_l12Copy (Fs_l12Copyn n_)
def Fs_l12Copy (a0_29 : Int) (a0_30 : ByteArray) (a0_31 : Int) (a0_32 : List T_Node) : Option (Int × ByteArray × Int × (List T_Node)) := Fs_l12Copyn FU a0_29 a0_30 a0_31 a0_32
theorem Fs_l12Copyn_ok : ∀ (n_ : Nat) (a0_29 : Int) (a0_30 : ByteArray) (a0_31 : Int) (a0_32 : List T_Node) (r_ : (Int × ByteArray × Int × (List T_Node))), Fs_l12Copyn n_ a0_29 a0_30 a0_31 a0_32 = some r_ → ev EE (.call 14 [.ag [.sc (.int .i64 a0_29), .sc (.string a0_30), .sc (.int .i64 a0_31), .ls false (r_Node false a0_32)]] []) = some (Fs_l12Copy_ans a0_29 a0_30 a0_31 a0_32 r_) := by
  intro n_
  induction n_ with
  | zero => intro a0_29 a0_30 a0_31 a0_32 r_ h_; cases h_
  | succ n_ ih_ => intro a0_29 a0_30 a0_31 a0_32 r_ h_; exact Ss_l12Copy_ok (Fs_l12Copyn n_) ih_ a0_29 a0_30 a0_31 a0_32 r_ h_
theorem Fs_l12Copy_ok (a0_29 : Int) (a0_30 : ByteArray) (a0_31 : Int) (a0_32 : List T_Node) (r_ : (Int × ByteArray × Int × (List T_Node))) (h_ : Fs_l12Copy a0_29 a0_30 a0_31 a0_32 = some r_) : ev EE (.call 14 [.ag [.sc (.int .i64 a0_29), .sc (.string a0_30), .sc (.int .i64 a0_31), .ls false (r_Node false a0_32)]] []) = some (Fs_l12Copy_ans a0_29 a0_30 a0_31 a0_32 r_) := Fs_l12Copyn_ok FU a0_29 a0_30 a0_31 a0_32 r_ h_
/-- spec.l1PickInt -/
def Fs_l1PickInt (a1_16 : List Int) (x0_152 : List Int) (x0_153 : Int) (x0_154 : Int) : Option (Int × Int × Int) :=
  bS (Fs_l1Below (a1_16.length : Int) x0_152 x0_153 x0_154) fun (r631, r632, r633) =>
  bS (getI a1_16 r631) fun e15 =>
  some (e15, r632, r633)
def Fs_l1PickInt_ans (a1_16 : List Int) (x0_152 : List Int) (x0_153 : Int) (x0_154 : Int) : (Int × Int × Int) → Ans
  | (q162, q163, q164) => .val (.sc (.int .i64 q162)) [.b [.ls false (byi x0_152), .sc (.int .i64 q163), .sc (.int .i64 q164)]]
theorem Fs_l1PickInt_ok (a1_16 : List Int) (x0_152 : List Int) (x0_153 : Int) (x0_154 : Int) (r_ : (Int × Int × Int)) (h_ : Fs_l1PickInt a1_16 x0_152 x0_153 x0_154 = some r_) : ev EE (.call 22 [.bx 0 0, .ls false (ints a1_16)] [.b [.ls false (byi x0_152), .sc (.int .i64 x0_153), .sc (.int .i64 x0_154)]]) = some (Fs_l1PickInt_ans a1_16 x0_152 x0_153 x0_154 r_) := by
  rw [ev_eq]
  simp only [Fs_l1PickInt] at h_
  obtain ⟨⟨r631, r632, r633⟩, h1_, h_⟩ := bS_some h_
  try dsimp only at h_
  have h1_f := Fs_l1Below_ok (a1_16.length : Int) x0_152 x0_153 x0_154 _ h1_
  try simp [Fs_l1Below_ans] at h1_f
  obtain ⟨e15, h2_, h_⟩ := bS_some h_
  obtain ⟨h2_a, h2_b, h2_c, h2_d⟩ := ints_getI'  h2_
  try simp [-getElem?_pos] at h2_d
  cases h_
  simp +decide [-getElem?_pos, ir22, h1_f, h2_a, h2_b, h2_c, h2_d, Fs_l1PickInt_ans]
/-- spec.l1DrawNum -/
def Fs_l1DrawNum (x0_149 : List Int) (x0_150 : Int) (x0_151 : Int) : Option (Int × Int × Int) :=
  bS (Fs_l1PickInt [0, 1, 2, (-1), (-5), 77, 1999, 2000, 2147483647, 2147483648, (-2147483648), (-2147483649), 4294967296, 9223372036854775807, (-9223372036854775808)] x0_149 x0_150 x0_151) fun (r634, r635, r636) =>
  some (r634, r635, r636)
def Fs_l1DrawNum_ans (x0_149 : List Int) (x0_150 : Int) (x0_151 : Int) : (Int × Int × Int) → Ans
  | (q165, q166, q167) => .val (.sc (.int .i64 q165)) [.b [.ls false (byi x0_149), .sc (.int .i64 q166), .sc (.int .i64 q167)]]
theorem Fs_l1DrawNum_ok (x0_149 : List Int) (x0_150 : Int) (x0_151 : Int) (r_ : (Int × Int × Int)) (h_ : Fs_l1DrawNum x0_149 x0_150 x0_151 = some r_) : ev EE (.call 18 [.bx 0 0] [.b [.ls false (byi x0_149), .sc (.int .i64 x0_150), .sc (.int .i64 x0_151)]]) = some (Fs_l1DrawNum_ans x0_149 x0_150 x0_151 r_) := by
  rw [ev_eq]
  simp only [Fs_l1DrawNum] at h_
  obtain ⟨⟨r634, r635, r636⟩, h1_, h_⟩ := bS_some h_
  try dsimp only at h_
  have h1_f := Fs_l1PickInt_ok [0, 1, 2, (-1), (-5), 77, 1999, 2000, 2147483647, 2147483648, (-2147483648), (-2147483649), 4294967296, 9223372036854775807, (-9223372036854775808)] x0_149 x0_150 x0_151 _ h1_
  try simp [Fs_l1PickInt_ans] at h1_f
  cases h_
  simp +decide [-getElem?_pos, ir18, h1_f, Fs_l1DrawNum_ans]
/-- spec.l12DrawBad -/
def Fs_l12DrawBad (x0_1 : List Int) (x0_2 : Int) (x0_3 : Int) : Option (Int × ByteArray × Int × (List T_Node) × Int × Int) :=
  bS (Fs_l12DrawNode x0_1 x0_2 x0_3) fun (r601, r602, r603, r604, r605, r606) =>
  bS (Fs_l12Copy r601 r602 r603 r604) fun (r612, r613, r614, r615) =>
  if (r615.length : Int) = 0 then
    some (r612, r613, r614, r615, r605, r606)
  else
  bS (Fs_l1Below (r615.length : Int) x0_1 r605 r606) fun (r616, r617, r618) =>
  bS (Fs_l1Below 12 x0_1 r617 r618) fun (r619, r620, r621) =>
  if r619 = 0 then
    bS (Fs_l1Below 30 x0_1 r620 r621) fun (r622, r623, r624) =>
    bS (getI r615 r616) fun e10 =>
    some (r612, r613, r614, List.set r615 r616.toNat (⟨IntKind.i64.wrap (r622 - 1), e10.s_, e10.n_, e10.kids_⟩ : T_Node), r623, r624)
  else
  if r619 = 1 then
    bS (Fs_l1Pick ([(⟨#[]⟩ : ByteArray), (⟨#[120]⟩ : ByteArray), (⟨#[108, 101, 116]⟩ : ByteArray), (⟨#[112, 114, 111, 116, 111]⟩ : ByteArray), (⟨#[97, 32, 98]⟩ : ByteArray), (⟨#[49]⟩ : ByteArray)]) x0_1 r620 r621) fun (r625, r626, r627) =>
    bS (getI r615 r616) fun e11 =>
    some (r612, r613, r614, List.set r615 r616.toNat (⟨e11.op_, r625, e11.n_, e11.kids_⟩ : T_Node), r626, r627)
  else
  if r619 = 2 then
    bS (getI r615 r616) fun e12 =>
    some (r612, r613, r614, List.set r615 r616.toNat (⟨e12.op_, e12.s_, 3, e12.kids_⟩ : T_Node), r620, r621)
  else
  if r619 = 3 then
    bS (getI r615 r616) fun e13 =>
    if lim (e13.kids_.length + 1) 56 = true then
    bS (getI (e13.kids_ ++ ([(⟨0, (⟨#[]⟩ : ByteArray), 0, []⟩ : T_Node)])) (e13.kids_.length : Int)) fun e14 =>
    some (r612, r613, r614, List.set r615 r616.toNat (⟨e13.op_, e13.s_, e13.n_, e13.kids_ ++ ([(⟨12, (⟨#[]⟩ : ByteArray), 0, []⟩ : T_Node)])⟩ : T_Node), r620, r621)
    else none
  else
  if r619 = 4 then
    bS (Fs_l1Below 28 x0_1 r620 r621) fun (r628, r629, r630) =>
    some (r628, r613, r614, r615, r629, r630)
  else
  if r619 = 5 then
    bS (Fs_l1DrawNum x0_1 r620 r621) fun (r637, r638, r639) =>
    if lim (r615.length + 1) 56 = true then
    some (r612, r613, r614, r615 ++ ([(⟨9, (⟨#[]⟩ : ByteArray), 0, [(⟨10, (⟨#[]⟩ : ByteArray), r637, []⟩ : T_Node)]⟩ : T_Node)]), r638, r639)
    else none
  else
    some (r612, r613, r614, r615, r620, r621)
def Fs_l12DrawBad_ans (x0_1 : List Int) (x0_2 : Int) (x0_3 : Int) : (Int × ByteArray × Int × (List T_Node) × Int × Int) → Ans
  | (q168, q169, q170, q171, q172, q173) => .val (.ag [.sc (.int .i64 q168), .sc (.string q169), .sc (.int .i64 q170), .ls false (r_Node false q171)]) [.b [.ls false (byi x0_1), .sc (.int .i64 q172), .sc (.int .i64 q173)]]
theorem Fs_l12DrawBad_ok (x0_1 : List Int) (x0_2 : Int) (x0_3 : Int) (r_ : (Int × ByteArray × Int × (List T_Node) × Int × Int)) (h_ : Fs_l12DrawBad x0_1 x0_2 x0_3 = some r_) : ev EE (.call 11 [.bx 0 0] [.b [.ls false (byi x0_1), .sc (.int .i64 x0_2), .sc (.int .i64 x0_3)]]) = some (Fs_l12DrawBad_ans x0_1 x0_2 x0_3 r_) := by
  rw [ev_eq]
  simp only [Fs_l12DrawBad] at h_
  obtain ⟨⟨r601, r602, r603, r604, r605, r606⟩, h1_, h_⟩ := bS_some h_
  try dsimp only at h_
  have h1_f := Fs_l12DrawNode_ok x0_1 x0_2 x0_3 _ h1_
  try simp [Fs_l12DrawNode_ans] at h1_f
  obtain ⟨⟨r612, r613, r614, r615⟩, h2_, h_⟩ := bS_some h_
  try dsimp only at h_
  have h2_f := Fs_l12Copy_ok r601 r602 r603 r604 _ h2_
  try simp [Fs_l12Copy_ans] at h2_f
  rcases bI h_ with ⟨h3_, h_⟩ | ⟨h3_, h_⟩
  · have h3_s := h3_; try simp at h3_s
    cases h_
    simp +decide [-getElem?_pos, ir11, h1_f, h2_f, eq_true h3_, eq_true h3_s, Fs_l12DrawBad_ans]
  have h3_s := h3_; try simp at h3_s
  obtain ⟨⟨r616, r617, r618⟩, h5_, h_⟩ := bS_some h_
  try dsimp only at h_
  have h5_f := Fs_l1Below_ok (r615.length : Int) x0_1 r605 r606 _ h5_
  try simp [Fs_l1Below_ans] at h5_f
  obtain ⟨⟨r619, r620, r621⟩, h6_, h_⟩ := bS_some h_
  try dsimp only at h_
  have h6_f := Fs_l1Below_ok 12 x0_1 r617 r618 _ h6_
  try simp [Fs_l1Below_ans] at h6_f
  rcases bI h_ with ⟨h7_, h_⟩ | ⟨h7_, h_⟩
  · obtain ⟨⟨r622, r623, r624⟩, h8_, h_⟩ := bS_some h_
    try dsimp only at h_
    have h8_f := Fs_l1Below_ok 30 x0_1 r620 r621 _ h8_
    try simp [Fs_l1Below_ans] at h8_f
    obtain ⟨e10, h9_, h_⟩ := bS_some h_
    obtain ⟨h9_a, h9_b, h9_c, h9_d⟩ := r_Node_getI (o := true)  h9_
    try simp [-getElem?_pos] at h9_d
    cases h_
    simp +decide [-getElem?_pos, ir11, h1_f, h2_f, h3_, h3_s, h5_f, h6_f, eq_true h7_, h8_f, h9_a, h9_b, h9_c, h9_d, Fs_l12DrawBad_ans]
  rcases bI h_ with ⟨h8_, h_⟩ | ⟨h8_, h_⟩
  · obtain ⟨⟨r625, r626, r627⟩, h9_, h_⟩ := bS_some h_
    try dsimp only at h_
    have h9_f := Fs_l1Pick_ok ([(⟨#[]⟩ : ByteArray), (⟨#[120]⟩ : ByteArray), (⟨#[108, 101, 116]⟩ : ByteArray), (⟨#[112, 114, 111, 116, 111]⟩ : ByteArray), (⟨#[97, 32, 98]⟩ : ByteArray), (⟨#[49]⟩ : ByteArray)]) x0_1 r620 r621 _ h9_
    try simp [Fs_l1Pick_ans] at h9_f
    obtain ⟨e11, h10_, h_⟩ := bS_some h_
    obtain ⟨h10_a, h10_b, h10_c, h10_d⟩ := r_Node_getI (o := true)  h10_
    try simp [-getElem?_pos] at h10_d
    cases h_
    simp +decide [-getElem?_pos, ir11, h1_f, h2_f, h3_, h3_s, h5_f, h6_f, h7_, eq_true h8_, h9_f, h10_a, h10_b, h10_c, h10_d, Fs_l12DrawBad_ans]
  rcases bI h_ with ⟨h9_, h_⟩ | ⟨h9_, h_⟩
  · obtain ⟨e12, h10_, h_⟩ := bS_some h_
    obtain ⟨h10_a, h10_b, h10_c, h10_d⟩ := r_Node_getI (o := true)  h10_
    try simp [-getElem?_pos] at h10_d
    cases h_
    simp +decide [-getElem?_pos, ir11, h1_f, h2_f, h3_, h3_s, h5_f, h6_f, h7_, h8_, eq_true h9_, h10_a, h10_b, h10_c, h10_d, Fs_l12DrawBad_ans]
  rcases bI h_ with ⟨h10_, h_⟩ | ⟨h10_, h_⟩
  · obtain ⟨e13, h11_, h_⟩ := bS_some h_
    obtain ⟨h11_a, h11_b, h11_c, h11_d⟩ := r_Node_getI (o := true)  h11_
    try simp [-getElem?_pos] at h11_d
    obtain ⟨h15_, h_⟩ := bP h_
    obtain ⟨e14, h16_, h_⟩ := bS_some h_
    obtain ⟨h16_a, h16_b, h16_c, h16_d⟩ := r_Node_getI (o := true)  h16_
    try simp [-getElem?_pos] at h16_d
    cases h_
    simp +decide [-getElem?_pos, ir11, h1_f, h2_f, h3_, h3_s, h5_f, h6_f, h7_, h8_, h9_, eq_true h10_, h11_a, h11_b, h11_c, h11_d, h15_, h16_a, h16_b, h16_c, h16_d, Fs_l12DrawBad_ans]
  rcases bI h_ with ⟨h11_, h_⟩ | ⟨h11_, h_⟩
  · obtain ⟨⟨r628, r629, r630⟩, h12_, h_⟩ := bS_some h_
    try dsimp only at h_
    have h12_f := Fs_l1Below_ok 28 x0_1 r620 r621 _ h12_
    try simp [Fs_l1Below_ans] at h12_f
    cases h_
    simp +decide [-getElem?_pos, ir11, h1_f, h2_f, h3_, h3_s, h5_f, h6_f, h7_, h8_, h9_, h10_, eq_true h11_, h12_f, Fs_l12DrawBad_ans]
  rcases bI h_ with ⟨h12_, h_⟩ | ⟨h12_, h_⟩
  · obtain ⟨⟨r637, r638, r639⟩, h13_, h_⟩ := bS_some h_
    try dsimp only at h_
    have h13_f := Fs_l1DrawNum_ok x0_1 r620 r621 _ h13_
    try simp [Fs_l1DrawNum_ans] at h13_f
    obtain ⟨h14_, h_⟩ := bP h_
    cases h_
    simp +decide [-getElem?_pos, ir11, h1_f, h2_f, h3_, h3_s, h5_f, h6_f, h7_, h8_, h9_, h10_, h11_, eq_true h12_, h13_f, h14_, Fs_l12DrawBad_ans]
  cases h_
  simp +decide [-getElem?_pos, ir11, h1_f, h2_f, h3_, h3_s, h5_f, h6_f, h7_, h8_, h9_, h10_, h11_, h12_, Fs_l12DrawBad_ans]
/-- spec.DrawSize -/
def Fs_DrawSize (a0_3 : List Int) : Option (Int × ByteArray × Int × (List T_Node)) :=
  bS (Fs_l1New a0_3) fun (r3, r4, r5) =>
  bS (Fs_l12DrawBad r3 r4 r5) fun (r640, r641, r642, r643, r644, r645) =>
  some (r640, r641, r642, r643)
def Fs_DrawSize_ans (a0_3 : List Int) : (Int × ByteArray × Int × (List T_Node)) → Ans
  | (q174, q175, q176, q177) => .val (.ag [.sc (.int .i64 q174), .sc (.string q175), .sc (.int .i64 q176), .ls false (r_Node false q177)]) []
theorem Fs_DrawSize_ok (a0_3 : List Int) (r_ : (Int × ByteArray × Int × (List T_Node))) (h_ : Fs_DrawSize a0_3 = some r_) : ev EE (.call 5 [.ls false (byi a0_3)] []) = some (Fs_DrawSize_ans a0_3 r_) := by
  rw [ev_eq]
  simp only [Fs_DrawSize] at h_
  obtain ⟨⟨r3, r4, r5⟩, h1_, h_⟩ := bS_some h_
  try dsimp only at h_
  have h1_f := Fs_l1New_ok a0_3 _ h1_
  try simp [Fs_l1New_ans] at h1_f
  obtain ⟨⟨r640, r641, r642, r643, r644, r645⟩, h2_, h_⟩ := bS_some h_
  try dsimp only at h_
  have h2_f := Fs_l12DrawBad_ok r3 r4 r5 _ h2_
  try simp [Fs_l12DrawBad_ans] at h2_f
  cases h_
  simp +decide [-getElem?_pos, ir5, h1_f, h2_f, Fs_DrawSize_ans]
def Fi_Size_ans (a0_33 : Int) (a0_34 : ByteArray) (a0_35 : Int) (a0_36 : List T_Node) : Int → Ans
  | q178 => .val (.sc (.int .i64 q178)) []
def Pi_Size (Ri_Size : Int → ByteArray → Int → (List T_Node) → Option Int) : Prop := ∀ (a0_33 : Int) (a0_34 : ByteArray) (a0_35 : Int) (a0_36 : List T_Node) (r_ : Int), Ri_Size a0_33 a0_34 a0_35 a0_36 = some r_ → ev EE (.call 6 [.ag [.sc (.int .i64 a0_33), .sc (.string a0_34), .sc (.int .i64 a0_35), .ls false (r_Node false a0_36)]] []) = some (Fi_Size_ans a0_33 a0_34 a0_35 a0_36 r_)
def Li_Size_0 (Ri_Size : Int → ByteArray → Int → (List T_Node) → Option Int) : Nat → Int → (List T_Node) → Int → Int → Option Int
  | 0, _, _, _, _ => none
  | n_ + 1, t3_12, t7_7, t8_3, t9_1 =>
  if t9_1 < t8_3 then
    bS (getI t7_7 t9_1) fun e17 =>
    bS (Ri_Size e17.op_ e17.s_ e17.n_ e17.kids_) fun r650 =>
    Li_Size_0 Ri_Size n_ (IntKind.i64.wrap (t3_12 + r650)) t7_7 t8_3 (IntKind.i64.wrap (t9_1 + 1))
  else
    some t3_12
def Li_Size_0_ans (t3_12 : Int) (t7_7 : List T_Node) (t8_3 : Int) (t9_1 : Int) : Int → Ans
  | t3_13 => .out (.exit 0) { np := 0, tm := [(3, .sc (.int .i64 t3_13))], ar := [], bx := [] }
theorem Li_Size_0_ok (Ri_Size) (hRi_Size : Pi_Size Ri_Size) : ∀ (n_ : Nat) (t3_12 : Int) (t7_7 : List T_Node) (t8_3 : Int) (t9_1 : Int) (r_ : Int), Li_Size_0 Ri_Size n_ t3_12 t7_7 t8_3 t9_1 = some r_ → ev EE (.loop lp6_0 [3, 7, 8, 9] [2, 3] { np := 0, tm := [(3, .sc (.int .i64 t3_12)), (7, .ls false (r_Node false t7_7)), (8, .sc (.int .i64 t8_3)), (9, .sc (.int .i64 t9_1))], ar := [], bx := [] }) = some (Li_Size_0_ans t3_12 t7_7 t8_3 t9_1 r_) := by
  intro n_
  induction n_ with
  | zero => intro t3_12 t7_7 t8_3 t9_1 r_ h_; simp only [Li_Size_0] at h_; cases h_
  | succ n_ ih_ =>
    intro t3_12 t7_7 t8_3 t9_1 r_ h_
    rw [ev_loop EE lp6_0.eq_1]
    simp only [Li_Size_0] at h_
    rcases bI h_ with ⟨h1_, h_⟩ | ⟨h1_, h_⟩
    · obtain ⟨e17, h2_, h_⟩ := bS_some h_
      obtain ⟨h2_a, h2_b, h2_c, h2_d⟩ := r_Node_getI (o := false)  h2_
      try simp [-getElem?_pos] at h2_d
      obtain ⟨r650, h6_, h_⟩ := bS_some h_
      have h6_f := hRi_Size e17.op_ e17.s_ e17.n_ e17.kids_ _ h6_
      try simp [Fi_Size_ans] at h6_f
      have q_ := ih_ (IntKind.i64.wrap (t3_12 + r650)) t7_7 t8_3 (IntKind.i64.wrap (t9_1 + 1)) _ h_
      rcases r_ with t3_13
      all_goals (try simp [Li_Size_0_ans] at q_)
      all_goals simp +decide [-getElem?_pos, h1_, h2_a, h2_b, h2_c, h2_d, h6_f, q_, Li_Size_0_ans]
    cases h_
    simp +decide [-getElem?_pos, h1_, Li_Size_0_ans]
/-- impl.Size -/
def Si_Size (Ri_Size : Int → ByteArray → Int → (List T_Node) → Option Int) (a0_33 : Int) (a0_34 : ByteArray) (a0_35 : Int) (a0_36 : List T_Node) : Option Int :=
  bS (Li_Size_0 Ri_Size FU 1 a0_36 (a0_36.length : Int) 0) fun r651 =>
  some r651
theorem Si_Size_ok (Ri_Size) (hRi_Size : Pi_Size Ri_Size) (a0_33 : Int) (a0_34 : ByteArray) (a0_35 : Int) (a0_36 : List T_Node) (r_ : Int) (h_ : Si_Size Ri_Size a0_33 a0_34 a0_35 a0_36 = some r_) : ev EE (.call 6 [.ag [.sc (.int .i64 a0_33), .sc (.string a0_34), .sc (.int .i64 a0_35), .ls false (r_Node false a0_36)]] []) = some (Fi_Size_ans a0_33 a0_34 a0_35 a0_36 r_) := by
  rw [ev_eq]
  simp only [Si_Size] at h_
  obtain ⟨r651, h1_, h_⟩ := bS_some h_
  have h1_f := Li_Size_0_ok Ri_Size hRi_Size FU 1 a0_36 (a0_36.length : Int) 0 _ h1_
  try simp [Li_Size_0_ans] at h1_f
  cases h_
  simp +decide [-getElem?_pos, ir6, h1_f, Fi_Size_ans]
def Fi_Sizen : Nat → Int → ByteArray → Int → (List T_Node) → Option Int
  | 0 => fun _ _ _ _ => none
  | n_ + 1 => Si_Size (Fi_Sizen n_)
def Fi_Size (a0_33 : Int) (a0_34 : ByteArray) (a0_35 : Int) (a0_36 : List T_Node) : Option Int := Fi_Sizen FU a0_33 a0_34 a0_35 a0_36
theorem Fi_Sizen_ok : ∀ (n_ : Nat) (a0_33 : Int) (a0_34 : ByteArray) (a0_35 : Int) (a0_36 : List T_Node) (r_ : Int), Fi_Sizen n_ a0_33 a0_34 a0_35 a0_36 = some r_ → ev EE (.call 6 [.ag [.sc (.int .i64 a0_33), .sc (.string a0_34), .sc (.int .i64 a0_35), .ls false (r_Node false a0_36)]] []) = some (Fi_Size_ans a0_33 a0_34 a0_35 a0_36 r_) := by
  intro n_
  induction n_ with
  | zero => intro a0_33 a0_34 a0_35 a0_36 r_ h_; cases h_
  | succ n_ ih_ => intro a0_33 a0_34 a0_35 a0_36 r_ h_; exact Si_Size_ok (Fi_Sizen n_) ih_ a0_33 a0_34 a0_35 a0_36 r_ h_
theorem Fi_Size_ok (a0_33 : Int) (a0_34 : ByteArray) (a0_35 : Int) (a0_36 : List T_Node) (r_ : Int) (h_ : Fi_Size a0_33 a0_34 a0_35 a0_36 = some r_) : ev EE (.call 6 [.ag [.sc (.int .i64 a0_33), .sc (.string a0_34), .sc (.int .i64 a0_35), .ls false (r_Node false a0_36)]] []) = some (Fi_Size_ans a0_33 a0_34 a0_35 a0_36 r_) := Fi_Sizen_ok FU a0_33 a0_34 a0_35 a0_36 r_ h_
def Fi_Deep_ans (a0_37 : Int) (a0_38 : ByteArray) (a0_39 : Int) (a0_40 : List T_Node) : Int → Ans
  | q179 => .val (.sc (.int .i64 q179)) []
def Pi_Deep (Ri_Deep : Int → ByteArray → Int → (List T_Node) → Option Int) : Prop := ∀ (a0_37 : Int) (a0_38 : ByteArray) (a0_39 : Int) (a0_40 : List T_Node) (r_ : Int), Ri_Deep a0_37 a0_38 a0_39 a0_40 = some r_ → ev EE (.call 7 [.ag [.sc (.int .i64 a0_37), .sc (.string a0_38), .sc (.int .i64 a0_39), .ls false (r_Node false a0_40)]] []) = some (Fi_Deep_ans a0_37 a0_38 a0_39 a0_40 r_)
def Li_Deep_0 (Ri_Deep : Int → ByteArray → Int → (List T_Node) → Option Int) : Nat → Int → (List T_Node) → Int → Int → Option Int
  | 0, _, _, _, _ => none
  | n_ + 1, t3_14, t7_8, t8_4, t9_2 =>
  if t9_2 < t8_4 then
    bS (getI t7_8 t9_2) fun e18 =>
    bS (Ri_Deep e18.op_ e18.s_ e18.n_ e18.kids_) fun r653 =>
    if t3_14 < r653 then
      Li_Deep_0 Ri_Deep n_ r653 t7_8 t8_4 (IntKind.i64.wrap (t9_2 + 1))
    else
      Li_Deep_0 Ri_Deep n_ t3_14 t7_8 t8_4 (IntKind.i64.wrap (t9_2 + 1))
  else
    some t3_14
def Li_Deep_0_ans (t3_14 : Int) (t7_8 : List T_Node) (t8_4 : Int) (t9_2 : Int) : Int → Ans
  | t3_15 => .out (.exit 0) { np := 0, tm := [(3, .sc (.int .i64 t3_15))], ar := [], bx := [] }
theorem Li_Deep_0_ok (Ri_Deep) (hRi_Deep : Pi_Deep Ri_Deep) : ∀ (n_ : Nat) (t3_14 : Int) (t7_8 : List T_Node) (t8_4 : Int) (t9_2 : Int) (r_ : Int), Li_Deep_0 Ri_Deep n_ t3_14 t7_8 t8_4 t9_2 = some r_ → ev EE (.loop lp7_0 [3, 7, 8, 9] [2, 3] { np := 0, tm := [(3, .sc (.int .i64 t3_14)), (7, .ls false (r_Node false t7_8)), (8, .sc (.int .i64 t8_4)), (9, .sc (.int .i64 t9_2))], ar := [], bx := [] }) = some (Li_Deep_0_ans t3_14 t7_8 t8_4 t9_2 r_) := by
  intro n_
  induction n_ with
  | zero => intro t3_14 t7_8 t8_4 t9_2 r_ h_; simp only [Li_Deep_0] at h_; cases h_
  | succ n_ ih_ =>
    intro t3_14 t7_8 t8_4 t9_2 r_ h_
    rw [ev_loop EE lp7_0.eq_1]
    simp only [Li_Deep_0] at h_
    rcases bI h_ with ⟨h1_, h_⟩ | ⟨h1_, h_⟩
    · obtain ⟨e18, h2_, h_⟩ := bS_some h_
      obtain ⟨h2_a, h2_b, h2_c, h2_d⟩ := r_Node_getI (o := false)  h2_
      try simp [-getElem?_pos] at h2_d
      obtain ⟨r653, h6_, h_⟩ := bS_some h_
      have h6_f := hRi_Deep e18.op_ e18.s_ e18.n_ e18.kids_ _ h6_
      try simp [Fi_Deep_ans] at h6_f
      rcases bI h_ with ⟨h7_, h_⟩ | ⟨h7_, h_⟩
      · have q_ := ih_ r653 t7_8 t8_4 (IntKind.i64.wrap (t9_2 + 1)) _ h_
        rcases r_ with t3_15
        all_goals (try simp [Li_Deep_0_ans] at q_)
        all_goals simp +decide [-getElem?_pos, h1_, h2_a, h2_b, h2_c, h2_d, h6_f, h7_, q_, Li_Deep_0_ans]
      have q_ := ih_ t3_14 t7_8 t8_4 (IntKind.i64.wrap (t9_2 + 1)) _ h_
      rcases r_ with t3_15
      all_goals (try simp [Li_Deep_0_ans] at q_)
      all_goals simp +decide [-getElem?_pos, h1_, h2_a, h2_b, h2_c, h2_d, h6_f, h7_, q_, Li_Deep_0_ans]
    cases h_
    simp +decide [-getElem?_pos, h1_, Li_Deep_0_ans]
/-- impl.Deep -/
def Si_Deep (Ri_Deep : Int → ByteArray → Int → (List T_Node) → Option Int) (a0_37 : Int) (a0_38 : ByteArray) (a0_39 : Int) (a0_40 : List T_Node) : Option Int :=
  bS (Li_Deep_0 Ri_Deep FU 0 a0_40 (a0_40.length : Int) 0) fun r654 =>
  some (IntKind.i64.wrap (r654 + 1))
theorem Si_Deep_ok (Ri_Deep) (hRi_Deep : Pi_Deep Ri_Deep) (a0_37 : Int) (a0_38 : ByteArray) (a0_39 : Int) (a0_40 : List T_Node) (r_ : Int) (h_ : Si_Deep Ri_Deep a0_37 a0_38 a0_39 a0_40 = some r_) : ev EE (.call 7 [.ag [.sc (.int .i64 a0_37), .sc (.string a0_38), .sc (.int .i64 a0_39), .ls false (r_Node false a0_40)]] []) = some (Fi_Deep_ans a0_37 a0_38 a0_39 a0_40 r_) := by
  rw [ev_eq]
  simp only [Si_Deep] at h_
  obtain ⟨r654, h1_, h_⟩ := bS_some h_
  have h1_f := Li_Deep_0_ok Ri_Deep hRi_Deep FU 0 a0_40 (a0_40.length : Int) 0 _ h1_
  try simp [Li_Deep_0_ans] at h1_f
  cases h_
  simp +decide [-getElem?_pos, ir7, h1_f, Fi_Deep_ans]
def Fi_Deepn : Nat → Int → ByteArray → Int → (List T_Node) → Option Int
  | 0 => fun _ _ _ _ => none
  | n_ + 1 => Si_Deep (Fi_Deepn n_)
def Fi_Deep (a0_37 : Int) (a0_38 : ByteArray) (a0_39 : Int) (a0_40 : List T_Node) : Option Int := Fi_Deepn FU a0_37 a0_38 a0_39 a0_40
theorem Fi_Deepn_ok : ∀ (n_ : Nat) (a0_37 : Int) (a0_38 : ByteArray) (a0_39 : Int) (a0_40 : List T_Node) (r_ : Int), Fi_Deepn n_ a0_37 a0_38 a0_39 a0_40 = some r_ → ev EE (.call 7 [.ag [.sc (.int .i64 a0_37), .sc (.string a0_38), .sc (.int .i64 a0_39), .ls false (r_Node false a0_40)]] []) = some (Fi_Deep_ans a0_37 a0_38 a0_39 a0_40 r_) := by
  intro n_
  induction n_ with
  | zero => intro a0_37 a0_38 a0_39 a0_40 r_ h_; cases h_
  | succ n_ ih_ => intro a0_37 a0_38 a0_39 a0_40 r_ h_; exact Si_Deep_ok (Fi_Deepn n_) ih_ a0_37 a0_38 a0_39 a0_40 r_ h_
theorem Fi_Deep_ok (a0_37 : Int) (a0_38 : ByteArray) (a0_39 : Int) (a0_40 : List T_Node) (r_ : Int) (h_ : Fi_Deep a0_37 a0_38 a0_39 a0_40 = some r_) : ev EE (.call 7 [.ag [.sc (.int .i64 a0_37), .sc (.string a0_38), .sc (.int .i64 a0_39), .ls false (r_Node false a0_40)]] []) = some (Fi_Deep_ans a0_37 a0_38 a0_39 a0_40 r_) := Fi_Deepn_ok FU a0_37 a0_38 a0_39 a0_40 r_ h_
def Lw_FnTrees_0 : Nat → (List Int) → Int → Int → Int → Int → ByteArray → Int → (List T_Node) → Option (Int × Int)
  | 0, _, _, _, _, _, _, _, _ => none
  | n_ + 1, t0_8, t4_13, t5_3, t6_4, x0_155, x0_156, x0_157, x0_158 =>
  if t6_4 < (x0_158.length : Int) then
    bS (getI x0_158 t6_4) fun e16 =>
    bS (Fi_Size e16.op_ e16.s_ e16.n_ e16.kids_) fun r652 =>
    bS (Fi_Deep e16.op_ e16.s_ e16.n_ e16.kids_) fun r655 =>
    if t5_3 < r655 then
      Lw_FnTrees_0 n_ t0_8 (IntKind.i64.wrap (t4_13 + r652)) r655 (IntKind.i64.wrap (t6_4 + 1)) x0_155 x0_156 x0_157 x0_158
    else
      Lw_FnTrees_0 n_ t0_8 (IntKind.i64.wrap (t4_13 + r652)) t5_3 (IntKind.i64.wrap (t6_4 + 1)) x0_155 x0_156 x0_157 x0_158
  else
    some (t4_13, t5_3)
def Lw_FnTrees_0_ans (t0_8 : List Int) (t4_13 : Int) (t5_3 : Int) (t6_4 : Int) (x0_155 : Int) (x0_156 : ByteArray) (x0_157 : Int) (x0_158 : List T_Node) : (Int × Int) → Ans
  | (t4_14, t5_4) => .out (.exit 0) { np := 0, tm := [(0, .ls false (byi t0_8)), (3, .bx 0 0), (4, .sc (.int .i64 t4_14)), (5, .sc (.int .i64 t5_4))], ar := [], bx := [(0, .b [.sc (.int .i64 x0_155), .sc (.string x0_156), .sc (.int .i64 x0_157), .ls false (r_Node false x0_158)])] }
theorem Lw_FnTrees_0_ok : ∀ (n_ : Nat) (t0_8 : List Int) (t4_13 : Int) (t5_3 : Int) (t6_4 : Int) (x0_155 : Int) (x0_156 : ByteArray) (x0_157 : Int) (x0_158 : List T_Node) (r_ : (Int × Int)), Lw_FnTrees_0 n_ t0_8 t4_13 t5_3 t6_4 x0_155 x0_156 x0_157 x0_158 = some r_ → ev EE (.loop lp3_0 [0, 3, 4, 5, 6] [0, 2, 3, 4, 5] { np := 0, tm := [(0, .ls false (byi t0_8)), (3, .bx 0 0), (4, .sc (.int .i64 t4_13)), (5, .sc (.int .i64 t5_3)), (6, .sc (.int .i64 t6_4))], ar := [], bx := [(0, .b [.sc (.int .i64 x0_155), .sc (.string x0_156), .sc (.int .i64 x0_157), .ls false (r_Node false x0_158)])] }) = some (Lw_FnTrees_0_ans t0_8 t4_13 t5_3 t6_4 x0_155 x0_156 x0_157 x0_158 r_) := by
  intro n_
  induction n_ with
  | zero => intro t0_8 t4_13 t5_3 t6_4 x0_155 x0_156 x0_157 x0_158 r_ h_; simp only [Lw_FnTrees_0] at h_; cases h_
  | succ n_ ih_ =>
    intro t0_8 t4_13 t5_3 t6_4 x0_155 x0_156 x0_157 x0_158 r_ h_
    rw [ev_loop EE lp3_0.eq_1]
    simp only [Lw_FnTrees_0] at h_
    rcases bI h_ with ⟨h1_, h_⟩ | ⟨h1_, h_⟩
    · have h1_s := h1_; try simp at h1_s
      obtain ⟨e16, h3_, h_⟩ := bS_some h_
      obtain ⟨h3_a, h3_b, h3_c, h3_d⟩ := r_Node_getI (o := false)  h3_
      try simp [-getElem?_pos] at h3_d
      obtain ⟨r652, h7_, h_⟩ := bS_some h_
      have h7_f := Fi_Size_ok e16.op_ e16.s_ e16.n_ e16.kids_ _ h7_
      try simp [Fi_Size_ans] at h7_f
      obtain ⟨r655, h8_, h_⟩ := bS_some h_
      have h8_f := Fi_Deep_ok e16.op_ e16.s_ e16.n_ e16.kids_ _ h8_
      try simp [Fi_Deep_ans] at h8_f
      rcases bI h_ with ⟨h9_, h_⟩ | ⟨h9_, h_⟩
      · have q_ := ih_ t0_8 (IntKind.i64.wrap (t4_13 + r652)) r655 (IntKind.i64.wrap (t6_4 + 1)) x0_155 x0_156 x0_157 x0_158 _ h_
        rcases r_ with ⟨t4_14, t5_4⟩
        all_goals (try simp [Lw_FnTrees_0_ans] at q_)
        all_goals simp +decide [-getElem?_pos, h1_, h1_s, h3_a, h3_b, h3_c, h3_d, h7_f, h8_f, h9_, q_, Lw_FnTrees_0_ans]
      have q_ := ih_ t0_8 (IntKind.i64.wrap (t4_13 + r652)) t5_3 (IntKind.i64.wrap (t6_4 + 1)) x0_155 x0_156 x0_157 x0_158 _ h_
      rcases r_ with ⟨t4_14, t5_4⟩
      all_goals (try simp [Lw_FnTrees_0_ans] at q_)
      all_goals simp +decide [-getElem?_pos, h1_, h1_s, h3_a, h3_b, h3_c, h3_d, h7_f, h8_f, h9_, q_, Lw_FnTrees_0_ans]
    have h1_s := h1_; try simp at h1_s
    cases h_
    simp +decide [-getElem?_pos, h1_, h1_s, Lw_FnTrees_0_ans]
/-- spec.DrawDeep -/
def Fs_DrawDeep (a0_41 : List Int) : Option (Int × ByteArray × Int × (List T_Node)) :=
  bS (Fs_l1New a0_41) fun (r658, r659, r660) =>
  bS (Fs_l12DrawBad r658 r659 r660) fun (r661, r662, r663, r664, r665, r666) =>
  some (r661, r662, r663, r664)
def Fs_DrawDeep_ans (a0_41 : List Int) : (Int × ByteArray × Int × (List T_Node)) → Ans
  | (q180, q181, q182, q183) => .val (.ag [.sc (.int .i64 q180), .sc (.string q181), .sc (.int .i64 q182), .ls false (r_Node false q183)]) []
theorem Fs_DrawDeep_ok (a0_41 : List Int) (r_ : (Int × ByteArray × Int × (List T_Node))) (h_ : Fs_DrawDeep a0_41 = some r_) : ev EE (.call 8 [.ls false (byi a0_41)] []) = some (Fs_DrawDeep_ans a0_41 r_) := by
  rw [ev_eq]
  simp only [Fs_DrawDeep] at h_
  obtain ⟨⟨r658, r659, r660⟩, h1_, h_⟩ := bS_some h_
  try dsimp only at h_
  have h1_f := Fs_l1New_ok a0_41 _ h1_
  try simp [Fs_l1New_ans] at h1_f
  obtain ⟨⟨r661, r662, r663, r664, r665, r666⟩, h2_, h_⟩ := bS_some h_
  try dsimp only at h_
  have h2_f := Fs_l12DrawBad_ok r658 r659 r660 _ h2_
  try simp [Fs_l12DrawBad_ans] at h2_f
  cases h_
  simp +decide [-getElem?_pos, ir8, h1_f, h2_f, Fs_DrawDeep_ans]
end Go.Pv

namespace Go.Pv
set_option maxRecDepth 100000
set_option maxHeartbeats 40000000
set_option linter.unusedSimpArgs false
set_option linter.unusedVariables false
/-- laws.FnTrees -/
def Fw_FnTrees (a0_1 : List Int) : Option Bool :=
  bS (Fw_big a0_1) fun r1 =>
  if r1 = true then
    some true
  else
  bS (Fs_DrawSize a0_1) fun (r646, r647, r648, r649) =>
  bS (Lw_FnTrees_0 FU a0_1 1 0 0 r646 r647 r648 r649) fun (r656, r657) =>
  bS (Fs_DrawDeep a0_1) fun (r667, r668, r669, r670) =>
  bS (Fi_Size r646 r647 r648 r649) fun r671 =>
  if r671 = r656 then
    bS (Fi_Deep r646 r647 r648 r649) fun r672 =>
    if r672 = IntKind.i64.wrap (r657 + 1) then
      bS (Fi_Deep r667 r668 r669 r670) fun r673 =>
      bS (Fs_Deep r667 r668 r669 r670) fun r674 =>
      if r673 = r674 then
        bS (Fi_Size r667 r668 r669 r670) fun r675 =>
        bS (Fs_Size r667 r668 r669 r670) fun r676 =>
        some (decide (r675 = r676))
      else
        some false
    else
      some false
  else
    some false
def Fw_FnTrees_ans (a0_1 : List Int) : Bool → Ans
  | q184 => .val (.sc (.bool q184)) []
end Go.Pv

