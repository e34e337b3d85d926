/- Proof: the functions as Lean functions, second part. No condition. -/
import Derived.Test.YthddchcckpmgoaaDoorGfA
set_option autoImplicit true
set_option relaxedAutoImplicit true
set_option linter.unusedSimpArgs false
set_option linter.unusedVariables false
namespace Go.Pv
set_option maxRecDepth 100000
set_option maxHeartbeats 40000000
set_option linter.unusedSimpArgs false
set_option linter.unusedVariables false
/-- spec.l11Name -/
def Fs_l11Name (a0_53 : ByteArray) (a1_9 : Int) : Option (Int × ByteArray × Int × Int × Int × Bool) :=
  bS (Ls_l11Name_0 FU a0_53 a1_9 a1_9 0 (⟨#[]⟩ : ByteArray) 0 0) fun r60 =>
  if 0 ≤ a1_9 then
  if 0 ≤ r60 then
  if a1_9.toNat ≤ r60.toNat ∧ r60.toNat ≤ a0_53.size then
  some (1, ByteArray.extract a0_53 a1_9.toNat r60.toNat, 0, a1_9, r60, (decide (IntKind.i64.wrap (r60 - a1_9) ≤ 12)))
  else none
  else none
  else none
def Fs_l11Name_ans (a0_53 : ByteArray) (a1_9 : Int) : (Int × ByteArray × Int × Int × Int × Bool) → Ans
  | (q18, q19, q20, q21, q22, q23) => .val (.tu [.ag [.sc (.int .i64 q18), .sc (.string q19), .sc (.int .i64 q20), .sc (.int .i64 q21)], .sc (.int .i64 q22), .sc (.bool q23)]) []
theorem Fs_l11Name_ok (a0_53 : ByteArray) (a1_9 : Int) (r_ : (Int × ByteArray × Int × Int × Int × Bool)) (h_ : Fs_l11Name a0_53 a1_9 = some r_) : ev EE (.call 86 [.sc (.string a0_53), .sc (.int .i64 a1_9)] []) = some (Fs_l11Name_ans a0_53 a1_9 r_) := by
  rw [ev_eq]
  simp only [Fs_l11Name] at h_
  obtain ⟨r60, h1_, h_⟩ := bS_some h_
  have h1_f := Ls_l11Name_0_ok FU a0_53 a1_9 a1_9 0 (⟨#[]⟩ : ByteArray) 0 0 _ h1_
  try simp [Ls_l11Name_0_ans] at h1_f
  obtain ⟨h2_, h_⟩ := bP h_
  obtain ⟨h3_, h_⟩ := bP h_
  obtain ⟨h4_, h_⟩ := bP h_
  cases h_
  simp (maxSteps := 2000000) (decide := true) [-getElem?_pos, -Int.toNat_le, -Int.le_toNat, ir86, h1_f, h2_, h3_, h4_, Fs_l11Name_ans]
def Ls_l11Num_0 : Nat → ByteArray → Int → Int → Int → Int → ByteArray → Int → Int → Option (Int × Int)
  | 0, _, _, _, _, _, _, _, _ => none
  | n_ + 1, t0_5, t1_6, t7_3, t8_1, x0_29, x0_30, x0_31, x0_32 =>
  if t7_3 < (t0_5.size : Int) then
    bS (getB t0_5 t7_3) fun b4 =>
    bS (Fs_l11Digit (b4.toNat : Int)) fun r68 =>
    if r68 = true then
      if t8_1 ≤ 2147483647 then
        Ls_l11Num_0 n_ t0_5 t1_6 (IntKind.i64.wrap (t7_3 + 1)) (IntKind.i64.wrap ((IntKind.i64.wrap ((IntKind.i64.wrap (10 * t8_1)) + (IntKind.i64.wrap (b4.toNat : Int)))) - 48)) x0_29 x0_30 x0_31 x0_32
      else
        Ls_l11Num_0 n_ t0_5 t1_6 (IntKind.i64.wrap (t7_3 + 1)) t8_1 x0_29 x0_30 x0_31 x0_32
    else
      some (t7_3, t8_1)
  else
    some (t7_3, t8_1)
def Ls_l11Num_0_ans (t0_5 : ByteArray) (t1_6 : Int) (t7_3 : Int) (t8_1 : Int) (x0_29 : Int) (x0_30 : ByteArray) (x0_31 : Int) (x0_32 : Int) : (Int × Int) → Ans
  | (t7_4, t8_2) => .out (.exit 0) { np := 0, tm := [(0, .sc (.string t0_5)), (1, .sc (.int .i64 t1_6)), (4, .bx 0 0), (7, .sc (.int .i64 t7_4)), (8, .sc (.int .i64 t8_2))], ar := [], bx := [(0, .b [.sc (.int .i64 x0_29), .sc (.string x0_30), .sc (.int .i64 x0_31), .sc (.int .i64 x0_32)])] }
theorem Ls_l11Num_0_ok : ∀ (n_ : Nat) (t0_5 : ByteArray) (t1_6 : Int) (t7_3 : Int) (t8_1 : Int) (x0_29 : Int) (x0_30 : ByteArray) (x0_31 : Int) (x0_32 : Int) (r_ : (Int × Int)), Ls_l11Num_0 n_ t0_5 t1_6 t7_3 t8_1 x0_29 x0_30 x0_31 x0_32 = some r_ → ev EE (.loop lp88_0 [0, 1, 4, 7, 8] [0, 1, 4, 5, 6, 7, 8] { np := 0, tm := [(0, .sc (.string t0_5)), (1, .sc (.int .i64 t1_6)), (4, .bx 0 0), (7, .sc (.int .i64 t7_3)), (8, .sc (.int .i64 t8_1))], ar := [], bx := [(0, .b [.sc (.int .i64 x0_29), .sc (.string x0_30), .sc (.int .i64 x0_31), .sc (.int .i64 x0_32)])] }) = some (Ls_l11Num_0_ans t0_5 t1_6 t7_3 t8_1 x0_29 x0_30 x0_31 x0_32 r_) := by
  intro n_
  induction n_ with
  | zero => intro t0_5 t1_6 t7_3 t8_1 x0_29 x0_30 x0_31 x0_32 r_ h_; simp only [Ls_l11Num_0] at h_; cases h_
  | succ n_ ih_ =>
    intro t0_5 t1_6 t7_3 t8_1 x0_29 x0_30 x0_31 x0_32 r_ h_
    rw [ev_loop EE lp88_0.eq_1]
    simp only [Ls_l11Num_0] at h_
    rcases bI h_ with ⟨h1_, h_⟩ | ⟨h1_, h_⟩
    · have h1_s := h1_; try simp at h1_s
      obtain ⟨b4, h3_, h_⟩ := bS_some h_
      obtain ⟨h3_a, h3_b, h3_c, h3_d⟩ := getB_some h3_
      try simp [-getElem?_pos] at h3_d
      obtain ⟨r68, h7_, h_⟩ := bS_some h_
      have h7_f := Fs_l11Digit_ok (b4.toNat : Int) _ h7_
      try simp [Fs_l11Digit_ans] at h7_f
      rcases bI h_ with ⟨h8_, h_⟩ | ⟨h8_, h_⟩
      · rcases bI h_ with ⟨h9_, h_⟩ | ⟨h9_, h_⟩
        · have q_ := ih_ t0_5 t1_6 (IntKind.i64.wrap (t7_3 + 1)) (IntKind.i64.wrap ((IntKind.i64.wrap ((IntKind.i64.wrap (10 * t8_1)) + (IntKind.i64.wrap (b4.toNat : Int)))) - 48)) x0_29 x0_30 x0_31 x0_32 _ h_
          rcases r_ with ⟨t7_4, t8_2⟩
          all_goals (try simp [Ls_l11Num_0_ans] at q_)
          all_goals simp (maxSteps := 2000000) (decide := true) [-getElem?_pos, h1_, h1_s, h3_a, h3_b, h3_c, h3_d, h7_f, h8_, h9_, q_, Ls_l11Num_0_ans]
        · have q_ := ih_ t0_5 t1_6 (IntKind.i64.wrap (t7_3 + 1)) t8_1 x0_29 x0_30 x0_31 x0_32 _ h_
          rcases r_ with ⟨t7_4, t8_2⟩
          all_goals (try simp [Ls_l11Num_0_ans] at q_)
          all_goals simp (maxSteps := 2000000) (decide := true) [-getElem?_pos, h1_, h1_s, h3_a, h3_b, h3_c, h3_d, h7_f, h8_, h9_, q_, Ls_l11Num_0_ans]
      · cases h_
        simp (maxSteps := 2000000) (decide := true) [-getElem?_pos, h1_, h1_s, h3_a, h3_b, h3_c, h3_d, h7_f, h8_, Ls_l11Num_0_ans]
    · have h1_s := h1_; try simp at h1_s
      cases h_
      simp (maxSteps := 2000000) (decide := true) [-getElem?_pos, h1_, h1_s, Ls_l11Num_0_ans]
def Ls_l7Digits_0 : Nat → Int → Bool → ByteArray → Option ByteArray
  | 0, _, _, _ => none
  | n_ + 1, t0_6, t3_9, t4_9 =>
  if t0_6 = 0 then
    some t4_9
  else
  if Int.tmod t0_6 10 < 0 then
    if (⟨#[UInt8.ofNat (IntKind.u8.wrap (IntKind.i64.wrap (48 + (IntKind.i64.wrap (0 - (Int.tmod t0_6 10)))))).toNat]⟩ : ByteArray).size + t4_9.size ≤ 9223372036854775807 then
    Ls_l7Digits_0 n_ (IntKind.i64.wrap (Int.tdiv t0_6 10)) t3_9 ((⟨#[UInt8.ofNat (IntKind.u8.wrap (IntKind.i64.wrap (48 + (IntKind.i64.wrap (0 - (Int.tmod t0_6 10)))))).toNat]⟩ : ByteArray) ++ t4_9)
    else none
  else
  if (⟨#[UInt8.ofNat (IntKind.u8.wrap (IntKind.i64.wrap (48 + (Int.tmod t0_6 10)))).toNat]⟩ : ByteArray).size + t4_9.size ≤ 9223372036854775807 then
  Ls_l7Digits_0 n_ (IntKind.i64.wrap (Int.tdiv t0_6 10)) t3_9 ((⟨#[UInt8.ofNat (IntKind.u8.wrap (IntKind.i64.wrap (48 + (Int.tmod t0_6 10)))).toNat]⟩ : ByteArray) ++ t4_9)
  else none
def Ls_l7Digits_0_ans (t0_6 : Int) (t3_9 : Bool) (t4_9 : ByteArray) : ByteArray → Ans
  | t4_10 => .out (.exit 0) { np := 0, tm := [(3, .sc (.bool t3_9)), (4, .sc (.string t4_10))], ar := [], bx := [] }
theorem Ls_l7Digits_0_ok : ∀ (n_ : Nat) (t0_6 : Int) (t3_9 : Bool) (t4_9 : ByteArray) (r_ : ByteArray), Ls_l7Digits_0 n_ t0_6 t3_9 t4_9 = some r_ → ev EE (.loop lp99_0 [0, 3, 4] [2, 3, 4] { np := 0, tm := [(0, .sc (.int .i64 t0_6)), (3, .sc (.bool t3_9)), (4, .sc (.string t4_9))], ar := [], bx := [] }) = some (Ls_l7Digits_0_ans t0_6 t3_9 t4_9 r_) := by
  intro n_
  induction n_ with
  | zero => intro t0_6 t3_9 t4_9 r_ h_; simp only [Ls_l7Digits_0] at h_; cases h_
  | succ n_ ih_ =>
    intro t0_6 t3_9 t4_9 r_ h_
    rw [ev_loop EE lp99_0.eq_1]
    simp only [Ls_l7Digits_0] at h_
    rcases bI h_ with ⟨h1_, h_⟩ | ⟨h1_, h_⟩
    · cases h_
      simp (maxSteps := 2000000) (decide := true) [-getElem?_pos, eq_true h1_, Ls_l7Digits_0_ans]
    · rcases bI h_ with ⟨h2_, h_⟩ | ⟨h2_, h_⟩
      · obtain ⟨h3_, h_⟩ := bP h_
        have h3_s := h3_; try simp at h3_s
        have q_ := ih_ (IntKind.i64.wrap (Int.tdiv t0_6 10)) t3_9 ((⟨#[UInt8.ofNat (IntKind.u8.wrap (IntKind.i64.wrap (48 + (IntKind.i64.wrap (0 - (Int.tmod t0_6 10)))))).toNat]⟩ : ByteArray) ++ t4_9) _ h_
        rcases r_ with t4_10
        all_goals (try simp [Ls_l7Digits_0_ans] at q_)
        all_goals simp (maxSteps := 2000000) (decide := true) [-getElem?_pos, -Int.toNat_le, -Int.le_toNat, h1_, h2_, h3_, h3_s, q_, Ls_l7Digits_0_ans]
      · obtain ⟨h3_, h_⟩ := bP h_
        have q_ := ih_ (IntKind.i64.wrap (Int.tdiv t0_6 10)) t3_9 ((⟨#[UInt8.ofNat (IntKind.u8.wrap (IntKind.i64.wrap (48 + (Int.tmod t0_6 10)))).toNat]⟩ : ByteArray) ++ t4_9) _ h_
        rcases r_ with t4_10
        all_goals (try simp [Ls_l7Digits_0_ans] at q_)
        all_goals simp (maxSteps := 2000000) (decide := true) [-getElem?_pos, -Int.toNat_le, -Int.le_toNat, h1_, h2_, h3_, q_, Ls_l7Digits_0_ans]
/-- spec.l7Digits -/
def Fs_l7Digits (a0_56 : Int) : Option ByteArray :=
  if a0_56 = 0 then
    some (⟨#[48]⟩ : ByteArray)
  else
  bS (Ls_l7Digits_0 FU a0_56 (decide (a0_56 < 0)) (⟨#[]⟩ : ByteArray)) fun r71 =>
  if a0_56 < 0 then
    if (⟨#[45]⟩ : ByteArray).size + r71.size ≤ 9223372036854775807 then
    some ((⟨#[45]⟩ : ByteArray) ++ r71)
    else none
  else
    some r71
def Fs_l7Digits_ans (a0_56 : Int) : ByteArray → Ans
  | q24 => .val (.sc (.string q24)) []
theorem Fs_l7Digits_ok (a0_56 : Int) (r_ : ByteArray) (h_ : Fs_l7Digits a0_56 = some r_) : ev EE (.call 99 [.sc (.int .i64 a0_56)] []) = some (Fs_l7Digits_ans a0_56 r_) := by
  rw [ev_eq]
  simp only [Fs_l7Digits] at h_
  rcases bI h_ with ⟨h1_, h_⟩ | ⟨h1_, h_⟩
  · cases h_
    simp (maxSteps := 2000000) (decide := true) [-getElem?_pos, ir99, eq_true h1_, Fs_l7Digits_ans]
  · obtain ⟨r71, h2_, h_⟩ := bS_some h_
    have h2_f := Ls_l7Digits_0_ok FU a0_56 (decide (a0_56 < 0)) (⟨#[]⟩ : ByteArray) _ h2_
    try simp [Ls_l7Digits_0_ans] at h2_f
    rcases bI h_ with ⟨h3_, h_⟩ | ⟨h3_, h_⟩
    · try simp [h3_] at h2_f
      obtain ⟨h4_, h_⟩ := bP h_
      try simp [h4_] at h2_f
      cases h_
      simp (maxSteps := 2000000) (decide := true) [-getElem?_pos, ir99, h1_, h2_f, h3_, h4_, Fs_l7Digits_ans]
    · try simp [h3_] at h2_f
      cases h_
      simp (maxSteps := 2000000) (decide := true) [-getElem?_pos, ir99, h1_, h2_f, h3_, Fs_l7Digits_ans]
/-- spec.l11Num -/
def Fs_l11Num (a0_55 : ByteArray) (a1_10 : Int) : Option (Int × ByteArray × Int × Int × Int × Bool) :=
  bS (Ls_l11Num_0 FU a0_55 a1_10 a1_10 0 0 (⟨#[]⟩ : ByteArray) 0 0) fun (r69, r70) =>
  if r70 ≤ 2147483647 then
    bS (Fs_l7Digits r70) fun r72 =>
    if 0 ≤ a1_10 then
    if 0 ≤ r69 then
    if a1_10.toNat ≤ r69.toNat ∧ r69.toNat ≤ a0_55.size then
    some (2, (⟨#[]⟩ : ByteArray), r70, a1_10, r69, (decide (r72 = (ByteArray.extract a0_55 a1_10.toNat r69.toNat))))
    else none
    else none
    else none
  else
    some (2, (⟨#[]⟩ : ByteArray), r70, a1_10, r69, false)
def Fs_l11Num_ans (a0_55 : ByteArray) (a1_10 : Int) : (Int × ByteArray × Int × Int × Int × Bool) → Ans
  | (q25, q26, q27, q28, q29, q30) => .val (.tu [.ag [.sc (.int .i64 q25), .sc (.string q26), .sc (.int .i64 q27), .sc (.int .i64 q28)], .sc (.int .i64 q29), .sc (.bool q30)]) []
theorem Fs_l11Num_ok (a0_55 : ByteArray) (a1_10 : Int) (r_ : (Int × ByteArray × Int × Int × Int × Bool)) (h_ : Fs_l11Num a0_55 a1_10 = some r_) : ev EE (.call 88 [.sc (.string a0_55), .sc (.int .i64 a1_10)] []) = some (Fs_l11Num_ans a0_55 a1_10 r_) := by
  rw [ev_eq]
  simp only [Fs_l11Num] at h_
  obtain ⟨⟨r69, r70⟩, h1_, h_⟩ := bS_some h_
  try dsimp only at h_
  have h1_f := Ls_l11Num_0_ok FU a0_55 a1_10 a1_10 0 0 (⟨#[]⟩ : ByteArray) 0 0 _ h1_
  try simp [Ls_l11Num_0_ans] at h1_f
  rcases bI h_ with ⟨h2_, h_⟩ | ⟨h2_, h_⟩
  · obtain ⟨r72, h3_, h_⟩ := bS_some h_
    have h3_f := Fs_l7Digits_ok r70 _ h3_
    try simp [Fs_l7Digits_ans] at h3_f
    obtain ⟨h4_, h_⟩ := bP h_
    obtain ⟨h5_, h_⟩ := bP h_
    obtain ⟨h6_, h_⟩ := bP h_
    cases h_
    simp (maxSteps := 2000000) (decide := true) [-getElem?_pos, -Int.toNat_le, -Int.le_toNat, ir88, h1_f, h2_, h3_f, h4_, h5_, h6_, Fs_l11Num_ans]
  · cases h_
    simp (maxSteps := 2000000) (decide := true) [-getElem?_pos, ir88, h1_f, h2_, Fs_l11Num_ans]
def Ls_l11Text_0 : Nat → ByteArray → Int → Int → Int → ByteArray → Int → Int → Option Int
  | 0, _, _, _, _, _, _, _ => none
  | n_ + 1, t0_7, t1_7, t7_5, x0_33, x0_34, x0_35, x0_36 =>
  if t7_5 < (t0_7.size : Int) then
    bS (getB t0_7 t7_5) fun b5 =>
    if (b5.toNat : Int) = 34 then
      some t7_5
    else
    if 32 ≤ (b5.toNat : Int) then
      if (b5.toNat : Int) ≤ 126 then
        Ls_l11Text_0 n_ t0_7 t1_7 (IntKind.i64.wrap (t7_5 + 1)) x0_33 x0_34 x0_35 x0_36
      else
        some t7_5
    else
      some t7_5
  else
    some t7_5
def Ls_l11Text_0_ans (t0_7 : ByteArray) (t1_7 : Int) (t7_5 : Int) (x0_33 : Int) (x0_34 : ByteArray) (x0_35 : Int) (x0_36 : Int) : Int → Ans
  | t7_6 => .out (.exit 0) { np := 0, tm := [(0, .sc (.string t0_7)), (1, .sc (.int .i64 t1_7)), (4, .bx 0 0), (7, .sc (.int .i64 t7_6))], ar := [], bx := [(0, .b [.sc (.int .i64 x0_33), .sc (.string x0_34), .sc (.int .i64 x0_35), .sc (.int .i64 x0_36)])] }
theorem Ls_l11Text_0_ok : ∀ (n_ : Nat) (t0_7 : ByteArray) (t1_7 : Int) (t7_5 : Int) (x0_33 : Int) (x0_34 : ByteArray) (x0_35 : Int) (x0_36 : Int) (r_ : Int), Ls_l11Text_0 n_ t0_7 t1_7 t7_5 x0_33 x0_34 x0_35 x0_36 = some r_ → ev EE (.loop lp89_0 [0, 1, 4, 7] [0, 1, 4, 5, 6, 7] { np := 0, tm := [(0, .sc (.string t0_7)), (1, .sc (.int .i64 t1_7)), (4, .bx 0 0), (7, .sc (.int .i64 t7_5))], ar := [], bx := [(0, .b [.sc (.int .i64 x0_33), .sc (.string x0_34), .sc (.int .i64 x0_35), .sc (.int .i64 x0_36)])] }) = some (Ls_l11Text_0_ans t0_7 t1_7 t7_5 x0_33 x0_34 x0_35 x0_36 r_) := by
  intro n_
  induction n_ with
  | zero => intro t0_7 t1_7 t7_5 x0_33 x0_34 x0_35 x0_36 r_ h_; simp only [Ls_l11Text_0] at h_; cases h_
  | succ n_ ih_ =>
    intro t0_7 t1_7 t7_5 x0_33 x0_34 x0_35 x0_36 r_ h_
    rw [ev_loop EE lp89_0.eq_1]
    simp only [Ls_l11Text_0] at h_
    rcases bI h_ with ⟨h1_, h_⟩ | ⟨h1_, h_⟩
    · have h1_s := h1_; try simp at h1_s
      obtain ⟨b5, h3_, h_⟩ := bS_some h_
      obtain ⟨h3_a, h3_b, h3_c, h3_d⟩ := getB_some h3_
      try simp [-getElem?_pos] at h3_d
      rcases bI h_ with ⟨h7_, h_⟩ | ⟨h7_, h_⟩
      · have h7_s := h7_; try simp at h7_s
        cases h_
        simp (maxSteps := 2000000) (decide := true) [-getElem?_pos, -Int.toNat_le, -Int.le_toNat, h1_, h1_s, h3_a, h3_b, h3_c, h3_d, eq_true h7_, eq_true h7_s, Ls_l11Text_0_ans]
      · have h7_s := h7_; try simp at h7_s
        rcases bI h_ with ⟨h9_, h_⟩ | ⟨h9_, h_⟩
        · have h9_s := h9_; try simp at h9_s
          rcases bI h_ with ⟨h11_, h_⟩ | ⟨h11_, h_⟩
          · have h11_s := h11_; try simp at h11_s
            have q_ := ih_ t0_7 t1_7 (IntKind.i64.wrap (t7_5 + 1)) x0_33 x0_34 x0_35 x0_36 _ h_
            rcases r_ with t7_6
            all_goals (try simp [Ls_l11Text_0_ans] at q_)
            all_goals simp (maxSteps := 2000000) (decide := true) [-getElem?_pos, -Int.toNat_le, -Int.le_toNat, h1_, h1_s, h3_a, h3_b, h3_c, h3_d, h7_, h7_s, h9_, h9_s, h11_, h11_s, q_, Ls_l11Text_0_ans]
          · have h11_s := h11_; try simp at h11_s
            cases h_
            simp (maxSteps := 2000000) (decide := true) [-getElem?_pos, -Int.toNat_le, -Int.le_toNat, h1_, h1_s, h3_a, h3_b, h3_c, h3_d, h7_, h7_s, h9_, h9_s, h11_, h11_s, Ls_l11Text_0_ans]
        · have h9_s := h9_; try simp at h9_s
          cases h_
          simp (maxSteps := 2000000) (decide := true) [-getElem?_pos, h1_, h1_s, h3_a, h3_b, h3_c, h3_d, h7_, h7_s, h9_, h9_s, Ls_l11Text_0_ans]
    · have h1_s := h1_; try simp at h1_s
      cases h_
      simp (maxSteps := 2000000) (decide := true) [-getElem?_pos, h1_, h1_s, Ls_l11Text_0_ans]
/-- spec.l11Text -/
def Fs_l11Text (a0_57 : ByteArray) (a1_11 : Int) : Option (Int × ByteArray × Int × Int × Int × Bool) :=
  bS (Ls_l11Text_0 FU a0_57 a1_11 (IntKind.i64.wrap (a1_11 + 1)) 0 (⟨#[]⟩ : ByteArray) 0 0) fun r79 =>
  if (a0_57.size : Int) ≤ r79 then
    some (0, (⟨#[]⟩ : ByteArray), 0, 0, a1_11, false)
  else
  bS (getB a0_57 r79) fun b6 =>
  if (b6.toNat : Int) = 34 then
    if 30 < IntKind.i64.wrap ((IntKind.i64.wrap (r79 - a1_11)) - 1) then
      some (0, (⟨#[]⟩ : ByteArray), 0, 0, a1_11, false)
    else
    if 0 ≤ IntKind.i64.wrap (a1_11 + 1) then
    if 0 ≤ r79 then
    if (IntKind.i64.wrap (a1_11 + 1)).toNat ≤ r79.toNat ∧ r79.toNat ≤ a0_57.size then
    some (3, ByteArray.extract a0_57 ((IntKind.i64.wrap (a1_11 + 1)).toNat) r79.toNat, 0, a1_11, IntKind.i64.wrap (r79 + 1), true)
    else none
    else none
    else none
  else
    some (0, (⟨#[]⟩ : ByteArray), 0, 0, a1_11, false)
def Fs_l11Text_ans (a0_57 : ByteArray) (a1_11 : Int) : (Int × ByteArray × Int × Int × Int × Bool) → Ans
  | (q31, q32, q33, q34, q35, q36) => .val (.tu [.ag [.sc (.int .i64 q31), .sc (.string q32), .sc (.int .i64 q33), .sc (.int .i64 q34)], .sc (.int .i64 q35), .sc (.bool q36)]) []
theorem Fs_l11Text_ok (a0_57 : ByteArray) (a1_11 : Int) (r_ : (Int × ByteArray × Int × Int × Int × Bool)) (h_ : Fs_l11Text a0_57 a1_11 = some r_) : ev EE (.call 89 [.sc (.string a0_57), .sc (.int .i64 a1_11)] []) = some (Fs_l11Text_ans a0_57 a1_11 r_) := by
  rw [ev_eq]
  simp only [Fs_l11Text] at h_
  obtain ⟨r79, h1_, h_⟩ := bS_some h_
  have h1_f := Ls_l11Text_0_ok FU a0_57 a1_11 (IntKind.i64.wrap (a1_11 + 1)) 0 (⟨#[]⟩ : ByteArray) 0 0 _ h1_
  try simp [Ls_l11Text_0_ans] at h1_f
  rcases bI h_ with ⟨h2_, h_⟩ | ⟨h2_, h_⟩
  · have h2_s := h2_; try simp at h2_s
    cases h_
    simp (maxSteps := 2000000) (decide := true) [-getElem?_pos, ir89, h1_f, h2_, h2_s, Fs_l11Text_ans]
  · have h2_s := h2_; try simp at h2_s
    obtain ⟨b6, h4_, h_⟩ := bS_some h_
    obtain ⟨h4_a, h4_b, h4_c, h4_d⟩ := getB_some h4_
    try simp [-getElem?_pos] at h4_d
    rcases bI h_ with ⟨h8_, h_⟩ | ⟨h8_, h_⟩
    · have h8_s := h8_; try simp at h8_s
      rcases bI h_ with ⟨h10_, h_⟩ | ⟨h10_, h_⟩
      · cases h_
        simp (maxSteps := 2000000) (decide := true) [-getElem?_pos, -Int.toNat_le, -Int.le_toNat, ir89, h1_f, h2_, h2_s, h4_a, h4_b, h4_c, h4_d, eq_true h8_, eq_true h8_s, h10_, Fs_l11Text_ans]
      · obtain ⟨h11_, h_⟩ := bP h_
        obtain ⟨h12_, h_⟩ := bP h_
        obtain ⟨h13_, h_⟩ := bP h_
        cases h_
        simp (maxSteps := 2000000) (decide := true) [-getElem?_pos, -Int.toNat_le, -Int.le_toNat, ir89, h1_f, h2_, h2_s, h4_a, h4_b, h4_c, h4_d, eq_true h8_, eq_true h8_s, h10_, h11_, h12_, h13_, Fs_l11Text_ans]
    · have h8_s := h8_; try simp at h8_s
      cases h_
      simp (maxSteps := 2000000) (decide := true) [-getElem?_pos, ir89, h1_f, h2_, h2_s, h4_a, h4_b, h4_c, h4_d, h8_, h8_s, Fs_l11Text_ans]
def Ls_l11Sign_0 : Nat → ByteArray → Int → ByteArray → Int → Option (ByteArray ⊕ Unit)
  | 0, _, _, _, _ => none
  | n_ + 1, t0_8, t1_8, t5_6, t6_1 =>
  if t6_1 < (t5_6.size : Int) then
    bS (getB t5_6 t6_1) fun b9 =>
    bS (getB t0_8 t1_8) fun b10 =>
    if (b9.toNat : Int) = (b10.toNat : Int) then
      if 0 ≤ t1_8 then
      if 0 ≤ IntKind.i64.wrap (t1_8 + 1) then
      if t1_8.toNat ≤ (IntKind.i64.wrap (t1_8 + 1)).toNat ∧ (IntKind.i64.wrap (t1_8 + 1)).toNat ≤ t0_8.size then
      some (.inl (ByteArray.extract t0_8 t1_8.toNat ((IntKind.i64.wrap (t1_8 + 1)).toNat)))
      else none
      else none
      else none
    else
      Ls_l11Sign_0 n_ t0_8 t1_8 t5_6 (IntKind.i64.wrap (t6_1 + 1))
  else
    some (.inr ())
def Ls_l11Sign_0_ans (t0_8 : ByteArray) (t1_8 : Int) (t5_6 : ByteArray) (t6_1 : Int) : ByteArray ⊕ Unit → Ans
  | .inl t4_11 => .out .ret { np := 0, tm := [(4, .sc (.string t4_11))], ar := [], bx := [] }
  | .inr _ => .out (.exit 0) { np := 0, tm := [], ar := [], bx := [] }
theorem Ls_l11Sign_0_ok : ∀ (n_ : Nat) (t0_8 : ByteArray) (t1_8 : Int) (t5_6 : ByteArray) (t6_1 : Int) (r_ : ByteArray ⊕ Unit), Ls_l11Sign_0 n_ t0_8 t1_8 t5_6 t6_1 = some r_ → ev EE (.loop lp90_0 [0, 1, 5, 6] [4] { np := 0, tm := [(0, .sc (.string t0_8)), (1, .sc (.int .i64 t1_8)), (5, .sc (.string t5_6)), (6, .sc (.int .i64 t6_1))], ar := [], bx := [] }) = some (Ls_l11Sign_0_ans t0_8 t1_8 t5_6 t6_1 r_) := by
  intro n_
  induction n_ with
  | zero => intro t0_8 t1_8 t5_6 t6_1 r_ h_; simp only [Ls_l11Sign_0] at h_; cases h_
  | succ n_ ih_ =>
    intro t0_8 t1_8 t5_6 t6_1 r_ h_
    rw [ev_loop EE lp90_0.eq_1]
    simp only [Ls_l11Sign_0] at h_
    rcases bI h_ with ⟨h1_, h_⟩ | ⟨h1_, h_⟩
    · have h1_s := h1_; try simp at h1_s
      obtain ⟨b9, h3_, h_⟩ := bS_some h_
      obtain ⟨h3_a, h3_b, h3_c, h3_d⟩ := getB_some h3_
      try simp [-getElem?_pos] at h3_d
      obtain ⟨b10, h7_, h_⟩ := bS_some h_
      obtain ⟨h7_a, h7_b, h7_c, h7_d⟩ := getB_some h7_
      try simp [-getElem?_pos] at h7_d
      rcases bI h_ with ⟨h11_, h_⟩ | ⟨h11_, h_⟩
      · have h11_s := h11_; try simp at h11_s
        obtain ⟨h13_, h_⟩ := bP h_
        obtain ⟨h14_, h_⟩ := bP h_
        obtain ⟨h15_, h_⟩ := bP h_
        cases h_
        simp (maxSteps := 2000000) (decide := true) [-getElem?_pos, -Int.toNat_le, -Int.le_toNat, h1_, h1_s, h3_a, h3_b, h3_c, h3_d, h7_a, h7_b, h7_c, h7_d, eq_true h11_, eq_true h11_s, h13_, h14_, h15_, Ls_l11Sign_0_ans]
      · have h11_s := h11_; try simp at h11_s
        have q_ := ih_ t0_8 t1_8 t5_6 (IntKind.i64.wrap (t6_1 + 1)) _ h_
        rcases r_ with t4_11 | _
        all_goals (try simp [Ls_l11Sign_0_ans] at q_)
        all_goals simp (maxSteps := 2000000) (decide := true) [-getElem?_pos, h1_, h1_s, h3_a, h3_b, h3_c, h3_d, h7_a, h7_b, h7_c, h7_d, h11_, h11_s, q_, Ls_l11Sign_0_ans]
    · have h1_s := h1_; try simp at h1_s
      cases h_
      simp (maxSteps := 2000000) (decide := true) [-getElem?_pos, h1_, h1_s, Ls_l11Sign_0_ans]
/-- spec.l11Sign -/
def Fs_l11Sign (a0_58 : ByteArray) (a1_12 : Int) : Option ByteArray :=
  bS (getB a0_58 a1_12) fun b7 =>
  if (b7.toNat : Int) = 61 then
    if IntKind.i64.wrap (a1_12 + 1) < (a0_58.size : Int) then
      bS (getB a0_58 (IntKind.i64.wrap (a1_12 + 1))) fun b8 =>
      if (b8.toNat : Int) = 61 then
        some (⟨#[61, 61]⟩ : ByteArray)
      else
      bS (Ls_l11Sign_0 FU a0_58 a1_12 (⟨#[40, 41, 123, 125, 44, 59, 58, 46, 61, 43, 45, 42, 60, 33]⟩ : ByteArray) 0) fun r_ => match r_ with
      | .inl r86 =>
        some r86
      | .inr () =>
        some (⟨#[]⟩ : ByteArray)
    else
    bS (Ls_l11Sign_0 FU a0_58 a1_12 (⟨#[40, 41, 123, 125, 44, 59, 58, 46, 61, 43, 45, 42, 60, 33]⟩ : ByteArray) 0) fun r_ => match r_ with
    | .inl r87 =>
      some r87
    | .inr () =>
      some (⟨#[]⟩ : ByteArray)
  else
  bS (Ls_l11Sign_0 FU a0_58 a1_12 (⟨#[40, 41, 123, 125, 44, 59, 58, 46, 61, 43, 45, 42, 60, 33]⟩ : ByteArray) 0) fun r_ => match r_ with
  | .inl r88 =>
    some r88
  | .inr () =>
    some (⟨#[]⟩ : ByteArray)
def Fs_l11Sign_ans (a0_58 : ByteArray) (a1_12 : Int) : ByteArray → Ans
  | q37 => .val (.sc (.string q37)) []
theorem Fs_l11Sign_ok (a0_58 : ByteArray) (a1_12 : Int) (r_ : ByteArray) (h_ : Fs_l11Sign a0_58 a1_12 = some r_) : ev EE (.call 90 [.sc (.string a0_58), .sc (.int .i64 a1_12)] []) = some (Fs_l11Sign_ans a0_58 a1_12 r_) := by
  rw [ev_eq]
  simp only [Fs_l11Sign] at h_
  obtain ⟨b7, h1_, h_⟩ := bS_some h_
  obtain ⟨h1_a, h1_b, h1_c, h1_d⟩ := getB_some h1_
  try simp [-getElem?_pos] at h1_d
  rcases bI h_ with ⟨h5_, h_⟩ | ⟨h5_, h_⟩
  · have h5_s := h5_; try simp at h5_s
    rcases bI h_ with ⟨h7_, h_⟩ | ⟨h7_, h_⟩
    · have h7_s := h7_; try simp at h7_s
      obtain ⟨b8, h9_, h_⟩ := bS_some h_
      obtain ⟨h9_a, h9_b, h9_c, h9_d⟩ := getB_some h9_
      try simp [-getElem?_pos] at h9_d
      rcases bI h_ with ⟨h13_, h_⟩ | ⟨h13_, h_⟩
      · have h13_s := h13_; try simp at h13_s
        cases h_
        simp (maxSteps := 2000000) (decide := true) [-getElem?_pos, -Int.toNat_le, -Int.le_toNat, ir90, h1_a, h1_b, h1_c, h1_d, eq_true h5_, eq_true h5_s, h7_, h7_s, h9_a, h9_b, h9_c, h9_d, eq_true h13_, eq_true h13_s, Fs_l11Sign_ans]
      · have h13_s := h13_; try simp at h13_s
        obtain ⟨r_14, h15_, h_⟩ := bS_some h_
        have h15_f := Ls_l11Sign_0_ok FU a0_58 a1_12 (⟨#[40, 41, 123, 125, 44, 59, 58, 46, 61, 43, 45, 42, 60, 33]⟩ : ByteArray) 0 _ h15_
        rcases r_14 with r86 | _
        · try dsimp only at h_
          try simp [Ls_l11Sign_0_ans] at h15_f
          cases h_
          simp (maxSteps := 2000000) (decide := true) [-getElem?_pos, -Int.toNat_le, -Int.le_toNat, ir90, h1_a, h1_b, h1_c, h1_d, eq_true h5_, eq_true h5_s, h7_, h7_s, h9_a, h9_b, h9_c, h9_d, h13_, h13_s, h15_f, Fs_l11Sign_ans]
        · try dsimp only at h_
          try simp [Ls_l11Sign_0_ans] at h15_f
          cases h_
          simp (maxSteps := 2000000) (decide := true) [-getElem?_pos, -Int.toNat_le, -Int.le_toNat, ir90, h1_a, h1_b, h1_c, h1_d, eq_true h5_, eq_true h5_s, h7_, h7_s, h9_a, h9_b, h9_c, h9_d, h13_, h13_s, h15_f, Fs_l11Sign_ans]
    · have h7_s := h7_; try simp at h7_s
      obtain ⟨r_8, h9_, h_⟩ := bS_some h_
      have h9_f := Ls_l11Sign_0_ok FU a0_58 a1_12 (⟨#[40, 41, 123, 125, 44, 59, 58, 46, 61, 43, 45, 42, 60, 33]⟩ : ByteArray) 0 _ h9_
      rcases r_8 with r87 | _
      · try dsimp only at h_
        try simp [Ls_l11Sign_0_ans] at h9_f
        cases h_
        simp (maxSteps := 2000000) (decide := true) [-getElem?_pos, -Int.toNat_le, -Int.le_toNat, ir90, h1_a, h1_b, h1_c, h1_d, eq_true h5_, eq_true h5_s, h7_, h7_s, h9_f, Fs_l11Sign_ans]
      · try dsimp only at h_
        try simp [Ls_l11Sign_0_ans] at h9_f
        cases h_
        simp (maxSteps := 2000000) (decide := true) [-getElem?_pos, -Int.toNat_le, -Int.le_toNat, ir90, h1_a, h1_b, h1_c, h1_d, eq_true h5_, eq_true h5_s, h7_, h7_s, h9_f, Fs_l11Sign_ans]
  · have h5_s := h5_; try simp at h5_s
    obtain ⟨r_6, h7_, h_⟩ := bS_some h_
    have h7_f := Ls_l11Sign_0_ok FU a0_58 a1_12 (⟨#[40, 41, 123, 125, 44, 59, 58, 46, 61, 43, 45, 42, 60, 33]⟩ : ByteArray) 0 _ h7_
    rcases r_6 with r88 | _
    · try dsimp only at h_
      try simp [Ls_l11Sign_0_ans] at h7_f
      cases h_
      simp (maxSteps := 2000000) (decide := true) [-getElem?_pos, ir90, h1_a, h1_b, h1_c, h1_d, h5_, h5_s, h7_f, Fs_l11Sign_ans]
    · try dsimp only at h_
      try simp [Ls_l11Sign_0_ans] at h7_f
      cases h_
      simp (maxSteps := 2000000) (decide := true) [-getElem?_pos, ir90, h1_a, h1_b, h1_c, h1_d, h5_, h5_s, h7_f, Fs_l11Sign_ans]
/-- spec.l11One -/
def Fs_l11One (a0_51 : ByteArray) (a1_8 : Int) : Option (Int × ByteArray × Int × Int × Int × Bool) :=
  bS (getB a0_51 a1_8) fun b2 =>
  bS (Fs_l11Letter (b2.toNat : Int)) fun r57 =>
  if r57 = true then
    bS (Fs_l11Name a0_51 a1_8) fun (r61, r62, r63, r64, r65, r66) =>
    some (r61, r62, r63, r64, r65, r66)
  else
  bS (Fs_l11Digit (b2.toNat : Int)) fun r67 =>
  if r67 = true then
    bS (Fs_l11Num a0_51 a1_8) fun (r73, r74, r75, r76, r77, r78) =>
    some (r73, r74, r75, r76, r77, r78)
  else
  if (b2.toNat : Int) = 34 then
    bS (Fs_l11Text a0_51 a1_8) fun (r80, r81, r82, r83, r84, r85) =>
    some (r80, r81, r82, r83, r84, r85)
  else
  bS (Fs_l11Sign a0_51 a1_8) fun r89 =>
  some (4, r89, 0, a1_8, IntKind.i64.wrap (a1_8 + (r89.size : Int)), (!(decide (r89 = (⟨#[]⟩ : ByteArray)))))
def Fs_l11One_ans (a0_51 : ByteArray) (a1_8 : Int) : (Int × ByteArray × Int × Int × Int × Bool) → Ans
  | (q38, q39, q40, q41, q42, q43) => .val (.tu [.ag [.sc (.int .i64 q38), .sc (.string q39), .sc (.int .i64 q40), .sc (.int .i64 q41)], .sc (.int .i64 q42), .sc (.bool q43)]) []
theorem Fs_l11One_ok (a0_51 : ByteArray) (a1_8 : Int) (r_ : (Int × ByteArray × Int × Int × Int × Bool)) (h_ : Fs_l11One a0_51 a1_8 = some r_) : ev EE (.call 77 [.sc (.string a0_51), .sc (.int .i64 a1_8)] []) = some (Fs_l11One_ans a0_51 a1_8 r_) := by
  rw [ev_eq]
  simp only [Fs_l11One] at h_
  obtain ⟨b2, h1_, h_⟩ := bS_some h_
  obtain ⟨h1_a, h1_b, h1_c, h1_d⟩ := getB_some h1_
  try simp [-getElem?_pos] at h1_d
  obtain ⟨r57, h5_, h_⟩ := bS_some h_
  have h5_f := Fs_l11Letter_ok (b2.toNat : Int) _ h5_
  try simp [Fs_l11Letter_ans] at h5_f
  rcases bI h_ with ⟨h6_, h_⟩ | ⟨h6_, h_⟩
  · obtain ⟨⟨r61, r62, r63, r64, r65, r66⟩, h7_, h_⟩ := bS_some h_
    try dsimp only at h_
    have h7_f := Fs_l11Name_ok a0_51 a1_8 _ h7_
    try simp [Fs_l11Name_ans] at h7_f
    cases h_
    simp (maxSteps := 2000000) (decide := true) [-getElem?_pos, ir77, h1_a, h1_b, h1_c, h1_d, h5_f, h6_, h7_f, Fs_l11One_ans]
  · obtain ⟨r67, h7_, h_⟩ := bS_some h_
    have h7_f := Fs_l11Digit_ok (b2.toNat : Int) _ h7_
    try simp [Fs_l11Digit_ans] at h7_f
    rcases bI h_ with ⟨h8_, h_⟩ | ⟨h8_, h_⟩
    · obtain ⟨⟨r73, r74, r75, r76, r77, r78⟩, h9_, h_⟩ := bS_some h_
      try dsimp only at h_
      have h9_f := Fs_l11Num_ok a0_51 a1_8 _ h9_
      try simp [Fs_l11Num_ans] at h9_f
      cases h_
      simp (maxSteps := 2000000) (decide := true) [-getElem?_pos, ir77, h1_a, h1_b, h1_c, h1_d, h5_f, h6_, h7_f, h8_, h9_f, Fs_l11One_ans]
    · rcases bI h_ with ⟨h9_, h_⟩ | ⟨h9_, h_⟩
      · have h9_s := h9_; try simp at h9_s
        obtain ⟨⟨r80, r81, r82, r83, r84, r85⟩, h11_, h_⟩ := bS_some h_
        try dsimp only at h_
        have h11_f := Fs_l11Text_ok a0_51 a1_8 _ h11_
        try simp [Fs_l11Text_ans] at h11_f
        cases h_
        simp (maxSteps := 2000000) (decide := true) [-getElem?_pos, -Int.toNat_le, -Int.le_toNat, ir77, h1_a, h1_b, h1_c, h1_d, h5_f, h6_, h7_f, h8_, eq_true h9_, eq_true h9_s, h11_f, Fs_l11One_ans]
      · have h9_s := h9_; try simp at h9_s
        obtain ⟨r89, h11_, h_⟩ := bS_some h_
        have h11_f := Fs_l11Sign_ok a0_51 a1_8 _ h11_
        try simp [Fs_l11Sign_ans] at h11_f
        cases h_
        simp (maxSteps := 2000000) (decide := true) [-getElem?_pos, ir77, h1_a, h1_b, h1_c, h1_d, h5_f, h6_, h7_f, h8_, h9_, h9_s, h11_f, Fs_l11One_ans]
def Ls_Tokens_0 : Nat → ByteArray → (List T_Token) → Int → Option (((List T_Token) × Int × (List T_Token)) ⊕ (List T_Token))
  | 0, _, _, _ => none
  | n_ + 1, t0_3, t4_8, t5_5 =>
  if t5_5 < (t0_3.size : Int) then
    bS (getB t0_3 t5_5) fun b1 =>
    if (b1.toNat : Int) = 32 then
      Ls_Tokens_0 n_ t0_3 t4_8 (IntKind.i64.wrap (t5_5 + 1))
    else
    if (b1.toNat : Int) = 10 then
      Ls_Tokens_0 n_ t0_3 t4_8 (IntKind.i64.wrap (t5_5 + 1))
    else
    bS (Fs_l11One t0_3 t5_5) fun (r90, r91, r92, r93, r94, r95) =>
    if r95 = true then
      if lim (t4_8.length + 1) 40 = true then
      Ls_Tokens_0 n_ t0_3 (t4_8 ++ [(⟨r90, r91, r92, r93⟩ : T_Token)]) r94
      else none
    else
      some (.inl ([], t5_5, t4_8))
  else
    some (.inr t4_8)
def Ls_Tokens_0_ans (t0_3 : ByteArray) (t4_8 : List T_Token) (t5_5 : Int) : ((List T_Token) × Int × (List T_Token)) ⊕ (List T_Token) → Ans
  | .inl (t2_3, t3_10, t4_12) => .out .ret { np := 0, tm := [(0, .sc (.string t0_3)), (2, .rf 0 0 t2_3.length), (3, .sc (.int .i64 t3_10)), (4, .rf 1 0 t4_12.length)], ar := [(0, .a false (r_Token t2_3)), (1, .a false (r_Token t4_12))], bx := [] }
  | .inr t4_13 => .out (.exit 0) { np := 0, tm := [(0, .sc (.string t0_3)), (4, .rf 0 0 t4_13.length)], ar := [(0, .a false (r_Token t4_13))], bx := [] }
theorem Ls_Tokens_0_ok : ∀ (n_ : Nat) (t0_3 : ByteArray) (t4_8 : List T_Token) (t5_5 : Int) (r_ : ((List T_Token) × Int × (List T_Token)) ⊕ (List T_Token)), Ls_Tokens_0 n_ t0_3 t4_8 t5_5 = some r_ → ev EE (.loop lp59_0 [0, 4, 5] [0, 2, 3, 4] { np := 0, tm := [(0, .sc (.string t0_3)), (4, .rf 0 0 t4_8.length), (5, .sc (.int .i64 t5_5))], ar := [(0, .a false (r_Token t4_8))], bx := [] }) = some (Ls_Tokens_0_ans t0_3 t4_8 t5_5 r_) := by
  intro n_
  induction n_ with
  | zero => intro t0_3 t4_8 t5_5 r_ h_; simp only [Ls_Tokens_0] at h_; cases h_
  | succ n_ ih_ =>
    intro t0_3 t4_8 t5_5 r_ h_
    rw [ev_loop EE lp59_0.eq_1]
    simp only [Ls_Tokens_0] at h_
    rcases bI h_ with ⟨h1_, h_⟩ | ⟨h1_, h_⟩
    · have h1_s := h1_; try simp at h1_s
      obtain ⟨b1, h3_, h_⟩ := bS_some h_
      obtain ⟨h3_a, h3_b, h3_c, h3_d⟩ := getB_some h3_
      try simp [-getElem?_pos] at h3_d
      rcases bI h_ with ⟨h7_, h_⟩ | ⟨h7_, h_⟩
      · have h7_s := h7_; try simp at h7_s
        have q_ := ih_ t0_3 t4_8 (IntKind.i64.wrap (t5_5 + 1)) _ h_
        rcases r_ with ⟨t2_3, t3_10, t4_12⟩ | t4_13
        all_goals (try simp [Ls_Tokens_0_ans] at q_)
        all_goals simp (maxSteps := 2000000) (decide := true) [-getElem?_pos, -Int.toNat_le, -Int.le_toNat, h1_, h1_s, h3_a, h3_b, h3_c, h3_d, eq_true h7_, eq_true h7_s, q_, Ls_Tokens_0_ans]
      · have h7_s := h7_; try simp at h7_s
        rcases bI h_ with ⟨h9_, h_⟩ | ⟨h9_, h_⟩
        · have h9_s := h9_; try simp at h9_s
          have q_ := ih_ t0_3 t4_8 (IntKind.i64.wrap (t5_5 + 1)) _ h_
          rcases r_ with ⟨t2_3, t3_10, t4_12⟩ | t4_13
          all_goals (try simp [Ls_Tokens_0_ans] at q_)
          all_goals simp (maxSteps := 2000000) (decide := true) [-getElem?_pos, -Int.toNat_le, -Int.le_toNat, h1_, h1_s, h3_a, h3_b, h3_c, h3_d, h7_, h7_s, eq_true h9_, eq_true h9_s, q_, Ls_Tokens_0_ans]
        · have h9_s := h9_; try simp at h9_s
          obtain ⟨⟨r90, r91, r92, r93, r94, r95⟩, h11_, h_⟩ := bS_some h_
          try dsimp only at h_
          have h11_f := Fs_l11One_ok t0_3 t5_5 _ h11_
          try simp [Fs_l11One_ans] at h11_f
          rcases bI h_ with ⟨h12_, h_⟩ | ⟨h12_, h_⟩
          · obtain ⟨h13_, h_⟩ := bP h_
            have q_ := ih_ t0_3 (t4_8 ++ [(⟨r90, r91, r92, r93⟩ : T_Token)]) r94 _ h_
            rcases r_ with ⟨t2_3, t3_10, t4_12⟩ | t4_13
            all_goals (try simp [Ls_Tokens_0_ans] at q_)
            all_goals simp (maxSteps := 2000000) (decide := true) [-getElem?_pos, h1_, h1_s, h3_a, h3_b, h3_c, h3_d, h7_, h7_s, h9_, h9_s, h11_f, h12_, h13_, q_, Ls_Tokens_0_ans]
          · cases h_
            simp (maxSteps := 2000000) (decide := true) [-getElem?_pos, h1_, h1_s, h3_a, h3_b, h3_c, h3_d, h7_, h7_s, h9_, h9_s, h11_f, h12_, Ls_Tokens_0_ans]
    · have h1_s := h1_; try simp at h1_s
      cases h_
      simp (maxSteps := 2000000) (decide := true) [-getElem?_pos, h1_, h1_s, Ls_Tokens_0_ans]
/-- spec.Tokens -/
def Fs_Tokens (a0_50 : ByteArray) : Option ((List T_Token) × Int) :=
  if 800 < (a0_50.size : Int) then
    some ([], 0)
  else
  bS (Ls_Tokens_0 FU a0_50 [] 0) fun r_ => match r_ with
  | .inl (r96, r97, r98) =>
    some (r96, r97)
  | .inr r99 =>
    if lim (r99.length + 1) 40 = true then
    some (r99 ++ ([(⟨0, (⟨#[]⟩ : ByteArray), 0, (a0_50.size : Int)⟩ : T_Token)]), (-1))
    else none
def Fs_Tokens_ans (a0_50 : ByteArray) : ((List T_Token) × Int) → Ans
  | (q44, q45) => .val (.tu [.ls true (r_Token q44), .sc (.int .i64 q45)]) []
theorem Fs_Tokens_ok (a0_50 : ByteArray) (r_ : ((List T_Token) × Int)) (h_ : Fs_Tokens a0_50 = some r_) : ev EE (.call 59 [.sc (.string a0_50)] []) = some (Fs_Tokens_ans a0_50 r_) := by
  rw [ev_eq]
  simp only [Fs_Tokens] at h_
  rcases bI h_ with ⟨h1_, h_⟩ | ⟨h1_, h_⟩
  · have h1_s := h1_; try simp at h1_s
    cases h_
    simp (maxSteps := 2000000) (decide := true) [-getElem?_pos, ir59, h1_, h1_s, Fs_Tokens_ans]
  · have h1_s := h1_; try simp at h1_s
    obtain ⟨r_2, h3_, h_⟩ := bS_some h_
    have h3_f := Ls_Tokens_0_ok FU a0_50 [] 0 _ h3_
    rcases r_2 with ⟨r96, r97, r98⟩ | r99
    · try dsimp only at h_
      try simp [Ls_Tokens_0_ans] at h3_f
      cases h_
      simp (maxSteps := 2000000) (decide := true) [-getElem?_pos, ir59, h1_, h1_s, h3_f, Fs_Tokens_ans]
    · try dsimp only at h_
      try simp [Ls_Tokens_0_ans] at h3_f
      obtain ⟨h4_, h_⟩ := bP h_
      cases h_
      simp (maxSteps := 2000000) (decide := true) [-getElem?_pos, ir59, h1_, h1_s, h3_f, h4_, Fs_Tokens_ans]
def Ls_Word_0 : Nat → (List ByteArray) → Int → Int → ByteArray → Int → Int → Option (Bool ⊕ Unit)
  | 0, _, _, _, _, _, _ => none
  | n_ + 1, t3_11, t4_14, x0_37, x0_38, x0_39, x0_40 =>
  if t4_14 < (t3_11.length : Int) then
    if x0_37 = 1 then
      bS (getI t3_11 t4_14) fun e11 =>
      if x0_38 = e11 then
        some (.inl true)
      else
        Ls_Word_0 n_ t3_11 (IntKind.i64.wrap (t4_14 + 1)) x0_37 x0_38 x0_39 x0_40
    else
      Ls_Word_0 n_ t3_11 (IntKind.i64.wrap (t4_14 + 1)) x0_37 x0_38 x0_39 x0_40
  else
    some (.inr ())
def Ls_Word_0_ans (t3_11 : List ByteArray) (t4_14 : Int) (x0_37 : Int) (x0_38 : ByteArray) (x0_39 : Int) (x0_40 : Int) : Bool ⊕ Unit → Ans
  | .inl t2_4 => .out .ret { np := 0, tm := [(2, .sc (.bool t2_4))], ar := [], bx := [] }
  | .inr _ => .out (.exit 0) { np := 0, tm := [], ar := [], bx := [] }
theorem Ls_Word_0_ok : ∀ (n_ : Nat) (t3_11 : List ByteArray) (t4_14 : Int) (x0_37 : Int) (x0_38 : ByteArray) (x0_39 : Int) (x0_40 : Int) (r_ : Bool ⊕ Unit), Ls_Word_0 n_ t3_11 t4_14 x0_37 x0_38 x0_39 x0_40 = some r_ → ev EE (.loop lp60_0 [1, 3, 4] [2] { np := 0, tm := [(1, .bx 0 0), (3, .rf 0 0 t3_11.length), (4, .sc (.int .i64 t4_14))], ar := [(0, .a false (strs t3_11))], bx := [(0, .b [.sc (.int .i64 x0_37), .sc (.string x0_38), .sc (.int .i64 x0_39), .sc (.int .i64 x0_40)])] }) = some (Ls_Word_0_ans t3_11 t4_14 x0_37 x0_38 x0_39 x0_40 r_) := by
  intro n_
  induction n_ with
  | zero => intro t3_11 t4_14 x0_37 x0_38 x0_39 x0_40 r_ h_; simp only [Ls_Word_0] at h_; cases h_
  | succ n_ ih_ =>
    intro t3_11 t4_14 x0_37 x0_38 x0_39 x0_40 r_ h_
    rw [ev_loop EE lp60_0.eq_1]
    simp only [Ls_Word_0] at h_
    rcases bI h_ with ⟨h1_, h_⟩ | ⟨h1_, h_⟩
    · have h1_s := h1_; try simp at h1_s
      rcases bI h_ with ⟨h3_, h_⟩ | ⟨h3_, h_⟩
      · obtain ⟨e11, h4_, h_⟩ := bS_some h_
        obtain ⟨h4_a, h4_b, h4_c, h4_d⟩ := strs_getI  h4_
        try simp [-getElem?_pos] at h4_d
        rcases bI h_ with ⟨h8_, h_⟩ | ⟨h8_, h_⟩
        · cases h_
          simp (maxSteps := 2000000) (decide := true) [-getElem?_pos, h1_, h1_s, eq_true h3_, h4_a, h4_b, h4_c, h4_d, eq_true h8_, Ls_Word_0_ans]
        · have q_ := ih_ t3_11 (IntKind.i64.wrap (t4_14 + 1)) x0_37 x0_38 x0_39 x0_40 _ h_
          rcases r_ with t2_4 | _
          all_goals (try simp [Ls_Word_0_ans] at q_)
          all_goals simp (maxSteps := 2000000) (decide := true) [-getElem?_pos, h1_, h1_s, eq_true h3_, h4_a, h4_b, h4_c, h4_d, h8_, q_, Ls_Word_0_ans]
      · have q_ := ih_ t3_11 (IntKind.i64.wrap (t4_14 + 1)) x0_37 x0_38 x0_39 x0_40 _ h_
        rcases r_ with t2_4 | _
        all_goals (try simp [Ls_Word_0_ans] at q_)
        all_goals simp (maxSteps := 2000000) (decide := true) [-getElem?_pos, h1_, h1_s, h3_, q_, Ls_Word_0_ans]
    · have h1_s := h1_; try simp at h1_s
      cases h_
      simp (maxSteps := 2000000) (decide := true) [-getElem?_pos, h1_, h1_s, Ls_Word_0_ans]
/-- spec.Word -/
def Fs_Word (a0_59 : Int) (a0_60 : ByteArray) (a0_61 : Int) (a0_62 : Int) : Option Bool :=
  bS (Ls_Word_0 FU ([(⟨#[108, 101, 116]⟩ : ByteArray), (⟨#[105, 102]⟩ : ByteArray), (⟨#[101, 108, 115, 101]⟩ : ByteArray), (⟨#[119, 104, 105, 108, 101]⟩ : ByteArray), (⟨#[114, 101, 116, 117, 114, 110]⟩ : ByteArray), (⟨#[112, 114, 105, 110, 116]⟩ : ByteArray), (⟨#[102, 117, 110, 99, 116, 105, 111, 110]⟩ : ByteArray), (⟨#[116, 114, 117, 101]⟩ : ByteArray), (⟨#[102, 97, 108, 115, 101]⟩ : ByteArray), (⟨#[110, 117, 108, 108]⟩ : ByteArray), (⟨#[117, 110, 100, 101, 102, 105, 110, 101, 100]⟩ : ByteArray), (⟨#[112, 114, 111, 116, 111]⟩ : ByteArray)]) 0 a0_59 a0_60 a0_61 a0_62) fun r_ => match r_ with
  | .inl r102 =>
    some r102
  | .inr () =>
    some false
def Fs_Word_ans (a0_59 : Int) (a0_60 : ByteArray) (a0_61 : Int) (a0_62 : Int) : Bool → Ans
  | q46 => .val (.sc (.bool q46)) []
theorem Fs_Word_ok (a0_59 : Int) (a0_60 : ByteArray) (a0_61 : Int) (a0_62 : Int) (r_ : Bool) (h_ : Fs_Word a0_59 a0_60 a0_61 a0_62 = some r_) : ev EE (.call 60 [.ag [.sc (.int .i64 a0_59), .sc (.string a0_60), .sc (.int .i64 a0_61), .sc (.int .i64 a0_62)]] []) = some (Fs_Word_ans a0_59 a0_60 a0_61 a0_62 r_) := by
  rw [ev_eq]
  simp only [Fs_Word] at h_
  obtain ⟨r_0, h1_, h_⟩ := bS_some h_
  have h1_f := Ls_Word_0_ok FU ([(⟨#[108, 101, 116]⟩ : ByteArray), (⟨#[105, 102]⟩ : ByteArray), (⟨#[101, 108, 115, 101]⟩ : ByteArray), (⟨#[119, 104, 105, 108, 101]⟩ : ByteArray), (⟨#[114, 101, 116, 117, 114, 110]⟩ : ByteArray), (⟨#[112, 114, 105, 110, 116]⟩ : ByteArray), (⟨#[102, 117, 110, 99, 116, 105, 111, 110]⟩ : ByteArray), (⟨#[116, 114, 117, 101]⟩ : ByteArray), (⟨#[102, 97, 108, 115, 101]⟩ : ByteArray), (⟨#[110, 117, 108, 108]⟩ : ByteArray), (⟨#[117, 110, 100, 101, 102, 105, 110, 101, 100]⟩ : ByteArray), (⟨#[112, 114, 111, 116, 111]⟩ : ByteArray)]) 0 a0_59 a0_60 a0_61 a0_62 _ h1_
  rcases r_0 with r102 | _
  · try dsimp only at h_
    try simp [Ls_Word_0_ans] at h1_f
    cases h_
    simp (maxSteps := 2000000) (decide := true) [-getElem?_pos, ir60, h1_f, Fs_Word_ans]
  · try dsimp only at h_
    try simp [Ls_Word_0_ans] at h1_f
    cases h_
    simp (maxSteps := 2000000) (decide := true) [-getElem?_pos, ir60, h1_f, Fs_Word_ans]
/-- spec.l13Name -/
def Fs_l13Name (a0_49 : ByteArray) (a1_7 : Bool) : Option Bool :=
  bS (Fs_Tokens a0_49) fun (r100, r101) =>
  if 0 ≤ r101 then
    some false
  else
  if (r100.length : Int) = 2 then
    bS (getI r100 0) fun e10 =>
    if e10.kind_ = 1 then
      if e10.text_ = a0_49 then
        bS (Fs_Word e10.kind_ e10.text_ e10.n_ e10.at_) fun r103 =>
        if r103 = true then
          if a1_7 = true then
            some (decide (a0_49 = (⟨#[112, 114, 111, 116, 111]⟩ : ByteArray)))
          else
            some false
        else
          some true
      else
        some false
    else
      some false
  else
    some false
def Fs_l13Name_ans (a0_49 : ByteArray) (a1_7 : Bool) : Bool → Ans
  | q47 => .val (.sc (.bool q47)) []
theorem Fs_l13Name_ok (a0_49 : ByteArray) (a1_7 : Bool) (r_ : Bool) (h_ : Fs_l13Name a0_49 a1_7 = some r_) : ev EE (.call 48 [.sc (.string a0_49), .sc (.bool a1_7)] []) = some (Fs_l13Name_ans a0_49 a1_7 r_) := by
  rw [ev_eq]
  simp only [Fs_l13Name] at h_
  obtain ⟨⟨r100, r101⟩, h1_, h_⟩ := bS_some h_
  try dsimp only at h_
  have h1_f := Fs_Tokens_ok a0_49 _ h1_
  try simp [Fs_Tokens_ans] at h1_f
  rcases bI h_ with ⟨h2_, h_⟩ | ⟨h2_, h_⟩
  · cases h_
    simp (maxSteps := 2000000) (decide := true) [-getElem?_pos, ir48, h1_f, h2_, Fs_l13Name_ans]
  · rcases bI h_ with ⟨h3_, h_⟩ | ⟨h3_, h_⟩
    · have h3_s := h3_; try simp at h3_s
      obtain ⟨e10, h5_, h_⟩ := bS_some h_
      obtain ⟨h5_a, h5_b, h5_c, h5_d⟩ := r_Token_getI  h5_
      try simp [-getElem?_pos] at h5_d
      try simp at h5_b
      try simp at h5_c
      try simp at h5_b; try simp at h5_c
      rcases bI h_ with ⟨h9_, h_⟩ | ⟨h9_, h_⟩
      · rcases bI h_ with ⟨h10_, h_⟩ | ⟨h10_, h_⟩
        · obtain ⟨r103, h11_, h_⟩ := bS_some h_
          have h11_f := Fs_Word_ok e10.kind_ e10.text_ e10.n_ e10.at_ _ h11_
          try simp [Fs_Word_ans] at h11_f
          rcases bI h_ with ⟨h12_, h_⟩ | ⟨h12_, h_⟩
          · rcases bI h_ with ⟨h13_, h_⟩ | ⟨h13_, h_⟩
            · cases h_
              simp (maxSteps := 2000000) (decide := true) [-getElem?_pos, ir48, h1_f, h2_, eq_true h3_, eq_true h3_s, h5_a, h5_b, h5_c, h5_d, eq_true h9_, eq_true h10_, h11_f, h12_, h13_, Fs_l13Name_ans]
            · cases h_
              simp (maxSteps := 2000000) (decide := true) [-getElem?_pos, ir48, h1_f, h2_, eq_true h3_, eq_true h3_s, h5_a, h5_b, h5_c, h5_d, eq_true h9_, eq_true h10_, h11_f, h12_, h13_, Fs_l13Name_ans]
          · cases h_
            simp (maxSteps := 2000000) (decide := true) [-getElem?_pos, ir48, h1_f, h2_, eq_true h3_, eq_true h3_s, h5_a, h5_b, h5_c, h5_d, eq_true h9_, eq_true h10_, h11_f, h12_, Fs_l13Name_ans]
        · cases h_
          simp (maxSteps := 2000000) (decide := true) [-getElem?_pos, ir48, h1_f, h2_, eq_true h3_, eq_true h3_s, h5_a, h5_b, h5_c, h5_d, eq_true h9_, h10_, Fs_l13Name_ans]
      · cases h_
        simp (maxSteps := 2000000) (decide := true) [-getElem?_pos, ir48, h1_f, h2_, eq_true h3_, eq_true h3_s, h5_a, h5_b, h5_c, h5_d, h9_, Fs_l13Name_ans]
    · have h3_s := h3_; try simp at h3_s
      cases h_
      simp (maxSteps := 2000000) (decide := true) [-getElem?_pos, ir48, h1_f, h2_, h3_, h3_s, Fs_l13Name_ans]
end Go.Pv

namespace Go.Pv
set_option maxRecDepth 100000
set_option maxHeartbeats 40000000
set_option linter.unusedSimpArgs false
set_option linter.unusedVariables false
def Ls_l13Text_0 : Nat → ByteArray → Int → Option (Bool ⊕ Unit)
  | 0, _, _ => none
  | n_ + 1, t0_9, t3_12 =>
  if t3_12 < (t0_9.size : Int) then
    bS (getB t0_9 t3_12) fun b11 =>
    if (b11.toNat : Int) < 32 then
      some (.inl false)
    else
    if 126 < (b11.toNat : Int) then
      some (.inl false)
    else
    if (b11.toNat : Int) = 34 then
      some (.inl false)
    else
      Ls_l13Text_0 n_ t0_9 (IntKind.i64.wrap (t3_12 + 1))
  else
    some (.inr ())
def Ls_l13Text_0_ans (t0_9 : ByteArray) (t3_12 : Int) : Bool ⊕ Unit → Ans
  | .inl t2_5 => .out .ret { np := 0, tm := [(0, .sc (.string t0_9)), (2, .sc (.bool t2_5))], ar := [], bx := [] }
  | .inr _ => .out (.exit 0) { np := 0, tm := [(0, .sc (.string t0_9))], ar := [], bx := [] }
theorem Ls_l13Text_0_ok : ∀ (n_ : Nat) (t0_9 : ByteArray) (t3_12 : Int) (r_ : Bool ⊕ Unit), Ls_l13Text_0 n_ t0_9 t3_12 = some r_ → ev EE (.loop lp49_0 [0, 3] [0, 2] { np := 0, tm := [(0, .sc (.string t0_9)), (3, .sc (.int .i64 t3_12))], ar := [], bx := [] }) = some (Ls_l13Text_0_ans t0_9 t3_12 r_) := by
  intro n_
  induction n_ with
  | zero => intro t0_9 t3_12 r_ h_; simp only [Ls_l13Text_0] at h_; cases h_
  | succ n_ ih_ =>
    intro t0_9 t3_12 r_ h_
    rw [ev_loop EE lp49_0.eq_1]
    simp only [Ls_l13Text_0] at h_
    rcases bI h_ with ⟨h1_, h_⟩ | ⟨h1_, h_⟩
    · have h1_s := h1_; try simp at h1_s
      obtain ⟨b11, h3_, h_⟩ := bS_some h_
      obtain ⟨h3_a, h3_b, h3_c, h3_d⟩ := getB_some h3_
      try simp [-getElem?_pos] at h3_d
      rcases bI h_ with ⟨h7_, h_⟩ | ⟨h7_, h_⟩
      · have h7_s := h7_; try simp at h7_s
        cases h_
        simp (maxSteps := 2000000) (decide := true) [-getElem?_pos, -Int.toNat_le, -Int.le_toNat, h1_, h1_s, h3_a, h3_b, h3_c, h3_d, h7_, h7_s, Ls_l13Text_0_ans]
      · have h7_s := h7_; try simp at h7_s
        rcases bI h_ with ⟨h9_, h_⟩ | ⟨h9_, h_⟩
        · have h9_s := h9_; try simp at h9_s
          cases h_
          simp (maxSteps := 2000000) (decide := true) [-getElem?_pos, -Int.toNat_le, -Int.le_toNat, h1_, h1_s, h3_a, h3_b, h3_c, h3_d, h7_, h7_s, h9_, h9_s, Ls_l13Text_0_ans]
        · have h9_s := h9_; try simp at h9_s
          rcases bI h_ with ⟨h11_, h_⟩ | ⟨h11_, h_⟩
          · have h11_s := h11_; try simp at h11_s
            cases h_
            simp (maxSteps := 2000000) (decide := true) [-getElem?_pos, -Int.toNat_le, -Int.le_toNat, h1_, h1_s, h3_a, h3_b, h3_c, h3_d, h7_, h7_s, h9_, h9_s, eq_true h11_, eq_true h11_s, Ls_l13Text_0_ans]
          · have h11_s := h11_; try simp at h11_s
            have q_ := ih_ t0_9 (IntKind.i64.wrap (t3_12 + 1)) _ h_
            rcases r_ with t2_5 | _
            all_goals (try simp [Ls_l13Text_0_ans] at q_)
            all_goals simp (maxSteps := 2000000) (decide := true) [-getElem?_pos, h1_, h1_s, h3_a, h3_b, h3_c, h3_d, h7_, h7_s, h9_, h9_s, h11_, h11_s, q_, Ls_l13Text_0_ans]
    · have h1_s := h1_; try simp at h1_s
      cases h_
      simp (maxSteps := 2000000) (decide := true) [-getElem?_pos, h1_, h1_s, Ls_l13Text_0_ans]
/-- spec.l13Text -/
def Fs_l13Text (a0_63 : ByteArray) : Option Bool :=
  bS (Ls_l13Text_0 FU a0_63 0) fun r_ => match r_ with
  | .inl r110 =>
    some r110
  | .inr () =>
    some (decide ((a0_63.size : Int) ≤ 30))
def Fs_l13Text_ans (a0_63 : ByteArray) : Bool → Ans
  | q48 => .val (.sc (.bool q48)) []
theorem Fs_l13Text_ok (a0_63 : ByteArray) (r_ : Bool) (h_ : Fs_l13Text a0_63 = some r_) : ev EE (.call 49 [.sc (.string a0_63)] []) = some (Fs_l13Text_ans a0_63 r_) := by
  rw [ev_eq]
  simp only [Fs_l13Text] at h_
  obtain ⟨r_0, h1_, h_⟩ := bS_some h_
  have h1_f := Ls_l13Text_0_ok FU a0_63 0 _ h1_
  rcases r_0 with r110 | _
  · try dsimp only at h_
    try simp [Ls_l13Text_0_ans] at h1_f
    cases h_
    simp (maxSteps := 2000000) (decide := true) [-getElem?_pos, ir49, h1_f, Fs_l13Text_ans]
  · try dsimp only at h_
    try simp [Ls_l13Text_0_ans] at h1_f
    cases h_
    simp (maxSteps := 2000000) (decide := true) [-getElem?_pos, ir49, h1_f, Fs_l13Text_ans]
def Ls_l13Names_0 : Nat → ByteArray → Int → Int → Option (Unit ⊕ Bool)
  | 0, _, _, _ => none
  | n_ + 1, t0_10, t3_13, t4_15 =>
  if t4_15 ≤ (t0_10.size : Int) then
    if t0_10 = (⟨#[]⟩ : ByteArray) then
      some (.inl ())
    else
    if t4_15 = (t0_10.size : Int) then
      if 0 ≤ t3_13 then
      if 0 ≤ t4_15 then
      if t3_13.toNat ≤ t4_15.toNat ∧ t4_15.toNat ≤ t0_10.size then
      bS (Fs_l13Name (ByteArray.extract t0_10 t3_13.toNat t4_15.toNat) false) fun r112 =>
      if r112 = true then
        Ls_l13Names_0 n_ t0_10 (IntKind.i64.wrap (t4_15 + 1)) (IntKind.i64.wrap (t4_15 + 1))
      else
        some (.inr false)
      else none
      else none
      else none
    else
    bS (getB t0_10 t4_15) fun b12 =>
    if (b12.toNat : Int) = 32 then
      if 0 ≤ t3_13 then
      if 0 ≤ t4_15 then
      if t3_13.toNat ≤ t4_15.toNat ∧ t4_15.toNat ≤ t0_10.size then
      bS (Fs_l13Name (ByteArray.extract t0_10 t3_13.toNat t4_15.toNat) false) fun r113 =>
      if r113 = true then
        Ls_l13Names_0 n_ t0_10 (IntKind.i64.wrap (t4_15 + 1)) (IntKind.i64.wrap (t4_15 + 1))
      else
        some (.inr false)
      else none
      else none
      else none
    else
      Ls_l13Names_0 n_ t0_10 t3_13 (IntKind.i64.wrap (t4_15 + 1))
  else
    some (.inl ())
def Ls_l13Names_0_ans (t0_10 : ByteArray) (t3_13 : Int) (t4_15 : Int) : Unit ⊕ Bool → Ans
  | .inl _ => .out (.exit 0) { np := 0, tm := [], ar := [], bx := [] }
  | .inr t2_6 => .out .ret { np := 0, tm := [(2, .sc (.bool t2_6))], ar := [], bx := [] }
theorem Ls_l13Names_0_ok : ∀ (n_ : Nat) (t0_10 : ByteArray) (t3_13 : Int) (t4_15 : Int) (r_ : Unit ⊕ Bool), Ls_l13Names_0 n_ t0_10 t3_13 t4_15 = some r_ → ev EE (.loop lp50_0 [0, 3, 4] [2] { np := 0, tm := [(0, .sc (.string t0_10)), (3, .sc (.int .i64 t3_13)), (4, .sc (.int .i64 t4_15))], ar := [], bx := [] }) = some (Ls_l13Names_0_ans t0_10 t3_13 t4_15 r_) := by
  intro n_
  induction n_ with
  | zero => intro t0_10 t3_13 t4_15 r_ h_; simp only [Ls_l13Names_0] at h_; cases h_
  | succ n_ ih_ =>
    intro t0_10 t3_13 t4_15 r_ h_
    rw [ev_loop EE lp50_0.eq_1]
    simp only [Ls_l13Names_0] at h_
    rcases bI h_ with ⟨h1_, h_⟩ | ⟨h1_, h_⟩
    · have h1_s := h1_; try simp at h1_s
      rcases bI h_ with ⟨h3_, h_⟩ | ⟨h3_, h_⟩
      · cases h_
        simp (maxSteps := 2000000) (decide := true) [-getElem?_pos, h1_, h1_s, eq_true h3_, Ls_l13Names_0_ans]
      · rcases bI h_ with ⟨h4_, h_⟩ | ⟨h4_, h_⟩
        · have h4_s := h4_; try simp at h4_s
          obtain ⟨h6_, h_⟩ := bP h_
          obtain ⟨h7_, h_⟩ := bP h_
          obtain ⟨h8_, h_⟩ := bP h_
          obtain ⟨r112, h9_, h_⟩ := bS_some h_
          have h9_f := Fs_l13Name_ok (ByteArray.extract t0_10 t3_13.toNat t4_15.toNat) false _ h9_
          try simp [Fs_l13Name_ans] at h9_f
          rcases bI h_ with ⟨h10_, h_⟩ | ⟨h10_, h_⟩
          · have q_ := ih_ t0_10 (IntKind.i64.wrap (t4_15 + 1)) (IntKind.i64.wrap (t4_15 + 1)) _ h_
            rcases r_ with _ | t2_6
            all_goals (try simp [Ls_l13Names_0_ans] at q_)
            all_goals simp (maxSteps := 2000000) (decide := true) [-getElem?_pos, -Int.toNat_le, -Int.le_toNat, h1_, h1_s, h3_, eq_true h4_, eq_true h4_s, h6_, h7_, h8_, h9_f, h10_, q_, Ls_l13Names_0_ans]
          · cases h_
            simp (maxSteps := 2000000) (decide := true) [-getElem?_pos, -Int.toNat_le, -Int.le_toNat, h1_, h1_s, h3_, eq_true h4_, eq_true h4_s, h6_, h7_, h8_, h9_f, h10_, Ls_l13Names_0_ans]
        · have h4_s := h4_; try simp at h4_s
          obtain ⟨b12, h6_, h_⟩ := bS_some h_
          obtain ⟨h6_a, h6_b, h6_c, h6_d⟩ := getB_some h6_
          try simp [-getElem?_pos] at h6_d
          rcases bI h_ with ⟨h10_, h_⟩ | ⟨h10_, h_⟩
          · have h10_s := h10_; try simp at h10_s
            obtain ⟨h12_, h_⟩ := bP h_
            obtain ⟨h13_, h_⟩ := bP h_
            obtain ⟨h14_, h_⟩ := bP h_
            obtain ⟨r113, h15_, h_⟩ := bS_some h_
            have h15_f := Fs_l13Name_ok (ByteArray.extract t0_10 t3_13.toNat t4_15.toNat) false _ h15_
            try simp [Fs_l13Name_ans] at h15_f
            rcases bI h_ with ⟨h16_, h_⟩ | ⟨h16_, h_⟩
            · have q_ := ih_ t0_10 (IntKind.i64.wrap (t4_15 + 1)) (IntKind.i64.wrap (t4_15 + 1)) _ h_
              rcases r_ with _ | t2_6
              all_goals (try simp [Ls_l13Names_0_ans] at q_)
              all_goals simp (maxSteps := 2000000) (decide := true) [-getElem?_pos, -Int.toNat_le, -Int.le_toNat, h1_, h1_s, h3_, h4_, h4_s, h6_a, h6_b, h6_c, h6_d, eq_true h10_, eq_true h10_s, h12_, h13_, h14_, h15_f, h16_, q_, Ls_l13Names_0_ans]
            · cases h_
              simp (maxSteps := 2000000) (decide := true) [-getElem?_pos, -Int.toNat_le, -Int.le_toNat, h1_, h1_s, h3_, h4_, h4_s, h6_a, h6_b, h6_c, h6_d, eq_true h10_, eq_true h10_s, h12_, h13_, h14_, h15_f, h16_, Ls_l13Names_0_ans]
          · have h10_s := h10_; try simp at h10_s
            have q_ := ih_ t0_10 t3_13 (IntKind.i64.wrap (t4_15 + 1)) _ h_
            rcases r_ with _ | t2_6
            all_goals (try simp [Ls_l13Names_0_ans] at q_)
            all_goals simp (maxSteps := 2000000) (decide := true) [-getElem?_pos, h1_, h1_s, h3_, h4_, h4_s, h6_a, h6_b, h6_c, h6_d, h10_, h10_s, q_, Ls_l13Names_0_ans]
    · have h1_s := h1_; try simp at h1_s
      cases h_
      simp (maxSteps := 2000000) (decide := true) [-getElem?_pos, h1_, h1_s, Ls_l13Names_0_ans]
/-- spec.l13Names -/
def Fs_l13Names (a0_64 : ByteArray) : Option Bool :=
  bS (Ls_l13Names_0 FU a0_64 0 0) fun r_ => match r_ with
  | .inl () =>
    some true
  | .inr r114 =>
    some r114
def Fs_l13Names_ans (a0_64 : ByteArray) : Bool → Ans
  | q49 => .val (.sc (.bool q49)) []
theorem Fs_l13Names_ok (a0_64 : ByteArray) (r_ : Bool) (h_ : Fs_l13Names a0_64 = some r_) : ev EE (.call 50 [.sc (.string a0_64)] []) = some (Fs_l13Names_ans a0_64 r_) := by
  rw [ev_eq]
  simp only [Fs_l13Names] at h_
  obtain ⟨r_0, h1_, h_⟩ := bS_some h_
  have h1_f := Ls_l13Names_0_ok FU a0_64 0 0 _ h1_
  rcases r_0 with _ | r114
  · try dsimp only at h_
    try simp [Ls_l13Names_0_ans] at h1_f
    cases h_
    simp (maxSteps := 2000000) (decide := true) [-getElem?_pos, ir50, h1_f, Fs_l13Names_ans]
  · try dsimp only at h_
    try simp [Ls_l13Names_0_ans] at h1_f
    cases h_
    simp (maxSteps := 2000000) (decide := true) [-getElem?_pos, ir50, h1_f, Fs_l13Names_ans]
/-- spec.l13Ok -/
def Ss_l13Ok (Rs_l13Ok : Int → ByteArray → Int → (List T_Node) → Option Bool) (a0_32 : Int) (a0_33 : ByteArray) (a0_34 : Int) (a0_35 : List T_Node) : Option Bool :=
  if a0_34 = 0 then
    bS (Fs_l13Kids Rs_l13Ok a0_32 a0_33 a0_34 a0_35) fun r56 =>
    if r56 = true then
      if a0_32 = 2 then
        bS (Fs_l13Name a0_33 false) fun r104 =>
        some r104
      else
      if a0_32 = 3 then
        bS (Fs_l13Name a0_33 false) fun r105 =>
        some r105
      else
      if a0_32 = 16 then
        bS (Fs_l13Name a0_33 false) fun r106 =>
        some r106
      else
      if a0_32 = 26 then
        bS (Fs_l13Name a0_33 false) fun r107 =>
        some r107
      else
      if a0_32 = 17 then
        bS (Fs_l13Name a0_33 true) fun r108 =>
        some r108
      else
      if a0_32 = 4 then
        bS (Fs_l13Name a0_33 true) fun r109 =>
        some r109
      else
      if a0_32 = 11 then
        bS (Fs_l13Text a0_33) fun r111 =>
        some r111
      else
      if a0_32 = 27 then
        bS (Fs_l13Names a0_33) fun r115 =>
        some r115
      else
      if a0_32 = 10 then
        if a0_33 = (⟨#[]⟩ : ByteArray) then
          bS (Fs_l1In a0_34 (-2147483647) 2147483647) fun r116 =>
          some r116
        else
          some false
      else
      if a0_33 = (⟨#[]⟩ : ByteArray) then
        bS (Fs_l1In a0_32 1 27) fun r117 =>
        some r117
      else
        some false
    else
      some false
  else
  if a0_32 = 10 then
    bS (Fs_l13Kids Rs_l13Ok a0_32 a0_33 a0_34 a0_35) fun r118 =>
    if r118 = true then
      if a0_32 = 2 then
        bS (Fs_l13Name a0_33 false) fun r119 =>
        some r119
      else
      if a0_32 = 3 then
        bS (Fs_l13Name a0_33 false) fun r120 =>
        some r120
      else
      if a0_32 = 16 then
        bS (Fs_l13Name a0_33 false) fun r121 =>
        some r121
      else
      if a0_32 = 26 then
        bS (Fs_l13Name a0_33 false) fun r122 =>
        some r122
      else
      if a0_32 = 17 then
        bS (Fs_l13Name a0_33 true) fun r123 =>
        some r123
      else
      if a0_32 = 4 then
        bS (Fs_l13Name a0_33 true) fun r124 =>
        some r124
      else
      if a0_32 = 11 then
        bS (Fs_l13Text a0_33) fun r125 =>
        some r125
      else
      if a0_32 = 27 then
        bS (Fs_l13Names a0_33) fun r126 =>
        some r126
      else
      if a0_33 = (⟨#[]⟩ : ByteArray) then
        bS (Fs_l1In a0_34 (-2147483647) 2147483647) fun r127 =>
        some r127
      else
        some false
    else
      some false
  else
    some false
theorem Ss_l13Ok_ok (Rs_l13Ok : Int → ByteArray → Int → (List T_Node) → Option Bool) (hRs_l13Ok : Ps_l13Ok Rs_l13Ok) (a0_32 : Int) (a0_33 : ByteArray) (a0_34 : Int) (a0_35 : List T_Node) (r_ : Bool) (h_ : Ss_l13Ok Rs_l13Ok a0_32 a0_33 a0_34 a0_35 = some r_) : ev EE (.call 34 [.ag [.sc (.int .i64 a0_32), .sc (.string a0_33), .sc (.int .i64 a0_34), .ls false (r_Node false a0_35)]] []) = some (Fs_l13Ok_ans a0_32 a0_33 a0_34 a0_35 r_) := by
  rw [ev_eq]
  simp only [Ss_l13Ok] at h_
  rcases bI h_ with ⟨h1_, h_⟩ | ⟨h1_, h_⟩
  · obtain ⟨r56, h2_, h_⟩ := bS_some h_
    have h2_f := Fs_l13Kids_ok Rs_l13Ok hRs_l13Ok a0_32 a0_33 a0_34 a0_35 _ h2_
    try simp [Fs_l13Kids_ans] at h2_f
    rcases bI h_ with ⟨h3_, h_⟩ | ⟨h3_, h_⟩
    · rcases bI h_ with ⟨h4_, h_⟩ | ⟨h4_, h_⟩
      · obtain ⟨r104, h5_, h_⟩ := bS_some h_
        have h5_f := Fs_l13Name_ok a0_33 false _ h5_
        try simp [Fs_l13Name_ans] at h5_f
        cases h_
        simp (maxSteps := 2000000) (decide := true) [-getElem?_pos, ir34, eq_true h1_, h2_f, h3_, eq_true h4_, h5_f, Fs_l13Ok_ans]
      · rcases bI h_ with ⟨h5_, h_⟩ | ⟨h5_, h_⟩
        · obtain ⟨r105, h6_, h_⟩ := bS_some h_
          have h6_f := Fs_l13Name_ok a0_33 false _ h6_
          try simp [Fs_l13Name_ans] at h6_f
          cases h_
          simp (maxSteps := 2000000) (decide := true) [-getElem?_pos, ir34, eq_true h1_, h2_f, h3_, h4_, eq_true h5_, h6_f, Fs_l13Ok_ans]
        · rcases bI h_ with ⟨h6_, h_⟩ | ⟨h6_, h_⟩
          · obtain ⟨r106, h7_, h_⟩ := bS_some h_
            have h7_f := Fs_l13Name_ok a0_33 false _ h7_
            try simp [Fs_l13Name_ans] at h7_f
            cases h_
            simp (maxSteps := 2000000) (decide := true) [-getElem?_pos, ir34, eq_true h1_, h2_f, h3_, h4_, h5_, eq_true h6_, h7_f, Fs_l13Ok_ans]
          · rcases bI h_ with ⟨h7_, h_⟩ | ⟨h7_, h_⟩
            · obtain ⟨r107, h8_, h_⟩ := bS_some h_
              have h8_f := Fs_l13Name_ok a0_33 false _ h8_
              try simp [Fs_l13Name_ans] at h8_f
              cases h_
              simp (maxSteps := 2000000) (decide := true) [-getElem?_pos, ir34, eq_true h1_, h2_f, h3_, h4_, h5_, h6_, eq_true h7_, h8_f, Fs_l13Ok_ans]
            · rcases bI h_ with ⟨h8_, h_⟩ | ⟨h8_, h_⟩
              · obtain ⟨r108, h9_, h_⟩ := bS_some h_
                have h9_f := Fs_l13Name_ok a0_33 true _ h9_
                try simp [Fs_l13Name_ans] at h9_f
                cases h_
                simp (maxSteps := 2000000) (decide := true) [-getElem?_pos, ir34, eq_true h1_, h2_f, h3_, h4_, h5_, h6_, h7_, eq_true h8_, h9_f, Fs_l13Ok_ans]
              · rcases bI h_ with ⟨h9_, h_⟩ | ⟨h9_, h_⟩
                · obtain ⟨r109, h10_, h_⟩ := bS_some h_
                  have h10_f := Fs_l13Name_ok a0_33 true _ h10_
                  try simp [Fs_l13Name_ans] at h10_f
                  cases h_
                  simp (maxSteps := 2000000) (decide := true) [-getElem?_pos, ir34, eq_true h1_, h2_f, h3_, h4_, h5_, h6_, h7_, h8_, eq_true h9_, h10_f, Fs_l13Ok_ans]
                · rcases bI h_ with ⟨h10_, h_⟩ | ⟨h10_, h_⟩
                  · obtain ⟨r111, h11_, h_⟩ := bS_some h_
                    have h11_f := Fs_l13Text_ok a0_33 _ h11_
                    try simp [Fs_l13Text_ans] at h11_f
                    cases h_
                    simp (maxSteps := 2000000) (decide := true) [-getElem?_pos, ir34, eq_true h1_, h2_f, h3_, h4_, h5_, h6_, h7_, h8_, h9_, eq_true h10_, h11_f, Fs_l13Ok_ans]
                  · rcases bI h_ with ⟨h11_, h_⟩ | ⟨h11_, h_⟩
                    · obtain ⟨r115, h12_, h_⟩ := bS_some h_
                      have h12_f := Fs_l13Names_ok a0_33 _ h12_
                      try simp [Fs_l13Names_ans] at h12_f
                      cases h_
                      simp (maxSteps := 2000000) (decide := true) [-getElem?_pos, ir34, eq_true h1_, h2_f, h3_, h4_, h5_, h6_, h7_, h8_, h9_, h10_, eq_true h11_, h12_f, Fs_l13Ok_ans]
                    · rcases bI h_ with ⟨h12_, h_⟩ | ⟨h12_, h_⟩
                      · rcases bI h_ with ⟨h13_, h_⟩ | ⟨h13_, h_⟩
                        · obtain ⟨r116, h14_, h_⟩ := bS_some h_
                          have h14_f := Fs_l1In_ok a0_34 (-2147483647) 2147483647 _ h14_
                          try simp [Fs_l1In_ans] at h14_f
                          cases h_
                          simp (maxSteps := 2000000) (decide := true) [-getElem?_pos, ir34, eq_true h1_, h2_f, h3_, h4_, h5_, h6_, h7_, h8_, h9_, h10_, h11_, eq_true h12_, eq_true h13_, h14_f, Fs_l13Ok_ans]
                        · cases h_
                          simp (maxSteps := 2000000) (decide := true) [-getElem?_pos, ir34, eq_true h1_, h2_f, h3_, h4_, h5_, h6_, h7_, h8_, h9_, h10_, h11_, eq_true h12_, h13_, Fs_l13Ok_ans]
                      · rcases bI h_ with ⟨h13_, h_⟩ | ⟨h13_, h_⟩
                        · obtain ⟨r117, h14_, h_⟩ := bS_some h_
                          have h14_f := Fs_l1In_ok a0_32 1 27 _ h14_
                          try simp [Fs_l1In_ans] at h14_f
                          cases h_
                          simp (maxSteps := 2000000) (decide := true) [-getElem?_pos, ir34, eq_true h1_, h2_f, h3_, h4_, h5_, h6_, h7_, h8_, h9_, h10_, h11_, h12_, eq_true h13_, h14_f, Fs_l13Ok_ans]
                        · cases h_
                          simp (maxSteps := 2000000) (decide := true) [-getElem?_pos, ir34, eq_true h1_, h2_f, h3_, h4_, h5_, h6_, h7_, h8_, h9_, h10_, h11_, h12_, h13_, Fs_l13Ok_ans]
    · cases h_
      simp (maxSteps := 2000000) (decide := true) [-getElem?_pos, ir34, eq_true h1_, h2_f, h3_, Fs_l13Ok_ans]
  · rcases bI h_ with ⟨h2_, h_⟩ | ⟨h2_, h_⟩
    · obtain ⟨r118, h3_, h_⟩ := bS_some h_
      have h3_f := Fs_l13Kids_ok Rs_l13Ok hRs_l13Ok a0_32 a0_33 a0_34 a0_35 _ h3_
      try simp [Fs_l13Kids_ans] at h3_f
      rcases bI h_ with ⟨h4_, h_⟩ | ⟨h4_, h_⟩
      · rcases bI h_ with ⟨h5_, h_⟩ | ⟨h5_, h_⟩
        · obtain ⟨r119, h6_, h_⟩ := bS_some h_
          have h6_f := Fs_l13Name_ok a0_33 false _ h6_
          try simp [Fs_l13Name_ans] at h6_f
          cases h_
          simp (maxSteps := 2000000) (decide := true) [-getElem?_pos, ir34, h1_, eq_true h2_, h3_f, h4_, eq_true h5_, h6_f, Fs_l13Ok_ans]
        · rcases bI h_ with ⟨h6_, h_⟩ | ⟨h6_, h_⟩
          · obtain ⟨r120, h7_, h_⟩ := bS_some h_
            have h7_f := Fs_l13Name_ok a0_33 false _ h7_
            try simp [Fs_l13Name_ans] at h7_f
            cases h_
            simp (maxSteps := 2000000) (decide := true) [-getElem?_pos, ir34, h1_, eq_true h2_, h3_f, h4_, h5_, eq_true h6_, h7_f, Fs_l13Ok_ans]
          · rcases bI h_ with ⟨h7_, h_⟩ | ⟨h7_, h_⟩
            · obtain ⟨r121, h8_, h_⟩ := bS_some h_
              have h8_f := Fs_l13Name_ok a0_33 false _ h8_
              try simp [Fs_l13Name_ans] at h8_f
              cases h_
              simp (maxSteps := 2000000) (decide := true) [-getElem?_pos, ir34, h1_, eq_true h2_, h3_f, h4_, h5_, h6_, eq_true h7_, h8_f, Fs_l13Ok_ans]
            · rcases bI h_ with ⟨h8_, h_⟩ | ⟨h8_, h_⟩
              · obtain ⟨r122, h9_, h_⟩ := bS_some h_
                have h9_f := Fs_l13Name_ok a0_33 false _ h9_
                try simp [Fs_l13Name_ans] at h9_f
                cases h_
                simp (maxSteps := 2000000) (decide := true) [-getElem?_pos, ir34, h1_, eq_true h2_, h3_f, h4_, h5_, h6_, h7_, eq_true h8_, h9_f, Fs_l13Ok_ans]
              · rcases bI h_ with ⟨h9_, h_⟩ | ⟨h9_, h_⟩
                · obtain ⟨r123, h10_, h_⟩ := bS_some h_
                  have h10_f := Fs_l13Name_ok a0_33 true _ h10_
                  try simp [Fs_l13Name_ans] at h10_f
                  cases h_
                  simp (maxSteps := 2000000) (decide := true) [-getElem?_pos, ir34, h1_, eq_true h2_, h3_f, h4_, h5_, h6_, h7_, h8_, eq_true h9_, h10_f, Fs_l13Ok_ans]
                · rcases bI h_ with ⟨h10_, h_⟩ | ⟨h10_, h_⟩
                  · obtain ⟨r124, h11_, h_⟩ := bS_some h_
                    have h11_f := Fs_l13Name_ok a0_33 true _ h11_
                    try simp [Fs_l13Name_ans] at h11_f
                    cases h_
                    simp (maxSteps := 2000000) (decide := true) [-getElem?_pos, ir34, h1_, eq_true h2_, h3_f, h4_, h5_, h6_, h7_, h8_, h9_, eq_true h10_, h11_f, Fs_l13Ok_ans]
                  · rcases bI h_ with ⟨h11_, h_⟩ | ⟨h11_, h_⟩
                    · obtain ⟨r125, h12_, h_⟩ := bS_some h_
                      have h12_f := Fs_l13Text_ok a0_33 _ h12_
                      try simp [Fs_l13Text_ans] at h12_f
                      cases h_
                      simp (maxSteps := 2000000) (decide := true) [-getElem?_pos, ir34, h1_, eq_true h2_, h3_f, h4_, h5_, h6_, h7_, h8_, h9_, h10_, eq_true h11_, h12_f, Fs_l13Ok_ans]
                    · rcases bI h_ with ⟨h12_, h_⟩ | ⟨h12_, h_⟩
                      · obtain ⟨r126, h13_, h_⟩ := bS_some h_
                        have h13_f := Fs_l13Names_ok a0_33 _ h13_
                        try simp [Fs_l13Names_ans] at h13_f
                        cases h_
                        simp (maxSteps := 2000000) (decide := true) [-getElem?_pos, ir34, h1_, eq_true h2_, h3_f, h4_, h5_, h6_, h7_, h8_, h9_, h10_, h11_, eq_true h12_, h13_f, Fs_l13Ok_ans]
                      · rcases bI h_ with ⟨h13_, h_⟩ | ⟨h13_, h_⟩
                        · obtain ⟨r127, h14_, h_⟩ := bS_some h_
                          have h14_f := Fs_l1In_ok a0_34 (-2147483647) 2147483647 _ h14_
                          try simp [Fs_l1In_ans] at h14_f
                          cases h_
                          simp (maxSteps := 2000000) (decide := true) [-getElem?_pos, ir34, h1_, eq_true h2_, h3_f, h4_, h5_, h6_, h7_, h8_, h9_, h10_, h11_, h12_, eq_true h13_, h14_f, Fs_l13Ok_ans]
                        · cases h_
                          simp (maxSteps := 2000000) (decide := true) [-getElem?_pos, ir34, h1_, eq_true h2_, h3_f, h4_, h5_, h6_, h7_, h8_, h9_, h10_, h11_, h12_, h13_, Fs_l13Ok_ans]
      · cases h_
        simp (maxSteps := 2000000) (decide := true) [-getElem?_pos, ir34, h1_, eq_true h2_, h3_f, h4_, Fs_l13Ok_ans]
    · cases h_
      simp (maxSteps := 2000000) (decide := true) [-getElem?_pos, ir34, h1_, h2_, Fs_l13Ok_ans]
def Fs_l13Okn : Nat → Int → ByteArray → Int → (List T_Node) → Option Bool
  | 0 => fun _ _ _ _ => none
  | n_ + 1 => Ss_l13Ok (Fs_l13Okn n_)
def Fs_l13Ok (a0_32 : Int) (a0_33 : ByteArray) (a0_34 : Int) (a0_35 : List T_Node) : Option Bool := Fs_l13Okn FU a0_32 a0_33 a0_34 a0_35
theorem Fs_l13Okn_ok : ∀ (n_ : Nat) (a0_32 : Int) (a0_33 : ByteArray) (a0_34 : Int) (a0_35 : List T_Node) (r_ : Bool), Fs_l13Okn n_ a0_32 a0_33 a0_34 a0_35 = some r_ → ev EE (.call 34 [.ag [.sc (.int .i64 a0_32), .sc (.string a0_33), .sc (.int .i64 a0_34), .ls false (r_Node false a0_35)]] []) = some (Fs_l13Ok_ans a0_32 a0_33 a0_34 a0_35 r_) := by
  intro n_
  induction n_ with
  | zero => intro a0_32 a0_33 a0_34 a0_35 r_ h_; cases h_
  | succ n_ ih_ => intro a0_32 a0_33 a0_34 a0_35 r_ h_; exact Ss_l13Ok_ok (Fs_l13Okn n_) ih_ a0_32 a0_33 a0_34 a0_35 r_ h_
theorem Fs_l13Ok_ok (a0_32 : Int) (a0_33 : ByteArray) (a0_34 : Int) (a0_35 : List T_Node) (r_ : Bool) (h_ : Fs_l13Ok a0_32 a0_33 a0_34 a0_35 = some r_) : ev EE (.call 34 [.ag [.sc (.int .i64 a0_32), .sc (.string a0_33), .sc (.int .i64 a0_34), .ls false (r_Node false a0_35)]] []) = some (Fs_l13Ok_ans a0_32 a0_33 a0_34 a0_35 r_) := Fs_l13Okn_ok FU a0_32 a0_33 a0_34 a0_35 r_ h_
/-- spec.NodeOk -/
def Fs_NodeOk (a0_19 : Int) (a0_20 : ByteArray) (a0_21 : Int) (a0_22 : List T_Node) : Option Bool :=
  if a0_19 = 1 then
    bS (Fs_Deep a0_19 a0_20 a0_21 a0_22) fun r20 =>
    if r20 ≤ 20 then
      bS (Fs_Size a0_19 a0_20 a0_21 a0_22) fun r23 =>
      if r23 ≤ 200 then
        bS (Fs_l13Ok a0_19 a0_20 a0_21 a0_22) fun r128 =>
        some r128
      else
        some false
    else
      some false
  else
    some false
def Fs_NodeOk_ans (a0_19 : Int) (a0_20 : ByteArray) (a0_21 : Int) (a0_22 : List T_Node) : Bool → Ans
  | q50 => .val (.sc (.bool q50)) []
theorem Fs_NodeOk_ok (a0_19 : Int) (a0_20 : ByteArray) (a0_21 : Int) (a0_22 : List T_Node) (r_ : Bool) (h_ : Fs_NodeOk a0_19 a0_20 a0_21 a0_22 = some r_) : ev EE (.call 15 [.ag [.sc (.int .i64 a0_19), .sc (.string a0_20), .sc (.int .i64 a0_21), .ls false (r_Node false a0_22)]] []) = some (Fs_NodeOk_ans a0_19 a0_20 a0_21 a0_22 r_) := by
  rw [ev_eq]
  simp only [Fs_NodeOk] at h_
  rcases bI h_ with ⟨h1_, h_⟩ | ⟨h1_, h_⟩
  · obtain ⟨r20, h2_, h_⟩ := bS_some h_
    have h2_f := Fs_Deep_ok a0_19 a0_20 a0_21 a0_22 _ h2_
    try simp [Fs_Deep_ans] at h2_f
    rcases bI h_ with ⟨h3_, h_⟩ | ⟨h3_, h_⟩
    · obtain ⟨r23, h4_, h_⟩ := bS_some h_
      have h4_f := Fs_Size_ok a0_19 a0_20 a0_21 a0_22 _ h4_
      try simp [Fs_Size_ans] at h4_f
      rcases bI h_ with ⟨h5_, h_⟩ | ⟨h5_, h_⟩
      · obtain ⟨r128, h6_, h_⟩ := bS_some h_
        have h6_f := Fs_l13Ok_ok a0_19 a0_20 a0_21 a0_22 _ h6_
        try simp [Fs_l13Ok_ans] at h6_f
        cases h_
        simp (maxSteps := 2000000) (decide := true) [-getElem?_pos, ir15, eq_true h1_, h2_f, h3_, h4_f, h5_, h6_f, Fs_NodeOk_ans]
      · cases h_
        simp (maxSteps := 2000000) (decide := true) [-getElem?_pos, ir15, eq_true h1_, h2_f, h3_, h4_f, h5_, Fs_NodeOk_ans]
    · cases h_
      simp (maxSteps := 2000000) (decide := true) [-getElem?_pos, ir15, eq_true h1_, h2_f, h3_, Fs_NodeOk_ans]
  · cases h_
    simp (maxSteps := 2000000) (decide := true) [-getElem?_pos, ir15, h1_, Fs_NodeOk_ans]
def Fs_l12Copy_ans (a0_65 : Int) (a0_66 : ByteArray) (a0_67 : Int) (a0_68 : List T_Node) : (Int × ByteArray × Int × (List T_Node)) → Ans
  | (q51, q52, q53, q54) => .val (.ag [.sc (.int .i64 q51), .sc (.string q52), .sc (.int .i64 q53), .ls true (r_Node true q54)]) []
def Ps_l12Copy (Rs_l12Copy : Int → ByteArray → Int → (List T_Node) → Option (Int × ByteArray × Int × (List T_Node))) : Prop := ∀ (a0_65 : Int) (a0_66 : ByteArray) (a0_67 : Int) (a0_68 : List T_Node) (r_ : (Int × ByteArray × Int × (List T_Node))), Rs_l12Copy a0_65 a0_66 a0_67 a0_68 = some r_ → ev EE (.call 38 [.ag [.sc (.int .i64 a0_65), .sc (.string a0_66), .sc (.int .i64 a0_67), .ls false (r_Node false a0_68)]] []) = some (Fs_l12Copy_ans a0_65 a0_66 a0_67 a0_68 r_)
def Ls_l12Copy_0 (Rs_l12Copy : Int → ByteArray → Int → (List T_Node) → Option (Int × ByteArray × Int × (List T_Node))) : Nat → Int → Int → ByteArray → Int → (List T_Node) → Int → ByteArray → Int → (List T_Node) → Int → ByteArray → Int → (List T_Node) → Option (List T_Node)
  | 0, _, _, _, _, _, _, _, _, _, _, _, _, _ => none
  | n_ + 1, t4_16, x0_41, x0_42, x0_43, x0_44, x1_1, x1_2, x1_3, x1_4, x2_1, x2_2, x2_3, x2_4 =>
  if t4_16 < (x0_44.length : Int) then
    bS (getI x0_44 t4_16) fun e12 =>
    bS (Rs_l12Copy e12.op_ e12.s_ e12.n_ e12.kids_) fun (r130, r131, r132, r133) =>
    if lim (x2_4.length + 1) 56 = true then
    Ls_l12Copy_0 Rs_l12Copy n_ (IntKind.i64.wrap (t4_16 + 1)) x0_41 x0_42 x0_43 x0_44 x1_1 x1_2 x1_3 x1_4 x2_1 x2_2 x2_3 (x2_4 ++ [(⟨r130, r131, r132, r133⟩ : T_Node)])
    else none
  else
    some x2_4
def Ls_l12Copy_0_ans (t4_16 : Int) (x0_41 : Int) (x0_42 : ByteArray) (x0_43 : Int) (x0_44 : List T_Node) (x1_1 : Int) (x1_2 : ByteArray) (x1_3 : Int) (x1_4 : List T_Node) (x2_1 : Int) (x2_2 : ByteArray) (x2_3 : Int) (x2_4 : List T_Node) : (List T_Node) → Ans
  | x1_5 => .out (.exit 0) { np := 0, tm := [(2, .bx 0 0), (3, .bx 1 0)], ar := [(0, .a false (r_Node true x1_4)), (1, .a false (r_Node true x1_5))], bx := [(0, .b [.sc (.int .i64 x1_1), .sc (.string x1_2), .sc (.int .i64 x1_3), .rf 0 0 x1_4.length]), (1, .b [.sc (.int .i64 x2_1), .sc (.string x2_2), .sc (.int .i64 x2_3), .rf 1 0 x1_5.length])] }
theorem Ls_l12Copy_0_ok (Rs_l12Copy : Int → ByteArray → Int → (List T_Node) → Option (Int × ByteArray × Int × (List T_Node))) (hRs_l12Copy : Ps_l12Copy Rs_l12Copy) : ∀ (n_ : Nat) (t4_16 : Int) (x0_41 : Int) (x0_42 : ByteArray) (x0_43 : Int) (x0_44 : List T_Node) (x1_1 : Int) (x1_2 : ByteArray) (x1_3 : Int) (x1_4 : List T_Node) (x2_1 : Int) (x2_2 : ByteArray) (x2_3 : Int) (x2_4 : List T_Node) (r_ : (List T_Node)), Ls_l12Copy_0 Rs_l12Copy n_ t4_16 x0_41 x0_42 x0_43 x0_44 x1_1 x1_2 x1_3 x1_4 x2_1 x2_2 x2_3 x2_4 = some r_ → ev EE (.loop lp38_0 [1, 2, 3, 4] [2, 3] { np := 0, tm := [(1, .bx 0 0), (2, .bx 1 0), (3, .bx 2 0), (4, .sc (.int .i64 t4_16))], ar := [(0, .a false (r_Node true x1_4)), (1, .a false (r_Node true x2_4))], bx := [(0, .b [.sc (.int .i64 x0_41), .sc (.string x0_42), .sc (.int .i64 x0_43), .ls false (r_Node false x0_44)]), (1, .b [.sc (.int .i64 x1_1), .sc (.string x1_2), .sc (.int .i64 x1_3), .rf 0 0 x1_4.length]), (2, .b [.sc (.int .i64 x2_1), .sc (.string x2_2), .sc (.int .i64 x2_3), .rf 1 0 x2_4.length])] }) = some (Ls_l12Copy_0_ans t4_16 x0_41 x0_42 x0_43 x0_44 x1_1 x1_2 x1_3 x1_4 x2_1 x2_2 x2_3 x2_4 r_) := by
  intro n_
  induction n_ with
  | zero => intro t4_16 x0_41 x0_42 x0_43 x0_44 x1_1 x1_2 x1_3 x1_4 x2_1 x2_2 x2_3 x2_4 r_ h_; simp only [Ls_l12Copy_0] at h_; cases h_
  | succ n_ ih_ =>
    intro t4_16 x0_41 x0_42 x0_43 x0_44 x1_1 x1_2 x1_3 x1_4 x2_1 x2_2 x2_3 x2_4 r_ h_
    rw [ev_loop EE lp38_0.eq_1]
    simp only [Ls_l12Copy_0] at h_
    rcases bI h_ with ⟨h1_, h_⟩ | ⟨h1_, h_⟩
    · have h1_s := h1_; try simp at h1_s
      obtain ⟨e12, h3_, h_⟩ := bS_some h_
      obtain ⟨h3_a, h3_b, h3_c, h3_d⟩ := r_Node_getI (o := false)  h3_
      try simp [-getElem?_pos] at h3_d
      obtain ⟨⟨r130, r131, r132, r133⟩, h7_, h_⟩ := bS_some h_
      try dsimp only at h_
      have h7_f := hRs_l12Copy e12.op_ e12.s_ e12.n_ e12.kids_ _ h7_
      try simp [Fs_l12Copy_ans] at h7_f
      obtain ⟨h8_, h_⟩ := bP h_
      have q_ := ih_ (IntKind.i64.wrap (t4_16 + 1)) x0_41 x0_42 x0_43 x0_44 x1_1 x1_2 x1_3 x1_4 x2_1 x2_2 x2_3 (x2_4 ++ [(⟨r130, r131, r132, r133⟩ : T_Node)]) _ h_
      rcases r_ with x1_5
      all_goals (try simp [Ls_l12Copy_0_ans] at q_)
      all_goals simp (maxSteps := 2000000) (decide := true) [-getElem?_pos, h1_, h1_s, h3_a, h3_b, h3_c, h3_d, h7_f, h8_, q_, Ls_l12Copy_0_ans]
    · have h1_s := h1_; try simp at h1_s
      cases h_
      simp (maxSteps := 2000000) (decide := true) [-getElem?_pos, h1_, h1_s, Ls_l12Copy_0_ans]
/-- spec.l12Copy -/
def Ss_l12Copy (Rs_l12Copy : Int → ByteArray → Int → (List T_Node) → Option (Int × ByteArray × Int × (List T_Node))) (a0_65 : Int) (a0_66 : ByteArray) (a0_67 : Int) (a0_68 : List T_Node) : Option (Int × ByteArray × Int × (List T_Node)) :=
  bS (Ls_l12Copy_0 Rs_l12Copy FU 0 a0_65 a0_66 a0_67 a0_68 0 (⟨#[]⟩ : ByteArray) 0 [] a0_65 a0_66 a0_67 []) fun r134 =>
  some (a0_65, a0_66, a0_67, r134)
theorem Ss_l12Copy_ok (Rs_l12Copy : Int → ByteArray → Int → (List T_Node) → Option (Int × ByteArray × Int × (List T_Node))) (hRs_l12Copy : Ps_l12Copy Rs_l12Copy) (a0_65 : Int) (a0_66 : ByteArray) (a0_67 : Int) (a0_68 : List T_Node) (r_ : (Int × ByteArray × Int × (List T_Node))) (h_ : Ss_l12Copy Rs_l12Copy a0_65 a0_66 a0_67 a0_68 = some r_) : ev EE (.call 38 [.ag [.sc (.int .i64 a0_65), .sc (.string a0_66), .sc (.int .i64 a0_67), .ls false (r_Node false a0_68)]] []) = some (Fs_l12Copy_ans a0_65 a0_66 a0_67 a0_68 r_) := by
  rw [ev_eq]
  simp only [Ss_l12Copy] at h_
  obtain ⟨r134, h1_, h_⟩ := bS_some h_
  have h1_f := Ls_l12Copy_0_ok Rs_l12Copy hRs_l12Copy FU 0 a0_65 a0_66 a0_67 a0_68 0 (⟨#[]⟩ : ByteArray) 0 [] a0_65 a0_66 a0_67 [] _ h1_
  try simp [Ls_l12Copy_0_ans] at h1_f
  cases h_
  simp (maxSteps := 2000000) (decide := true) [-getElem?_pos, ir38, h1_f, Fs_l12Copy_ans]
def Fs_l12Copyn : Nat → Int → ByteArray → Int → (List T_Node) → Option (Int × ByteArray × Int × (List T_Node))
  | 0 => fun _ _ _ _ => none
  | n_ + 1 => Ss_l12Copy (Fs_l12Copyn n_)
def Fs_l12Copy (a0_65 : Int) (a0_66 : ByteArray) (a0_67 : Int) (a0_68 : List T_Node) : Option (Int × ByteArray × Int × (List T_Node)) := Fs_l12Copyn FU a0_65 a0_66 a0_67 a0_68
theorem Fs_l12Copyn_ok : ∀ (n_ : Nat) (a0_65 : Int) (a0_66 : ByteArray) (a0_67 : Int) (a0_68 : List T_Node) (r_ : (Int × ByteArray × Int × (List T_Node))), Fs_l12Copyn n_ a0_65 a0_66 a0_67 a0_68 = some r_ → ev EE (.call 38 [.ag [.sc (.int .i64 a0_65), .sc (.string a0_66), .sc (.int .i64 a0_67), .ls false (r_Node false a0_68)]] []) = some (Fs_l12Copy_ans a0_65 a0_66 a0_67 a0_68 r_) := by
  intro n_
  induction n_ with
  | zero => intro a0_65 a0_66 a0_67 a0_68 r_ h_; cases h_
  | succ n_ ih_ => intro a0_65 a0_66 a0_67 a0_68 r_ h_; exact Ss_l12Copy_ok (Fs_l12Copyn n_) ih_ a0_65 a0_66 a0_67 a0_68 r_ h_
theorem Fs_l12Copy_ok (a0_65 : Int) (a0_66 : ByteArray) (a0_67 : Int) (a0_68 : List T_Node) (r_ : (Int × ByteArray × Int × (List T_Node))) (h_ : Fs_l12Copy a0_65 a0_66 a0_67 a0_68 = some r_) : ev EE (.call 38 [.ag [.sc (.int .i64 a0_65), .sc (.string a0_66), .sc (.int .i64 a0_67), .ls false (r_Node false a0_68)]] []) = some (Fs_l12Copy_ans a0_65 a0_66 a0_67 a0_68 r_) := Fs_l12Copyn_ok FU a0_65 a0_66 a0_67 a0_68 r_ h_
def Fs_l14Funs_ans (a0_69 : Int) (a0_70 : ByteArray) (a0_71 : Int) (a0_72 : List T_Node) : (List T_Node) → Ans
  | q55 => .val (.ls true (r_Node true q55)) []
def Ps_l14Funs (Rs_l14Funs : Int → ByteArray → Int → (List T_Node) → Option (List T_Node)) : Prop := ∀ (a0_69 : Int) (a0_70 : ByteArray) (a0_71 : Int) (a0_72 : List T_Node) (r_ : (List T_Node)), Rs_l14Funs a0_69 a0_70 a0_71 a0_72 = some r_ → ev EE (.call 39 [.ag [.sc (.int .i64 a0_69), .sc (.string a0_70), .sc (.int .i64 a0_71), .ls false (r_Node false a0_72)]] []) = some (Fs_l14Funs_ans a0_69 a0_70 a0_71 a0_72 r_)
def Ls_l14Funs_0 (Rs_l14Funs : Int → ByteArray → Int → (List T_Node) → Option (List T_Node)) : Nat → (List T_Node) → Int → Int → ByteArray → Int → (List T_Node) → Option (List T_Node)
  | 0, _, _, _, _, _, _ => none
  | n_ + 1, t3_14, t4_17, x0_45, x0_46, x0_47, x0_48 =>
  if t4_17 < (x0_48.length : Int) then
    bS (getI x0_48 t4_17) fun e13 =>
    bS (Rs_l14Funs e13.op_ e13.s_ e13.n_ e13.kids_) fun r143 =>
    if lim (t3_14.length + r143.length) 56 = true then
    Ls_l14Funs_0 Rs_l14Funs n_ (t3_14 ++ r143) (IntKind.i64.wrap (t4_17 + 1)) x0_45 x0_46 x0_47 x0_48
    else none
  else
    some t3_14
def Ls_l14Funs_0_ans (t3_14 : List T_Node) (t4_17 : Int) (x0_45 : Int) (x0_46 : ByteArray) (x0_47 : Int) (x0_48 : List T_Node) : (List T_Node) → Ans
  | t3_15 => .out (.exit 0) { np := 0, tm := [(3, .rf 0 0 t3_15.length)], ar := [(0, .a false (r_Node true t3_15))], bx := [] }
theorem Ls_l14Funs_0_ok (Rs_l14Funs : Int → ByteArray → Int → (List T_Node) → Option (List T_Node)) (hRs_l14Funs : Ps_l14Funs Rs_l14Funs) : ∀ (n_ : Nat) (t3_14 : List T_Node) (t4_17 : Int) (x0_45 : Int) (x0_46 : ByteArray) (x0_47 : Int) (x0_48 : List T_Node) (r_ : (List T_Node)), Ls_l14Funs_0 Rs_l14Funs n_ t3_14 t4_17 x0_45 x0_46 x0_47 x0_48 = some r_ → ev EE (.loop lp39_0 [1, 3, 4] [2, 3] { np := 0, tm := [(1, .bx 0 0), (3, .rf 0 0 t3_14.length), (4, .sc (.int .i64 t4_17))], ar := [(0, .a false (r_Node true t3_14))], bx := [(0, .b [.sc (.int .i64 x0_45), .sc (.string x0_46), .sc (.int .i64 x0_47), .ls false (r_Node false x0_48)])] }) = some (Ls_l14Funs_0_ans t3_14 t4_17 x0_45 x0_46 x0_47 x0_48 r_) := by
  intro n_
  induction n_ with
  | zero => intro t3_14 t4_17 x0_45 x0_46 x0_47 x0_48 r_ h_; simp only [Ls_l14Funs_0] at h_; cases h_
  | succ n_ ih_ =>
    intro t3_14 t4_17 x0_45 x0_46 x0_47 x0_48 r_ h_
    rw [ev_loop EE lp39_0.eq_1]
    simp only [Ls_l14Funs_0] at h_
    rcases bI h_ with ⟨h1_, h_⟩ | ⟨h1_, h_⟩
    · have h1_s := h1_; try simp at h1_s
      obtain ⟨e13, h3_, h_⟩ := bS_some h_
      obtain ⟨h3_a, h3_b, h3_c, h3_d⟩ := r_Node_getI (o := false)  h3_
      try simp [-getElem?_pos] at h3_d
      obtain ⟨r143, h7_, h_⟩ := bS_some h_
      have h7_f := hRs_l14Funs e13.op_ e13.s_ e13.n_ e13.kids_ _ h7_
      try simp [Fs_l14Funs_ans] at h7_f
      obtain ⟨h8_, h_⟩ := bP h_
      have q_ := ih_ (t3_14 ++ r143) (IntKind.i64.wrap (t4_17 + 1)) x0_45 x0_46 x0_47 x0_48 _ h_
      rcases r_ with t3_15
      all_goals (try simp [Ls_l14Funs_0_ans] at q_)
      all_goals simp (maxSteps := 2000000) (decide := true) [-getElem?_pos, h1_, h1_s, h3_a, h3_b, h3_c, h3_d, h7_f, h8_, q_, Ls_l14Funs_0_ans]
    · have h1_s := h1_; try simp at h1_s
      cases h_
      simp (maxSteps := 2000000) (decide := true) [-getElem?_pos, h1_, h1_s, Ls_l14Funs_0_ans]
/-- spec.l14Funs -/
def Ss_l14Funs (Rs_l14Funs : Int → ByteArray → Int → (List T_Node) → Option (List T_Node)) (a0_69 : Int) (a0_70 : ByteArray) (a0_71 : Int) (a0_72 : List T_Node) : Option (List T_Node) :=
  if a0_69 = 27 then
    bS (Fs_l12Copy a0_69 a0_70 a0_71 a0_72) fun (r139, r140, r141, r142) =>
    bS (Ls_l14Funs_0 Rs_l14Funs FU [(⟨r139, r140, r141, r142⟩ : T_Node)] 0 a0_69 a0_70 a0_71 a0_72) fun r144 =>
    some r144
  else
  bS (Ls_l14Funs_0 Rs_l14Funs FU [] 0 a0_69 a0_70 a0_71 a0_72) fun r145 =>
  some r145
theorem Ss_l14Funs_ok (Rs_l14Funs : Int → ByteArray → Int → (List T_Node) → Option (List T_Node)) (hRs_l14Funs : Ps_l14Funs Rs_l14Funs) (a0_69 : Int) (a0_70 : ByteArray) (a0_71 : Int) (a0_72 : List T_Node) (r_ : (List T_Node)) (h_ : Ss_l14Funs Rs_l14Funs a0_69 a0_70 a0_71 a0_72 = some r_) : ev EE (.call 39 [.ag [.sc (.int .i64 a0_69), .sc (.string a0_70), .sc (.int .i64 a0_71), .ls false (r_Node false a0_72)]] []) = some (Fs_l14Funs_ans a0_69 a0_70 a0_71 a0_72 r_) := by
  rw [ev_eq]
  simp only [Ss_l14Funs] at h_
  rcases bI h_ with ⟨h1_, h_⟩ | ⟨h1_, h_⟩
  · obtain ⟨⟨r139, r140, r141, r142⟩, h2_, h_⟩ := bS_some h_
    try dsimp only at h_
    have h2_f := Fs_l12Copy_ok a0_69 a0_70 a0_71 a0_72 _ h2_
    try simp [Fs_l12Copy_ans] at h2_f
    obtain ⟨r144, h3_, h_⟩ := bS_some h_
    have h3_f := Ls_l14Funs_0_ok Rs_l14Funs hRs_l14Funs FU [(⟨r139, r140, r141, r142⟩ : T_Node)] 0 a0_69 a0_70 a0_71 a0_72 _ h3_
    try simp [Ls_l14Funs_0_ans] at h3_f
    cases h_
    simp (maxSteps := 2000000) (decide := true) [-getElem?_pos, ir39, eq_true h1_, h2_f, h3_f, Fs_l14Funs_ans]
  · obtain ⟨r145, h2_, h_⟩ := bS_some h_
    have h2_f := Ls_l14Funs_0_ok Rs_l14Funs hRs_l14Funs FU [] 0 a0_69 a0_70 a0_71 a0_72 _ h2_
    try simp [Ls_l14Funs_0_ans] at h2_f
    cases h_
    simp (maxSteps := 2000000) (decide := true) [-getElem?_pos, ir39, h1_, h2_f, Fs_l14Funs_ans]
def Fs_l14Funsn : Nat → Int → ByteArray → Int → (List T_Node) → Option (List T_Node)
  | 0 => fun _ _ _ _ => none
  | n_ + 1 => Ss_l14Funs (Fs_l14Funsn n_)
def Fs_l14Funs (a0_69 : Int) (a0_70 : ByteArray) (a0_71 : Int) (a0_72 : List T_Node) : Option (List T_Node) := Fs_l14Funsn FU a0_69 a0_70 a0_71 a0_72
theorem Fs_l14Funsn_ok : ∀ (n_ : Nat) (a0_69 : Int) (a0_70 : ByteArray) (a0_71 : Int) (a0_72 : List T_Node) (r_ : (List T_Node)), Fs_l14Funsn n_ a0_69 a0_70 a0_71 a0_72 = some r_ → ev EE (.call 39 [.ag [.sc (.int .i64 a0_69), .sc (.string a0_70), .sc (.int .i64 a0_71), .ls false (r_Node false a0_72)]] []) = some (Fs_l14Funs_ans a0_69 a0_70 a0_71 a0_72 r_) := by
  intro n_
  induction n_ with
  | zero => intro a0_69 a0_70 a0_71 a0_72 r_ h_; cases h_
  | succ n_ ih_ => intro a0_69 a0_70 a0_71 a0_72 r_ h_; exact Ss_l14Funs_ok (Fs_l14Funsn n_) ih_ a0_69 a0_70 a0_71 a0_72 r_ h_
theorem Fs_l14Funs_ok (a0_69 : Int) (a0_70 : ByteArray) (a0_71 : Int) (a0_72 : List T_Node) (r_ : (List T_Node)) (h_ : Fs_l14Funs a0_69 a0_70 a0_71 a0_72 = some r_) : ev EE (.call 39 [.ag [.sc (.int .i64 a0_69), .sc (.string a0_70), .sc (.int .i64 a0_71), .ls false (r_Node false a0_72)]] []) = some (Fs_l14Funs_ans a0_69 a0_70 a0_71 a0_72 r_) := Fs_l14Funsn_ok FU a0_69 a0_70 a0_71 a0_72 r_ h_
end Go.Pv
