/- Proof: the functions as Lean functions, and that these are what they evaluate to, first part. No condition. -/
import Derived.Test.YtaadneenebhnoaaIm
set_option autoImplicit true
set_option relaxedAutoImplicit true
set_option linter.unusedSimpArgs false
set_option linter.unusedVariables false
namespace Go.Pv
set_option maxRecDepth 100000
set_option maxHeartbeats 40000000
set_option linter.unusedSimpArgs false
set_option linter.unusedVariables false
/-- laws.big -/
def Fw_big (a0_2 : List Int) : Option Bool :=
  some (decide (1048576 < (a0_2.length : Int)))
def Fw_big_ans (a0_2 : List Int) : Bool → Ans
  | q1 => .val (.sc (.bool q1)) []
theorem Fw_big_ok (a0_2 : List Int) (r_ : Bool) (h_ : Fw_big a0_2 = some r_) : ev EE (.call 4 [.ls false (byi a0_2)] []) = some (Fw_big_ans a0_2 r_) := by
  rw [ev_eq]
  simp only [Fw_big] at h_
  cases h_
  simp +decide [-getElem?_pos, ir4, Fw_big_ans]
def Ls_l1New_0 : Nat → (List Int) → Int → Int → Option Int
  | 0, _, _, _ => none
  | n_ + 1, t0_1, t3_1, t4_1 =>
  if t4_1 < (t0_1.length : Int) then
    if t4_1 < 4000 then
      bS (getI t0_1 t4_1) fun e1 =>
      Ls_l1New_0 n_ t0_1 ((IntKind.i64.wrap ((IntKind.i64.wrap ((IntKind.i64.wrap (t3_1 * 131)) + (IntKind.i64.wrap e1))) + 7)) % 1073741824) (IntKind.i64.wrap (t4_1 + 1))
    else
      some t3_1
  else
    some t3_1
def Ls_l1New_0_ans (t0_1 : List Int) (t3_1 : Int) (t4_1 : Int) : Int → Ans
  | t3_2 => .out (.exit 0) { np := 0, tm := [(0, .ls false (byi t0_1)), (3, .sc (.int .i64 t3_2))], ar := [], bx := [] }
theorem Ls_l1New_0_ok : ∀ (n_ : Nat) (t0_1 : List Int) (t3_1 : Int) (t4_1 : Int) (r_ : Int), Ls_l1New_0 n_ t0_1 t3_1 t4_1 = some r_ → ev EE (.loop lp12_0 [0, 3, 4] [0, 2, 3] { np := 0, tm := [(0, .ls false (byi t0_1)), (3, .sc (.int .i64 t3_1)), (4, .sc (.int .i64 t4_1))], ar := [], bx := [] }) = some (Ls_l1New_0_ans t0_1 t3_1 t4_1 r_) := by
  intro n_
  induction n_ with
  | zero => intro t0_1 t3_1 t4_1 r_ h_; simp only [Ls_l1New_0] at h_; cases h_
  | succ n_ ih_ =>
    intro t0_1 t3_1 t4_1 r_ h_
    rw [ev_loop EE lp12_0.eq_1]
    simp only [Ls_l1New_0] at h_
    rcases bI h_ with ⟨h1_, h_⟩ | ⟨h1_, h_⟩
    · have h1_s := h1_; try simp at h1_s
      rcases bI h_ with ⟨h3_, h_⟩ | ⟨h3_, h_⟩
      · obtain ⟨e1, h4_, h_⟩ := bS_some h_
        obtain ⟨h4_a, h4_b, h4_c, h4_d⟩ := byi_getI  h4_
        try simp [-getElem?_pos] at h4_d
        have q_ := ih_ t0_1 ((IntKind.i64.wrap ((IntKind.i64.wrap ((IntKind.i64.wrap (t3_1 * 131)) + (IntKind.i64.wrap e1))) + 7)) % 1073741824) (IntKind.i64.wrap (t4_1 + 1)) _ h_
        rcases r_ with t3_2
        all_goals (try simp [Ls_l1New_0_ans] at q_)
        all_goals simp +decide [-getElem?_pos, h1_, h1_s, h3_, h4_a, h4_b, h4_c, h4_d, q_, Ls_l1New_0_ans]
      cases h_
      simp +decide [-getElem?_pos, h1_, h1_s, h3_, Ls_l1New_0_ans]
    have h1_s := h1_; try simp at h1_s
    cases h_
    simp +decide [-getElem?_pos, h1_, h1_s, Ls_l1New_0_ans]
/-- spec.l1New -/
def Fs_l1New (a0_4 : List Int) : Option ((List Int) × Int × Int) :=
  bS (Ls_l1New_0 FU a0_4 (IntKind.i64.wrap (18961 + (a0_4.length : Int))) 0) fun r2 =>
  some (a0_4, 0, r2)
def Fs_l1New_ans (a0_4 : List Int) : ((List Int) × Int × Int) → Ans
  | (q2, q3, q4) => .val (.bx 0 0) [.b [.ls false (byi q2), .sc (.int .i64 q3), .sc (.int .i64 q4)]]
theorem Fs_l1New_ok (a0_4 : List Int) (r_ : ((List Int) × Int × Int)) (h_ : Fs_l1New a0_4 = some r_) : ev EE (.call 12 [.ls false (byi a0_4)] []) = some (Fs_l1New_ans a0_4 r_) := by
  rw [ev_eq]
  simp only [Fs_l1New] at h_
  obtain ⟨r2, h1_, h_⟩ := bS_some h_
  have h1_f := Ls_l1New_0_ok FU a0_4 (IntKind.i64.wrap (18961 + (a0_4.length : Int))) 0 _ h1_
  try simp [Ls_l1New_0_ans] at h1_f
  cases h_
  simp +decide [-getElem?_pos, ir12, h1_f, Fs_l1New_ans]
/-- spec.l11Programs -/
def Fs_l11Programs  : Option (List ByteArray) :=
  some ([(⟨#[108, 101, 116, 32, 120, 32, 61, 32, 53, 59, 10, 112, 114, 105, 110, 116, 32, 120, 32, 43, 32, 50, 32, 42, 32, 51, 59, 10]⟩ : ByteArray), (⟨#[108, 101, 116, 32, 102, 32, 61, 32, 102, 117, 110, 99, 116, 105, 111, 110, 40, 97, 44, 32, 98, 41, 32, 123, 32, 114, 101, 116, 117, 114, 110, 32, 97, 32, 43, 32, 98, 59, 32, 125, 59, 10, 112, 114, 105, 110, 116, 32, 102, 40, 49, 44, 32, 50, 41, 59, 10, 112, 114, 105, 110, 116, 32, 102, 40, 34, 97, 34, 44, 32, 34, 98, 34, 41, 59, 10]⟩ : ByteArray), (⟨#[108, 101, 116, 32, 111, 32, 61, 32, 123, 97, 58, 32, 49, 44, 32, 98, 58, 32, 123, 99, 58, 32, 50, 125, 125, 59, 10, 111, 46, 100, 32, 61, 32, 111, 46, 97, 32, 43, 32, 111, 46, 98, 46, 99, 59, 10, 112, 114, 105, 110, 116, 32, 111, 46, 100, 59, 10, 112, 114, 105, 110, 116, 32, 111, 46, 122, 122, 59, 10]⟩ : ByteArray), (⟨#[108, 101, 116, 32, 105, 32, 61, 32, 48, 59, 10, 108, 101, 116, 32, 115, 32, 61, 32, 34, 34, 59, 10, 119, 104, 105, 108, 101, 32, 40, 105, 32, 60, 32, 52, 41, 32, 123, 32, 115, 32, 61, 32, 115, 32, 43, 32, 34, 120, 34, 59, 32, 105, 32, 61, 32, 105, 32, 43, 32, 49, 59, 32, 112, 114, 105, 110, 116, 32, 115, 59, 32, 125, 10]⟩ : ByteArray), (⟨#[108, 101, 116, 32, 112, 32, 61, 32, 123, 110, 58, 32, 55, 125, 59, 10, 108, 101, 116, 32, 113, 32, 61, 32, 123, 125, 59, 10, 113, 46, 112, 114, 111, 116, 111, 32, 61, 32, 112, 59, 10, 112, 114, 105, 110, 116, 32, 113, 46, 110, 59, 10, 113, 46, 110, 32, 61, 32, 56, 59, 10, 112, 114, 105, 110, 116, 32, 112, 46, 110, 59, 10, 112, 114, 105, 110, 116, 32, 113, 46, 112, 114, 111, 116, 111, 32, 61, 61, 32, 112, 59, 10]⟩ : ByteArray), (⟨#[108, 101, 116, 32, 99, 32, 61, 32, 102, 117, 110, 99, 116, 105, 111, 110, 40, 41, 32, 123, 32, 108, 101, 116, 32, 110, 32, 61, 32, 48, 59, 32, 114, 101, 116, 117, 114, 110, 32, 102, 117, 110, 99, 116, 105, 111, 110, 40, 41, 32, 123, 32, 110, 32, 61, 32, 110, 32, 43, 32, 49, 59, 32, 114, 101, 116, 117, 114, 110, 32, 110, 59, 32, 125, 59, 32, 125, 59, 10, 108, 101, 116, 32, 100, 32, 61, 32, 99, 40, 41, 59, 10, 100, 40, 41, 59, 10, 112, 114, 105, 110, 116, 32, 100, 40, 41, 59, 10, 112, 114, 105, 110, 116, 32, 99, 40, 41, 40, 41, 59, 10]⟩ : ByteArray), (⟨#[108, 101, 116, 32, 108, 32, 61, 32, 110, 117, 108, 108, 59, 10, 108, 101, 116, 32, 105, 32, 61, 32, 48, 59, 10, 119, 104, 105, 108, 101, 32, 40, 105, 32, 60, 32, 54, 41, 32, 123, 32, 108, 32, 61, 32, 123, 118, 58, 32, 105, 44, 32, 110, 101, 120, 116, 58, 32, 108, 125, 59, 32, 105, 32, 61, 32, 105, 32, 43, 32, 49, 59, 32, 125, 10, 119, 104, 105, 108, 101, 32, 40, 33, 40, 108, 32, 61, 61, 32, 110, 117, 108, 108, 41, 41, 32, 123, 32, 112, 114, 105, 110, 116, 32, 108, 46, 118, 59, 32, 108, 32, 61, 32, 108, 46, 110, 101, 120, 116, 59, 32, 125, 10]⟩ : ByteArray), (⟨#[108, 101, 116, 32, 102, 32, 61, 32, 102, 117, 110, 99, 116, 105, 111, 110, 40, 110, 41, 32, 123, 32, 105, 102, 32, 40, 110, 32, 60, 32, 50, 41, 32, 123, 32, 114, 101, 116, 117, 114, 110, 32, 110, 59, 32, 125, 32, 101, 108, 115, 101, 32, 123, 32, 114, 101, 116, 117, 114, 110, 32, 102, 40, 110, 32, 45, 32, 49, 41, 32, 43, 32, 102, 40, 110, 32, 45, 32, 50, 41, 59, 32, 125, 32, 125, 59, 10, 112, 114, 105, 110, 116, 32, 102, 40, 54, 41, 59, 10]⟩ : ByteArray), (⟨#[108, 101, 116, 32, 97, 32, 61, 32, 123, 125, 59, 10, 97, 46, 112, 114, 111, 116, 111, 32, 61, 32, 97, 59, 10, 112, 114, 105, 110, 116, 32, 97, 46, 113, 59, 10, 112, 114, 105, 110, 116, 32, 49, 32, 60, 32, 34, 97, 34, 59, 10, 112, 114, 105, 110, 116, 32, 51, 59, 10]⟩ : ByteArray), (⟨#[108, 101, 116, 32, 105, 32, 61, 32, 48, 59, 10, 119, 104, 105, 108, 101, 32, 40, 105, 32, 60, 32, 51, 48, 41, 32, 123, 32, 108, 101, 116, 32, 111, 32, 61, 32, 123, 97, 58, 32, 123, 98, 58, 32, 105, 125, 125, 59, 32, 111, 46, 97, 46, 99, 32, 61, 32, 111, 59, 32, 105, 32, 61, 32, 105, 32, 43, 32, 49, 59, 32, 125, 10, 112, 114, 105, 110, 116, 32, 105, 59, 10]⟩ : ByteArray), (⟨#[112, 114, 105, 110, 116, 32, 45, 53, 32, 42, 32, 51, 32, 60, 32, 50, 59, 10, 112, 114, 105, 110, 116, 32, 33, 48, 59, 10, 112, 114, 105, 110, 116, 32, 117, 110, 100, 101, 102, 105, 110, 101, 100, 59, 10, 112, 114, 105, 110, 116, 32, 110, 117, 108, 108, 59, 10, 112, 114, 105, 110, 116, 32, 123, 125, 59, 10, 112, 114, 105, 110, 116, 32, 102, 117, 110, 99, 116, 105, 111, 110, 40, 41, 32, 123, 125, 59, 10]⟩ : ByteArray), (⟨#[108, 101, 116, 32, 102, 32, 61, 32, 102, 117, 110, 99, 116, 105, 111, 110, 40, 110, 41, 32, 123, 32, 114, 101, 116, 117, 114, 110, 32, 102, 40, 110, 32, 43, 32, 49, 41, 59, 32, 125, 59, 10, 102, 40, 48, 41, 59, 10]⟩ : ByteArray)])
def Fs_l11Programs_ans  : (List ByteArray) → Ans
  | q5 => .val (.ls true (strs q5)) []
theorem Fs_l11Programs_ok  (r_ : (List ByteArray)) (h_ : Fs_l11Programs  = some r_) : ev EE (.call 26 [] []) = some (Fs_l11Programs_ans  r_) := by
  rw [ev_eq]
  simp only [Fs_l11Programs] at h_
  cases h_
  simp +decide [-getElem?_pos, ir26, Fs_l11Programs_ans]
/-- spec.l1Byte -/
def Fs_l1Byte (x0_16 : List Int) (x0_17 : Int) (x0_18 : Int) : Option (Int × Int × Int) :=
  if x0_17 < (x0_16.length : Int) then
    bS (getI x0_16 x0_17) fun e2 =>
    some ((IntKind.i64.wrap (((IntKind.i64.wrap (((BitVec.ofInt 64 ((IntKind.i64.wrap ((IntKind.i64.wrap (x0_18 * 6364136223846793005)) + 1442695040888963407)) / 8589934592) ^^^ BitVec.ofInt 64 ((IntKind.i64.wrap ((IntKind.i64.wrap (x0_18 * 6364136223846793005)) + 1442695040888963407)) / 35184372088832)).toNat : Int))) % 256) + (IntKind.i64.wrap e2))) % 256, IntKind.i64.wrap (x0_17 + 1), IntKind.i64.wrap ((IntKind.i64.wrap (x0_18 * 6364136223846793005)) + 1442695040888963407))
  else
    some ((IntKind.i64.wrap (((BitVec.ofInt 64 ((IntKind.i64.wrap ((IntKind.i64.wrap (x0_18 * 6364136223846793005)) + 1442695040888963407)) / 8589934592) ^^^ BitVec.ofInt 64 ((IntKind.i64.wrap ((IntKind.i64.wrap (x0_18 * 6364136223846793005)) + 1442695040888963407)) / 35184372088832)).toNat : Int))) % 256, x0_17, IntKind.i64.wrap ((IntKind.i64.wrap (x0_18 * 6364136223846793005)) + 1442695040888963407))
def Fs_l1Byte_ans (x0_16 : List Int) (x0_17 : Int) (x0_18 : Int) : (Int × Int × Int) → Ans
  | (q6, q7, q8) => .val (.sc (.int .i64 q6)) [.b [.ls false (byi x0_16), .sc (.int .i64 q7), .sc (.int .i64 q8)]]
theorem Fs_l1Byte_ok (x0_16 : List Int) (x0_17 : Int) (x0_18 : Int) (r_ : (Int × Int × Int)) (h_ : Fs_l1Byte x0_16 x0_17 x0_18 = some r_) : ev EE (.call 21 [.bx 0 0] [.b [.ls false (byi x0_16), .sc (.int .i64 x0_17), .sc (.int .i64 x0_18)]]) = some (Fs_l1Byte_ans x0_16 x0_17 x0_18 r_) := by
  rw [ev_eq]
  simp only [Fs_l1Byte] at h_
  rcases bI h_ with ⟨h1_, h_⟩ | ⟨h1_, h_⟩
  · have h1_s := h1_; try simp at h1_s
    obtain ⟨e2, h3_, h_⟩ := bS_some h_
    obtain ⟨h3_a, h3_b, h3_c, h3_d⟩ := byi_getI  h3_
    try simp [-getElem?_pos] at h3_d
    cases h_
    simp +decide [-getElem?_pos, ir21, h1_, h1_s, h3_a, h3_b, h3_c, h3_d, Fs_l1Byte_ans]
  have h1_s := h1_; try simp at h1_s
  cases h_
  simp +decide [-getElem?_pos, ir21, h1_, h1_s, Fs_l1Byte_ans]
/-- spec.l1Below -/
def Fs_l1Below (a1_2 : Int) (x0_13 : List Int) (x0_14 : Int) (x0_15 : Int) : Option (Int × Int × Int) :=
  if a1_2 ≤ 0 then
    some (0, x0_14, x0_15)
  else
  if a1_2 ≤ 256 then
    bS (Fs_l1Byte x0_13 x0_14 x0_15) fun (r7, r8, r9) =>
    if a1_2 = 0 then
      none
    else
      some (Int.tmod r7 a1_2, r8, r9)
  else
  bS (Fs_l1Byte x0_13 x0_14 x0_15) fun (r10, r11, r12) =>
  bS (Fs_l1Byte x0_13 r11 r12) fun (r13, r14, r15) =>
  bS (Fs_l1Byte x0_13 r14 r15) fun (r16, r17, r18) =>
  bS (Fs_l1Byte x0_13 r17 r18) fun (r19, r20, r21) =>
  if a1_2 = 0 then
    none
  else
    some (Int.tmod (IntKind.i64.wrap ((IntKind.i64.wrap ((IntKind.i64.wrap ((IntKind.i64.wrap (r10 * 16777216)) + (IntKind.i64.wrap (r13 * 65536)))) + (IntKind.i64.wrap (r16 * 256)))) + r19)) a1_2, r20, r21)
def Fs_l1Below_ans (a1_2 : Int) (x0_13 : List Int) (x0_14 : Int) (x0_15 : Int) : (Int × Int × Int) → Ans
  | (q9, q10, q11) => .val (.sc (.int .i64 q9)) [.b [.ls false (byi x0_13), .sc (.int .i64 q10), .sc (.int .i64 q11)]]
theorem Fs_l1Below_ok (a1_2 : Int) (x0_13 : List Int) (x0_14 : Int) (x0_15 : Int) (r_ : (Int × Int × Int)) (h_ : Fs_l1Below a1_2 x0_13 x0_14 x0_15 = some r_) : ev EE (.call 16 [.bx 0 0, .sc (.int .i64 a1_2)] [.b [.ls false (byi x0_13), .sc (.int .i64 x0_14), .sc (.int .i64 x0_15)]]) = some (Fs_l1Below_ans a1_2 x0_13 x0_14 x0_15 r_) := by
  rw [ev_eq]
  simp only [Fs_l1Below] at h_
  rcases bI h_ with ⟨h1_, h_⟩ | ⟨h1_, h_⟩
  · cases h_
    simp +decide [-getElem?_pos, ir16, h1_, Fs_l1Below_ans]
  rcases bI h_ with ⟨h2_, h_⟩ | ⟨h2_, h_⟩
  · obtain ⟨⟨r7, r8, r9⟩, h3_, h_⟩ := bS_some h_
    try dsimp only at h_
    have h3_f := Fs_l1Byte_ok x0_13 x0_14 x0_15 _ h3_
    try simp [Fs_l1Byte_ans] at h3_f
    rcases bI h_ with ⟨h4_, h_⟩ | ⟨h4_, h_⟩
    · cases h_
    cases h_
    simp +decide [-getElem?_pos, ir16, h1_, h2_, h3_f, h4_, Fs_l1Below_ans]
  obtain ⟨⟨r10, r11, r12⟩, h3_, h_⟩ := bS_some h_
  try dsimp only at h_
  have h3_f := Fs_l1Byte_ok x0_13 x0_14 x0_15 _ h3_
  try simp [Fs_l1Byte_ans] at h3_f
  obtain ⟨⟨r13, r14, r15⟩, h4_, h_⟩ := bS_some h_
  try dsimp only at h_
  have h4_f := Fs_l1Byte_ok x0_13 r11 r12 _ h4_
  try simp [Fs_l1Byte_ans] at h4_f
  obtain ⟨⟨r16, r17, r18⟩, h5_, h_⟩ := bS_some h_
  try dsimp only at h_
  have h5_f := Fs_l1Byte_ok x0_13 r14 r15 _ h5_
  try simp [Fs_l1Byte_ans] at h5_f
  obtain ⟨⟨r19, r20, r21⟩, h6_, h_⟩ := bS_some h_
  try dsimp only at h_
  have h6_f := Fs_l1Byte_ok x0_13 r17 r18 _ h6_
  try simp [Fs_l1Byte_ans] at h6_f
  rcases bI h_ with ⟨h7_, h_⟩ | ⟨h7_, h_⟩
  · cases h_
  cases h_
  simp +decide [-getElem?_pos, ir16, h1_, h2_, h3_f, h4_f, h5_f, h6_f, h7_, Fs_l1Below_ans]
/-- spec.l1Pick -/
def Fs_l1Pick (a1_1 : List ByteArray) (x0_10 : List Int) (x0_11 : Int) (x0_12 : Int) : Option (ByteArray × Int × Int) :=
  bS (Fs_l1Below (a1_1.length : Int) x0_10 x0_11 x0_12) fun (r22, r23, r24) =>
  bS (getI a1_1 r22) fun e3 =>
  some (e3, r23, r24)
def Fs_l1Pick_ans (a1_1 : List ByteArray) (x0_10 : List Int) (x0_11 : Int) (x0_12 : Int) : (ByteArray × Int × Int) → Ans
  | (q12, q13, q14) => .val (.sc (.string q12)) [.b [.ls false (byi x0_10), .sc (.int .i64 q13), .sc (.int .i64 q14)]]
theorem Fs_l1Pick_ok (a1_1 : List ByteArray) (x0_10 : List Int) (x0_11 : Int) (x0_12 : Int) (r_ : (ByteArray × Int × Int)) (h_ : Fs_l1Pick a1_1 x0_10 x0_11 x0_12 = some r_) : ev EE (.call 17 [.bx 0 0, .ls false (strs a1_1)] [.b [.ls false (byi x0_10), .sc (.int .i64 x0_11), .sc (.int .i64 x0_12)]]) = some (Fs_l1Pick_ans a1_1 x0_10 x0_11 x0_12 r_) := by
  rw [ev_eq]
  simp only [Fs_l1Pick] at h_
  obtain ⟨⟨r22, r23, r24⟩, h1_, h_⟩ := bS_some h_
  try dsimp only at h_
  have h1_f := Fs_l1Below_ok (a1_1.length : Int) x0_10 x0_11 x0_12 _ h1_
  try simp [Fs_l1Below_ans] at h1_f
  obtain ⟨e3, h2_, h_⟩ := bS_some h_
  obtain ⟨h2_a, h2_b, h2_c, h2_d⟩ := strs_getI  h2_
  try simp [-getElem?_pos] at h2_d
  cases h_
  simp +decide [-getElem?_pos, ir17, h1_f, h2_a, h2_b, h2_c, h2_d, Fs_l1Pick_ans]
/-- spec.l11DrawSource -/
def Fs_l11DrawSource (x0_7 : List Int) (x0_8 : Int) (x0_9 : Int) : Option (ByteArray × Int × Int) :=
  bS (Fs_l11Programs) fun r6 =>
  bS (Fs_l1Pick r6 x0_7 x0_8 x0_9) fun (r25, r26, r27) =>
  some (r25, r26, r27)
def Fs_l11DrawSource_ans (x0_7 : List Int) (x0_8 : Int) (x0_9 : Int) : (ByteArray × Int × Int) → Ans
  | (q15, q16, q17) => .val (.sc (.string q15)) [.b [.ls false (byi x0_7), .sc (.int .i64 q16), .sc (.int .i64 q17)]]
theorem Fs_l11DrawSource_ok (x0_7 : List Int) (x0_8 : Int) (x0_9 : Int) (r_ : (ByteArray × Int × Int)) (h_ : Fs_l11DrawSource x0_7 x0_8 x0_9 = some r_) : ev EE (.call 20 [.bx 0 0] [.b [.ls false (byi x0_7), .sc (.int .i64 x0_8), .sc (.int .i64 x0_9)]]) = some (Fs_l11DrawSource_ans x0_7 x0_8 x0_9 r_) := by
  rw [ev_eq]
  simp only [Fs_l11DrawSource] at h_
  obtain ⟨r6, h1_, h_⟩ := bS_some h_
  have h1_f := Fs_l11Programs_ok _ h1_
  try simp [Fs_l11Programs_ans] at h1_f
  obtain ⟨⟨r25, r26, r27⟩, h2_, h_⟩ := bS_some h_
  try dsimp only at h_
  have h2_f := Fs_l1Pick_ok r6 x0_7 x0_8 x0_9 _ h2_
  try simp [Fs_l1Pick_ans] at h2_f
  cases h_
  simp +decide [-getElem?_pos, ir20, h1_f, h2_f, Fs_l11DrawSource_ans]
structure T_Token where
  kind_ : Int
  text_ : ByteArray
  n_ : Int
  at_ : Int
def e_Token (x : T_Token) : List V := [.sc (.int .i64 x.kind_), .sc (.string x.text_), .sc (.int .i64 x.n_), .sc (.int .i64 x.at_)]
def r_Token (xs : List T_Token) : List (List V) := xs.map (e_Token)
@[simp] theorem r_Token_nil : r_Token [] = [] := nr rfl
@[simp] theorem r_Token_len (xs : List T_Token) : (r_Token xs).length = xs.length := by simp [r_Token]
@[simp] theorem r_Token_all (xs : List T_Token) : allLen 4 (r_Token xs) = true := by simp [r_Token, allLen, e_Token]
@[simp] theorem r_Token_emp (xs : List T_Token) : (r_Token xs).isEmpty = xs.isEmpty := by cases xs <;> rfl
@[simp] theorem r_Token_app (xs ys : List T_Token) : r_Token xs ++ r_Token ys = r_Token (xs ++ ys) := by simp [r_Token]
@[simp] theorem r_Token_app1 (xs : List T_Token) (c0 : Int) (c1 : ByteArray) (c2 : Int) (c3 : Int) : r_Token xs ++ [[V.sc (.int .i64 c0), V.sc (.string c1), V.sc (.int .i64 c2), V.sc (.int .i64 c3)]] = r_Token (xs ++ [⟨c0, c1, c2, c3⟩]) := by simp [r_Token, e_Token]
@[simp] theorem r_Token_one (c0 : Int) (c1 : ByteArray) (c2 : Int) (c3 : Int) : [[V.sc (.int .i64 c0), V.sc (.string c1), V.sc (.int .i64 c2), V.sc (.int .i64 c3)]] = r_Token [⟨c0, c1, c2, c3⟩] := by simp [r_Token, e_Token]
@[simp] theorem r_Token_cons (c0 : Int) (c1 : ByteArray) (c2 : Int) (c3 : Int) (l : List T_Token) : [V.sc (.int .i64 c0), V.sc (.string c1), V.sc (.int .i64 c2), V.sc (.int .i64 c3)] :: r_Token l = r_Token (⟨c0, c1, c2, c3⟩ :: l) := by simp [r_Token, e_Token]
@[simp] theorem r_Token_set (xs : List T_Token) (i : Nat) (c0 : Int) (c1 : ByteArray) (c2 : Int) (c3 : Int) : (r_Token xs).set i [V.sc (.int .i64 c0), V.sc (.string c1), V.sc (.int .i64 c2), V.sc (.int .i64 c3)] = r_Token (xs.set i ⟨c0, c1, c2, c3⟩) := by simp [r_Token, e_Token, List.map_set]
@[simp] theorem r_Token_clo {α : Type} (xs : List T_Token) (k : List (List V) → M α) : cloLs (r_Token xs) k = k (r_Token xs) := by
  refine cloLs_cl _ _ (fun r hr v hv => ?_)
  rw [r_Token] at hr
  obtain ⟨x, _, rfl⟩ := List.mem_map.1 hr
  simp only [e_Token, List.mem_cons, List.not_mem_nil, or_false] at hv
  rcases hv with rfl | rfl | rfl | rfl
  all_goals first | exact .inl ⟨_, rfl⟩ | exact .inr ⟨_, _, rfl⟩
@[simp] theorem r_Token_rfs (xs : List T_Token) : rfsX (r_Token xs) = [] := by
  refine rfsX_cl _ (fun r hr v hv => ?_)
  rw [r_Token] at hr
  obtain ⟨x, _, rfl⟩ := List.mem_map.1 hr
  simp only [e_Token, List.mem_cons, List.not_mem_nil, or_false] at hv
  rcases hv with rfl | rfl | rfl | rfl
  all_goals first | exact .inl ⟨_, rfl⟩ | exact .inr ⟨_, _, rfl⟩
@[simp] theorem r_Token_fill (xs : List T_Token) (s : St) : fillXS (r_Token xs) s = some (r_Token xs, s) := by
  refine fillXS_cl _ s (fun r hr v hv => ?_)
  rw [r_Token] at hr
  obtain ⟨x, _, rfl⟩ := List.mem_map.1 hr
  simp only [e_Token, List.mem_cons, List.not_mem_nil, or_false] at hv
  rcases hv with rfl | rfl | rfl | rfl
  all_goals first | exact .inl ⟨_, rfl⟩ | exact .inr ⟨_, _, rfl⟩
@[simp] theorem r_Token_mem (xs : List T_Token) : (∀ x : List V, x ∈ r_Token xs → x.length = 4) = True := eq_true (allLen_mem (r_Token_all xs))
@[simp] theorem r_Token_sub (xs : List T_Token) (a n : Nat) : sub (r_Token xs) a n = r_Token ((xs.drop a).take n) := by simp [sub, r_Token, List.map_drop, List.map_take]
@[simp] theorem r_Token_rep (n : Nat) : List.replicate n [V.sc (.int .i64 0), V.sc (.string ⟨#[]⟩), V.sc (.int .i64 0), V.sc (.int .i64 0)] = r_Token (List.replicate n ⟨0, ⟨#[]⟩, 0, 0⟩) := by simp [r_Token, e_Token]
@[simp] theorem r_Token_frz (xs : List T_Token) : frzR (r_Token xs) = r_Token xs := by
  induction xs with
  | nil => rfl
  | cons x xs ih => simp [r_Token, e_Token, frzR, frzL, frz] at ih ⊢; exact ih
@[simp] theorem r_Token_hasFz (xs : List T_Token) : hasFzR (r_Token xs) = false := by
  induction xs with
  | nil => rfl
  | cons x xs ih => simp [r_Token, e_Token, hasFzR, hasFzL, hasFz] at ih ⊢; exact ih
@[simp] theorem r_Token_noH (xs : List T_Token) : noH (r_Token xs) = true := by simp [noH, r_Token, e_Token, isRf]
@[simp] theorem r_Token_sameL (xs ys : List T_Token) : sameL (r_Token xs) (r_Token ys) = true := sameL_len (r_Token_all xs) (r_Token_all ys)
@[simp] theorem r_Token_flat (xs : List T_Token) : flatR (r_Token xs) = true := by simp [flatR, flat1, r_Token, e_Token]
theorem r_Token_getI {xs : List T_Token} {i : Int} {x : T_Token} (h : getI xs i = some x) : 0 ≤ i ∧ i < xs.length ∧ i.toNat < xs.length ∧ (r_Token xs)[i.toNat]? = some [.sc (.int .i64 x.kind_), .sc (.string x.text_), .sc (.int .i64 x.n_), .sc (.int .i64 x.at_)] := by
  obtain ⟨h1, h2, h3⟩ := getI_some h
  exact ⟨h1, h2, by omega, by simp [r_Token, h3, e_Token]⟩
theorem r_Token_getN {xs : List T_Token} {i : Nat} {x : T_Token} (h : xs[i]? = some x) : (r_Token xs)[i]? = some [.sc (.int .i64 x.kind_), .sc (.string x.text_), .sc (.int .i64 x.n_), .sc (.int .i64 x.at_)] := by simp [r_Token, h, e_Token]
/-- spec.l11Letter -/
def Fs_l11Letter (a0_8 : Int) : Option Bool :=
  if 97 ≤ a0_8 then
    if a0_8 ≤ 122 then
      some true
    else
    if 65 ≤ a0_8 then
      some (decide (a0_8 ≤ 90))
    else
      some false
  else
  if 65 ≤ a0_8 then
    some (decide (a0_8 ≤ 90))
  else
    some false
def Fs_l11Letter_ans (a0_8 : Int) : Bool → Ans
  | q18 => .val (.sc (.bool q18)) []
theorem Fs_l11Letter_ok (a0_8 : Int) (r_ : Bool) (h_ : Fs_l11Letter a0_8 = some r_) : ev EE (.call 37 [.sc (.int .u8 a0_8)] []) = some (Fs_l11Letter_ans a0_8 r_) := by
  rw [ev_eq]
  simp only [Fs_l11Letter] at h_
  rcases bI h_ with ⟨h1_, h_⟩ | ⟨h1_, h_⟩
  · rcases bI h_ with ⟨h2_, h_⟩ | ⟨h2_, h_⟩
    · cases h_
      simp +decide [-getElem?_pos, ir37, h1_, h2_, Fs_l11Letter_ans]
    rcases bI h_ with ⟨h3_, h_⟩ | ⟨h3_, h_⟩
    · cases h_
      simp +decide [-getElem?_pos, ir37, h1_, h2_, h3_, Fs_l11Letter_ans]
    cases h_
    simp +decide [-getElem?_pos, ir37, h1_, h2_, h3_, Fs_l11Letter_ans]
  rcases bI h_ with ⟨h2_, h_⟩ | ⟨h2_, h_⟩
  · cases h_
    simp +decide [-getElem?_pos, ir37, h1_, h2_, Fs_l11Letter_ans]
  cases h_
  simp +decide [-getElem?_pos, ir37, h1_, h2_, Fs_l11Letter_ans]
/-- spec.l11Digit -/
def Fs_l11Digit (a0_10 : Int) : Option Bool :=
  if 48 ≤ a0_10 then
    some (decide (a0_10 ≤ 57))
  else
    some false
def Fs_l11Digit_ans (a0_10 : Int) : Bool → Ans
  | q19 => .val (.sc (.bool q19)) []
theorem Fs_l11Digit_ok (a0_10 : Int) (r_ : Bool) (h_ : Fs_l11Digit a0_10 = some r_) : ev EE (.call 39 [.sc (.int .u8 a0_10)] []) = some (Fs_l11Digit_ans a0_10 r_) := by
  rw [ev_eq]
  simp only [Fs_l11Digit] at h_
  rcases bI h_ with ⟨h1_, h_⟩ | ⟨h1_, h_⟩
  · cases h_
    simp +decide [-getElem?_pos, ir39, h1_, Fs_l11Digit_ans]
  cases h_
  simp +decide [-getElem?_pos, ir39, h1_, Fs_l11Digit_ans]
def Ls_l11Name_0 : Nat → ByteArray → Int → Int → Int → ByteArray → Int → Int → Option Int
  | 0, _, _, _, _, _, _, _ => none
  | n_ + 1, t0_3, t1_1, t7_1, x0_19, x0_20, x0_21, x0_22 =>
  if t7_1 < (t0_3.size : Int) then
    bS (getB t0_3 t7_1) fun b3 =>
    bS (Fs_l11Letter (b3.toNat : Int)) fun r32 =>
    if r32 = true then
      Ls_l11Name_0 n_ t0_3 t1_1 (IntKind.i64.wrap (t7_1 + 1)) x0_19 x0_20 x0_21 x0_22
    else
    bS (Fs_l11Digit (b3.toNat : Int)) fun r33 =>
    if r33 = true then
      Ls_l11Name_0 n_ t0_3 t1_1 (IntKind.i64.wrap (t7_1 + 1)) x0_19 x0_20 x0_21 x0_22
    else
      some t7_1
  else
    some t7_1
def Ls_l11Name_0_ans (t0_3 : ByteArray) (t1_1 : Int) (t7_1 : Int) (x0_19 : Int) (x0_20 : ByteArray) (x0_21 : Int) (x0_22 : Int) : Int → Ans
  | t7_2 => .out (.exit 0) { np := 0, tm := [(0, .sc (.string t0_3)), (1, .sc (.int .i64 t1_1)), (4, .bx 0 0), (7, .sc (.int .i64 t7_2))], ar := [], bx := [(0, .b [.sc (.int .i64 x0_19), .sc (.string x0_20), .sc (.int .i64 x0_21), .sc (.int .i64 x0_22)])] }
theorem Ls_l11Name_0_ok : ∀ (n_ : Nat) (t0_3 : ByteArray) (t1_1 : Int) (t7_1 : Int) (x0_19 : Int) (x0_20 : ByteArray) (x0_21 : Int) (x0_22 : Int) (r_ : Int), Ls_l11Name_0 n_ t0_3 t1_1 t7_1 x0_19 x0_20 x0_21 x0_22 = some r_ → ev EE (.loop lp38_0 [0, 1, 4, 7] [0, 1, 4, 5, 6, 7] { np := 0, tm := [(0, .sc (.string t0_3)), (1, .sc (.int .i64 t1_1)), (4, .bx 0 0), (7, .sc (.int .i64 t7_1))], ar := [], bx := [(0, .b [.sc (.int .i64 x0_19), .sc (.string x0_20), .sc (.int .i64 x0_21), .sc (.int .i64 x0_22)])] }) = some (Ls_l11Name_0_ans t0_3 t1_1 t7_1 x0_19 x0_20 x0_21 x0_22 r_) := by
  intro n_
  induction n_ with
  | zero => intro t0_3 t1_1 t7_1 x0_19 x0_20 x0_21 x0_22 r_ h_; simp only [Ls_l11Name_0] at h_; cases h_
  | succ n_ ih_ =>
    intro t0_3 t1_1 t7_1 x0_19 x0_20 x0_21 x0_22 r_ h_
    rw [ev_loop EE lp38_0.eq_1]
    simp only [Ls_l11Name_0] at h_
    rcases bI h_ with ⟨h1_, h_⟩ | ⟨h1_, h_⟩
    · have h1_s := h1_; try simp at h1_s
      obtain ⟨b3, h3_, h_⟩ := bS_some h_
      obtain ⟨h3_a, h3_b, h3_c, h3_d⟩ := getB_some h3_
      try simp [-getElem?_pos] at h3_d
      obtain ⟨r32, h7_, h_⟩ := bS_some h_
      have h7_f := Fs_l11Letter_ok (b3.toNat : Int) _ h7_
      try simp [Fs_l11Letter_ans] at h7_f
      rcases bI h_ with ⟨h8_, h_⟩ | ⟨h8_, h_⟩
      · have q_ := ih_ t0_3 t1_1 (IntKind.i64.wrap (t7_1 + 1)) x0_19 x0_20 x0_21 x0_22 _ h_
        rcases r_ with t7_2
        all_goals (try simp [Ls_l11Name_0_ans] at q_)
        all_goals simp +decide [-getElem?_pos, h1_, h1_s, h3_a, h3_b, h3_c, h3_d, h7_f, h8_, q_, Ls_l11Name_0_ans]
      obtain ⟨r33, h9_, h_⟩ := bS_some h_
      have h9_f := Fs_l11Digit_ok (b3.toNat : Int) _ h9_
      try simp [Fs_l11Digit_ans] at h9_f
      rcases bI h_ with ⟨h10_, h_⟩ | ⟨h10_, h_⟩
      · have q_ := ih_ t0_3 t1_1 (IntKind.i64.wrap (t7_1 + 1)) x0_19 x0_20 x0_21 x0_22 _ h_
        rcases r_ with t7_2
        all_goals (try simp [Ls_l11Name_0_ans] at q_)
        all_goals simp +decide [-getElem?_pos, h1_, h1_s, h3_a, h3_b, h3_c, h3_d, h7_f, h8_, h9_f, h10_, q_, Ls_l11Name_0_ans]
      cases h_
      simp +decide [-getElem?_pos, h1_, h1_s, h3_a, h3_b, h3_c, h3_d, h7_f, h8_, h9_f, h10_, Ls_l11Name_0_ans]
    have h1_s := h1_; try simp at h1_s
    cases h_
    simp +decide [-getElem?_pos, h1_, h1_s, Ls_l11Name_0_ans]
/-- spec.l11Name -/
def Fs_l11Name (a0_9 : ByteArray) (a1_4 : Int) : Option (Int × ByteArray × Int × Int × Int × Bool) :=
  bS (Ls_l11Name_0 FU a0_9 a1_4 a1_4 0 (⟨#[]⟩ : ByteArray) 0 0) fun r34 =>
  if 0 ≤ a1_4 then
  if 0 ≤ r34 then
  if a1_4.toNat ≤ r34.toNat ∧ r34.toNat ≤ a0_9.size then
  some (1, ByteArray.extract a0_9 a1_4.toNat r34.toNat, 0, a1_4, r34, (decide (IntKind.i64.wrap (r34 - a1_4) ≤ 12)))
  else none
  else none
  else none
def Fs_l11Name_ans (a0_9 : ByteArray) (a1_4 : Int) : (Int × ByteArray × Int × Int × Int × Bool) → Ans
  | (q20, q21, q22, q23, q24, q25) => .val (.tu [.ag [.sc (.int .i64 q20), .sc (.string q21), .sc (.int .i64 q22), .sc (.int .i64 q23)], .sc (.int .i64 q24), .sc (.bool q25)]) []
theorem Fs_l11Name_ok (a0_9 : ByteArray) (a1_4 : Int) (r_ : (Int × ByteArray × Int × Int × Int × Bool)) (h_ : Fs_l11Name a0_9 a1_4 = some r_) : ev EE (.call 38 [.sc (.string a0_9), .sc (.int .i64 a1_4)] []) = some (Fs_l11Name_ans a0_9 a1_4 r_) := by
  rw [ev_eq]
  simp only [Fs_l11Name] at h_
  obtain ⟨r34, h1_, h_⟩ := bS_some h_
  have h1_f := Ls_l11Name_0_ok FU a0_9 a1_4 a1_4 0 (⟨#[]⟩ : ByteArray) 0 0 _ h1_
  try simp [Ls_l11Name_0_ans] at h1_f
  obtain ⟨h2_, h_⟩ := bP h_
  obtain ⟨h3_, h_⟩ := bP h_
  obtain ⟨h4_, h_⟩ := bP h_
  cases h_
  simp +decide [-getElem?_pos, -Int.toNat_le, -Int.le_toNat, ir38, h1_f, h2_, h3_, h4_, Fs_l11Name_ans]
def Ls_l11Num_0 : Nat → ByteArray → Int → Int → Int → Int → ByteArray → Int → Int → Option (Int × Int)
  | 0, _, _, _, _, _, _, _, _ => none
  | n_ + 1, t0_4, t1_2, t7_3, t8_1, x0_23, x0_24, x0_25, x0_26 =>
  if t7_3 < (t0_4.size : Int) then
    bS (getB t0_4 t7_3) fun b4 =>
    bS (Fs_l11Digit (b4.toNat : Int)) fun r42 =>
    if r42 = true then
      if t8_1 ≤ 2147483647 then
        Ls_l11Num_0 n_ t0_4 t1_2 (IntKind.i64.wrap (t7_3 + 1)) (IntKind.i64.wrap ((IntKind.i64.wrap ((IntKind.i64.wrap (10 * t8_1)) + (IntKind.i64.wrap (b4.toNat : Int)))) - 48)) x0_23 x0_24 x0_25 x0_26
      else
        Ls_l11Num_0 n_ t0_4 t1_2 (IntKind.i64.wrap (t7_3 + 1)) t8_1 x0_23 x0_24 x0_25 x0_26
    else
      some (t7_3, t8_1)
  else
    some (t7_3, t8_1)
def Ls_l11Num_0_ans (t0_4 : ByteArray) (t1_2 : Int) (t7_3 : Int) (t8_1 : Int) (x0_23 : Int) (x0_24 : ByteArray) (x0_25 : Int) (x0_26 : Int) : (Int × Int) → Ans
  | (t7_4, t8_2) => .out (.exit 0) { np := 0, tm := [(0, .sc (.string t0_4)), (1, .sc (.int .i64 t1_2)), (4, .bx 0 0), (7, .sc (.int .i64 t7_4)), (8, .sc (.int .i64 t8_2))], ar := [], bx := [(0, .b [.sc (.int .i64 x0_23), .sc (.string x0_24), .sc (.int .i64 x0_25), .sc (.int .i64 x0_26)])] }
theorem Ls_l11Num_0_ok : ∀ (n_ : Nat) (t0_4 : ByteArray) (t1_2 : Int) (t7_3 : Int) (t8_1 : Int) (x0_23 : Int) (x0_24 : ByteArray) (x0_25 : Int) (x0_26 : Int) (r_ : (Int × Int)), Ls_l11Num_0 n_ t0_4 t1_2 t7_3 t8_1 x0_23 x0_24 x0_25 x0_26 = some r_ → ev EE (.loop lp40_0 [0, 1, 4, 7, 8] [0, 1, 4, 5, 6, 7, 8] { np := 0, tm := [(0, .sc (.string t0_4)), (1, .sc (.int .i64 t1_2)), (4, .bx 0 0), (7, .sc (.int .i64 t7_3)), (8, .sc (.int .i64 t8_1))], ar := [], bx := [(0, .b [.sc (.int .i64 x0_23), .sc (.string x0_24), .sc (.int .i64 x0_25), .sc (.int .i64 x0_26)])] }) = some (Ls_l11Num_0_ans t0_4 t1_2 t7_3 t8_1 x0_23 x0_24 x0_25 x0_26 r_) := by
  intro n_
  induction n_ with
  | zero => intro t0_4 t1_2 t7_3 t8_1 x0_23 x0_24 x0_25 x0_26 r_ h_; simp only [Ls_l11Num_0] at h_; cases h_
  | succ n_ ih_ =>
    intro t0_4 t1_2 t7_3 t8_1 x0_23 x0_24 x0_25 x0_26 r_ h_
    rw [ev_loop EE lp40_0.eq_1]
    simp only [Ls_l11Num_0] at h_
    rcases bI h_ with ⟨h1_, h_⟩ | ⟨h1_, h_⟩
    · have h1_s := h1_; try simp at h1_s
      obtain ⟨b4, h3_, h_⟩ := bS_some h_
      obtain ⟨h3_a, h3_b, h3_c, h3_d⟩ := getB_some h3_
      try simp [-getElem?_pos] at h3_d
      obtain ⟨r42, h7_, h_⟩ := bS_some h_
      have h7_f := Fs_l11Digit_ok (b4.toNat : Int) _ h7_
      try simp [Fs_l11Digit_ans] at h7_f
      rcases bI h_ with ⟨h8_, h_⟩ | ⟨h8_, h_⟩
      · rcases bI h_ with ⟨h9_, h_⟩ | ⟨h9_, h_⟩
        · have q_ := ih_ t0_4 t1_2 (IntKind.i64.wrap (t7_3 + 1)) (IntKind.i64.wrap ((IntKind.i64.wrap ((IntKind.i64.wrap (10 * t8_1)) + (IntKind.i64.wrap (b4.toNat : Int)))) - 48)) x0_23 x0_24 x0_25 x0_26 _ h_
          rcases r_ with ⟨t7_4, t8_2⟩
          all_goals (try simp [Ls_l11Num_0_ans] at q_)
          all_goals simp +decide [-getElem?_pos, h1_, h1_s, h3_a, h3_b, h3_c, h3_d, h7_f, h8_, h9_, q_, Ls_l11Num_0_ans]
        have q_ := ih_ t0_4 t1_2 (IntKind.i64.wrap (t7_3 + 1)) t8_1 x0_23 x0_24 x0_25 x0_26 _ h_
        rcases r_ with ⟨t7_4, t8_2⟩
        all_goals (try simp [Ls_l11Num_0_ans] at q_)
        all_goals simp +decide [-getElem?_pos, h1_, h1_s, h3_a, h3_b, h3_c, h3_d, h7_f, h8_, h9_, q_, Ls_l11Num_0_ans]
      cases h_
      simp +decide [-getElem?_pos, h1_, h1_s, h3_a, h3_b, h3_c, h3_d, h7_f, h8_, Ls_l11Num_0_ans]
    have h1_s := h1_; try simp at h1_s
    cases h_
    simp +decide [-getElem?_pos, h1_, h1_s, Ls_l11Num_0_ans]
def Ls_l7Digits_0 : Nat → Int → Bool → ByteArray → Option ByteArray
  | 0, _, _, _ => none
  | n_ + 1, t0_5, t3_3, t4_3 =>
  if t0_5 = 0 then
    some t4_3
  else
  if Int.tmod t0_5 10 < 0 then
    bS (cat (⟨#[UInt8.ofNat (IntKind.u8.wrap (IntKind.i64.wrap (48 + (IntKind.i64.wrap (0 - (Int.tmod t0_5 10)))))).toNat]⟩ : ByteArray) t4_3) fun s1 =>
    Ls_l7Digits_0 n_ (IntKind.i64.wrap (Int.tdiv t0_5 10)) t3_3 s1
  else
  bS (cat (⟨#[UInt8.ofNat (IntKind.u8.wrap (IntKind.i64.wrap (48 + (Int.tmod t0_5 10)))).toNat]⟩ : ByteArray) t4_3) fun s2 =>
  Ls_l7Digits_0 n_ (IntKind.i64.wrap (Int.tdiv t0_5 10)) t3_3 s2
def Ls_l7Digits_0_ans (t0_5 : Int) (t3_3 : Bool) (t4_3 : ByteArray) : ByteArray → Ans
  | t4_4 => .out (.exit 0) { np := 0, tm := [(3, .sc (.bool t3_3)), (4, .sc (.string t4_4))], ar := [], bx := [] }
theorem Ls_l7Digits_0_ok : ∀ (n_ : Nat) (t0_5 : Int) (t3_3 : Bool) (t4_3 : ByteArray) (r_ : ByteArray), Ls_l7Digits_0 n_ t0_5 t3_3 t4_3 = some r_ → ev EE (.loop lp47_0 [0, 3, 4] [2, 3, 4] { np := 0, tm := [(0, .sc (.int .i64 t0_5)), (3, .sc (.bool t3_3)), (4, .sc (.string t4_3))], ar := [], bx := [] }) = some (Ls_l7Digits_0_ans t0_5 t3_3 t4_3 r_) := by
  intro n_
  induction n_ with
  | zero => intro t0_5 t3_3 t4_3 r_ h_; simp only [Ls_l7Digits_0] at h_; cases h_
  | succ n_ ih_ =>
    intro t0_5 t3_3 t4_3 r_ h_
    rw [ev_loop EE lp47_0.eq_1]
    simp only [Ls_l7Digits_0] at h_
    rcases bI h_ with ⟨h1_, h_⟩ | ⟨h1_, h_⟩
    · cases h_
      simp +decide [-getElem?_pos, eq_true h1_, Ls_l7Digits_0_ans]
    rcases bI h_ with ⟨h2_, h_⟩ | ⟨h2_, h_⟩
    · obtain ⟨s1, h3_, h_⟩ := cat_some h_
      simp only [Int.zero_sub] at h3_
      have q_ := ih_ (IntKind.i64.wrap (Int.tdiv t0_5 10)) t3_3 s1 _ h_
      rcases r_ with t4_4
      all_goals (try simp [Ls_l7Digits_0_ans] at q_)
      all_goals simp +decide [-getElem?_pos, h1_, h2_, h3_, q_, Ls_l7Digits_0_ans]
    obtain ⟨s2, h3_, h_⟩ := cat_some h_
    have q_ := ih_ (IntKind.i64.wrap (Int.tdiv t0_5 10)) t3_3 s2 _ h_
    rcases r_ with t4_4
    all_goals (try simp [Ls_l7Digits_0_ans] at q_)
    all_goals simp +decide [-getElem?_pos, h1_, h2_, h3_, q_, Ls_l7Digits_0_ans]
/-- spec.l7Digits -/
def Fs_l7Digits (a0_12 : Int) : Option ByteArray :=
  if a0_12 = 0 then
    some (⟨#[48]⟩ : ByteArray)
  else
  bS (Ls_l7Digits_0 FU a0_12 (decide (a0_12 < 0)) (⟨#[]⟩ : ByteArray)) fun r45 =>
  if a0_12 < 0 then
    bS (cat (⟨#[45]⟩ : ByteArray) r45) fun s3 =>
    some s3
  else
    some r45
def Fs_l7Digits_ans (a0_12 : Int) : ByteArray → Ans
  | q26 => .val (.sc (.string q26)) []
theorem Fs_l7Digits_ok (a0_12 : Int) (r_ : ByteArray) (h_ : Fs_l7Digits a0_12 = some r_) : ev EE (.call 47 [.sc (.int .i64 a0_12)] []) = some (Fs_l7Digits_ans a0_12 r_) := by
  rw [ev_eq]
  simp only [Fs_l7Digits] at h_
  rcases bI h_ with ⟨h1_, h_⟩ | ⟨h1_, h_⟩
  · cases h_
    simp +decide [-getElem?_pos, ir47, eq_true h1_, Fs_l7Digits_ans]
  obtain ⟨r45, h2_, h_⟩ := bS_some h_
  have h2_f := Ls_l7Digits_0_ok FU a0_12 (decide (a0_12 < 0)) (⟨#[]⟩ : ByteArray) _ h2_
  try simp [Ls_l7Digits_0_ans] at h2_f
  rcases bI h_ with ⟨h3_, h_⟩ | ⟨h3_, h_⟩
  · try simp [h3_] at h2_f
    obtain ⟨s3, h4_, h_⟩ := cat_some h_
    cases h_
    simp +decide [-getElem?_pos, -Int.toNat_le, -Int.le_toNat, ir47, h1_, h2_f, h3_, h4_, Fs_l7Digits_ans]
  try simp [h3_] at h2_f
  cases h_
  simp +decide [-getElem?_pos, ir47, h1_, h2_f, h3_, Fs_l7Digits_ans]
/-- spec.l11Num -/
def Fs_l11Num (a0_11 : ByteArray) (a1_5 : Int) : Option (Int × ByteArray × Int × Int × Int × Bool) :=
  bS (Ls_l11Num_0 FU a0_11 a1_5 a1_5 0 0 (⟨#[]⟩ : ByteArray) 0 0) fun (r43, r44) =>
  if r44 ≤ 2147483647 then
    bS (Fs_l7Digits r44) fun r46 =>
    if 0 ≤ a1_5 then
    if 0 ≤ r43 then
    if a1_5.toNat ≤ r43.toNat ∧ r43.toNat ≤ a0_11.size then
    some (2, (⟨#[]⟩ : ByteArray), r44, a1_5, r43, (decide (r46 = (ByteArray.extract a0_11 a1_5.toNat r43.toNat))))
    else none
    else none
    else none
  else
    some (2, (⟨#[]⟩ : ByteArray), r44, a1_5, r43, false)
def Fs_l11Num_ans (a0_11 : ByteArray) (a1_5 : Int) : (Int × ByteArray × Int × Int × Int × Bool) → Ans
  | (q27, q28, q29, q30, q31, q32) => .val (.tu [.ag [.sc (.int .i64 q27), .sc (.string q28), .sc (.int .i64 q29), .sc (.int .i64 q30)], .sc (.int .i64 q31), .sc (.bool q32)]) []
theorem Fs_l11Num_ok (a0_11 : ByteArray) (a1_5 : Int) (r_ : (Int × ByteArray × Int × Int × Int × Bool)) (h_ : Fs_l11Num a0_11 a1_5 = some r_) : ev EE (.call 40 [.sc (.string a0_11), .sc (.int .i64 a1_5)] []) = some (Fs_l11Num_ans a0_11 a1_5 r_) := by
  rw [ev_eq]
  simp only [Fs_l11Num] at h_
  obtain ⟨⟨r43, r44⟩, h1_, h_⟩ := bS_some h_
  try dsimp only at h_
  have h1_f := Ls_l11Num_0_ok FU a0_11 a1_5 a1_5 0 0 (⟨#[]⟩ : ByteArray) 0 0 _ h1_
  try simp [Ls_l11Num_0_ans] at h1_f
  rcases bI h_ with ⟨h2_, h_⟩ | ⟨h2_, h_⟩
  · obtain ⟨r46, h3_, h_⟩ := bS_some h_
    have h3_f := Fs_l7Digits_ok r44 _ h3_
    try simp [Fs_l7Digits_ans] at h3_f
    obtain ⟨h4_, h_⟩ := bP h_
    obtain ⟨h5_, h_⟩ := bP h_
    obtain ⟨h6_, h_⟩ := bP h_
    cases h_
    simp +decide [-getElem?_pos, -Int.toNat_le, -Int.le_toNat, ir40, h1_f, h2_, h3_f, h4_, h5_, h6_, Fs_l11Num_ans]
  cases h_
  simp +decide [-getElem?_pos, ir40, h1_f, h2_, Fs_l11Num_ans]
def Ls_l11Text_0 : Nat → ByteArray → Int → Int → Int → ByteArray → Int → Int → Option Int
  | 0, _, _, _, _, _, _, _ => none
  | n_ + 1, t0_6, t1_3, t7_5, x0_27, x0_28, x0_29, x0_30 =>
  if t7_5 < (t0_6.size : Int) then
    bS (getB t0_6 t7_5) fun b5 =>
    if (b5.toNat : Int) = 34 then
      some t7_5
    else
    if 32 ≤ (b5.toNat : Int) then
      if (b5.toNat : Int) ≤ 126 then
        Ls_l11Text_0 n_ t0_6 t1_3 (IntKind.i64.wrap (t7_5 + 1)) x0_27 x0_28 x0_29 x0_30
      else
        some t7_5
    else
      some t7_5
  else
    some t7_5
def Ls_l11Text_0_ans (t0_6 : ByteArray) (t1_3 : Int) (t7_5 : Int) (x0_27 : Int) (x0_28 : ByteArray) (x0_29 : Int) (x0_30 : Int) : Int → Ans
  | t7_6 => .out (.exit 0) { np := 0, tm := [(0, .sc (.string t0_6)), (1, .sc (.int .i64 t1_3)), (4, .bx 0 0), (7, .sc (.int .i64 t7_6))], ar := [], bx := [(0, .b [.sc (.int .i64 x0_27), .sc (.string x0_28), .sc (.int .i64 x0_29), .sc (.int .i64 x0_30)])] }
theorem Ls_l11Text_0_ok : ∀ (n_ : Nat) (t0_6 : ByteArray) (t1_3 : Int) (t7_5 : Int) (x0_27 : Int) (x0_28 : ByteArray) (x0_29 : Int) (x0_30 : Int) (r_ : Int), Ls_l11Text_0 n_ t0_6 t1_3 t7_5 x0_27 x0_28 x0_29 x0_30 = some r_ → ev EE (.loop lp41_0 [0, 1, 4, 7] [0, 1, 4, 5, 6, 7] { np := 0, tm := [(0, .sc (.string t0_6)), (1, .sc (.int .i64 t1_3)), (4, .bx 0 0), (7, .sc (.int .i64 t7_5))], ar := [], bx := [(0, .b [.sc (.int .i64 x0_27), .sc (.string x0_28), .sc (.int .i64 x0_29), .sc (.int .i64 x0_30)])] }) = some (Ls_l11Text_0_ans t0_6 t1_3 t7_5 x0_27 x0_28 x0_29 x0_30 r_) := by
  intro n_
  induction n_ with
  | zero => intro t0_6 t1_3 t7_5 x0_27 x0_28 x0_29 x0_30 r_ h_; simp only [Ls_l11Text_0] at h_; cases h_
  | succ n_ ih_ =>
    intro t0_6 t1_3 t7_5 x0_27 x0_28 x0_29 x0_30 r_ h_
    rw [ev_loop EE lp41_0.eq_1]
    simp only [Ls_l11Text_0] at h_
    rcases bI h_ with ⟨h1_, h_⟩ | ⟨h1_, h_⟩
    · have h1_s := h1_; try simp at h1_s
      obtain ⟨b5, h3_, h_⟩ := bS_some h_
      obtain ⟨h3_a, h3_b, h3_c, h3_d⟩ := getB_some h3_
      try simp [-getElem?_pos] at h3_d
      rcases bI h_ with ⟨h7_, h_⟩ | ⟨h7_, h_⟩
      · have h7_s := h7_; try simp at h7_s
        cases h_
        simp +decide [-getElem?_pos, -Int.toNat_le, -Int.le_toNat, h1_, h1_s, h3_a, h3_b, h3_c, h3_d, eq_true h7_, eq_true h7_s, Ls_l11Text_0_ans]
      have h7_s := h7_; try simp at h7_s
      rcases bI h_ with ⟨h9_, h_⟩ | ⟨h9_, h_⟩
      · have h9_s := h9_; try simp at h9_s
        rcases bI h_ with ⟨h11_, h_⟩ | ⟨h11_, h_⟩
        · have h11_s := h11_; try simp at h11_s
          have q_ := ih_ t0_6 t1_3 (IntKind.i64.wrap (t7_5 + 1)) x0_27 x0_28 x0_29 x0_30 _ h_
          rcases r_ with t7_6
          all_goals (try simp [Ls_l11Text_0_ans] at q_)
          all_goals simp +decide [-getElem?_pos, -Int.toNat_le, -Int.le_toNat, h1_, h1_s, h3_a, h3_b, h3_c, h3_d, h7_, h7_s, h9_, h9_s, h11_, h11_s, q_, Ls_l11Text_0_ans]
        have h11_s := h11_; try simp at h11_s
        cases h_
        simp +decide [-getElem?_pos, -Int.toNat_le, -Int.le_toNat, h1_, h1_s, h3_a, h3_b, h3_c, h3_d, h7_, h7_s, h9_, h9_s, h11_, h11_s, Ls_l11Text_0_ans]
      have h9_s := h9_; try simp at h9_s
      cases h_
      simp +decide [-getElem?_pos, h1_, h1_s, h3_a, h3_b, h3_c, h3_d, h7_, h7_s, h9_, h9_s, Ls_l11Text_0_ans]
    have h1_s := h1_; try simp at h1_s
    cases h_
    simp +decide [-getElem?_pos, h1_, h1_s, Ls_l11Text_0_ans]
end Go.Pv

namespace Go.Pv
set_option maxRecDepth 100000
set_option maxHeartbeats 40000000
set_option linter.unusedSimpArgs false
set_option linter.unusedVariables false
/-- spec.l11Text -/
def Fs_l11Text (a0_13 : ByteArray) (a1_6 : Int) : Option (Int × ByteArray × Int × Int × Int × Bool) :=
  bS (Ls_l11Text_0 FU a0_13 a1_6 (IntKind.i64.wrap (a1_6 + 1)) 0 (⟨#[]⟩ : ByteArray) 0 0) fun r53 =>
  if (a0_13.size : Int) ≤ r53 then
    some (0, (⟨#[]⟩ : ByteArray), 0, 0, a1_6, false)
  else
  bS (getB a0_13 r53) fun b6 =>
  if (b6.toNat : Int) = 34 then
    if 30 < IntKind.i64.wrap ((IntKind.i64.wrap (r53 - a1_6)) - 1) then
      some (0, (⟨#[]⟩ : ByteArray), 0, 0, a1_6, false)
    else
    if 0 ≤ IntKind.i64.wrap (a1_6 + 1) then
    if 0 ≤ r53 then
    if (IntKind.i64.wrap (a1_6 + 1)).toNat ≤ r53.toNat ∧ r53.toNat ≤ a0_13.size then
    some (3, ByteArray.extract a0_13 ((IntKind.i64.wrap (a1_6 + 1)).toNat) r53.toNat, 0, a1_6, IntKind.i64.wrap (r53 + 1), true)
    else none
    else none
    else none
  else
    some (0, (⟨#[]⟩ : ByteArray), 0, 0, a1_6, false)
def Fs_l11Text_ans (a0_13 : ByteArray) (a1_6 : Int) : (Int × ByteArray × Int × Int × Int × Bool) → Ans
  | (q33, q34, q35, q36, q37, q38) => .val (.tu [.ag [.sc (.int .i64 q33), .sc (.string q34), .sc (.int .i64 q35), .sc (.int .i64 q36)], .sc (.int .i64 q37), .sc (.bool q38)]) []
theorem Fs_l11Text_ok (a0_13 : ByteArray) (a1_6 : Int) (r_ : (Int × ByteArray × Int × Int × Int × Bool)) (h_ : Fs_l11Text a0_13 a1_6 = some r_) : ev EE (.call 41 [.sc (.string a0_13), .sc (.int .i64 a1_6)] []) = some (Fs_l11Text_ans a0_13 a1_6 r_) := by
  rw [ev_eq]
  simp only [Fs_l11Text] at h_
  obtain ⟨r53, h1_, h_⟩ := bS_some h_
  have h1_f := Ls_l11Text_0_ok FU a0_13 a1_6 (IntKind.i64.wrap (a1_6 + 1)) 0 (⟨#[]⟩ : ByteArray) 0 0 _ h1_
  try simp [Ls_l11Text_0_ans] at h1_f
  rcases bI h_ with ⟨h2_, h_⟩ | ⟨h2_, h_⟩
  · have h2_s := h2_; try simp at h2_s
    cases h_
    simp +decide [-getElem?_pos, ir41, h1_f, h2_, h2_s, Fs_l11Text_ans]
  have h2_s := h2_; try simp at h2_s
  obtain ⟨b6, h4_, h_⟩ := bS_some h_
  obtain ⟨h4_a, h4_b, h4_c, h4_d⟩ := getB_some h4_
  try simp [-getElem?_pos] at h4_d
  rcases bI h_ with ⟨h8_, h_⟩ | ⟨h8_, h_⟩
  · have h8_s := h8_; try simp at h8_s
    rcases bI h_ with ⟨h10_, h_⟩ | ⟨h10_, h_⟩
    · cases h_
      simp +decide [-getElem?_pos, -Int.toNat_le, -Int.le_toNat, ir41, h1_f, h2_, h2_s, h4_a, h4_b, h4_c, h4_d, eq_true h8_, eq_true h8_s, h10_, Fs_l11Text_ans]
    obtain ⟨h11_, h_⟩ := bP h_
    obtain ⟨h12_, h_⟩ := bP h_
    obtain ⟨h13_, h_⟩ := bP h_
    cases h_
    simp +decide [-getElem?_pos, -Int.toNat_le, -Int.le_toNat, ir41, h1_f, h2_, h2_s, h4_a, h4_b, h4_c, h4_d, eq_true h8_, eq_true h8_s, h10_, h11_, h12_, h13_, Fs_l11Text_ans]
  have h8_s := h8_; try simp at h8_s
  cases h_
  simp +decide [-getElem?_pos, ir41, h1_f, h2_, h2_s, h4_a, h4_b, h4_c, h4_d, h8_, h8_s, Fs_l11Text_ans]
def Ls_l11Sign_0 : Nat → ByteArray → Int → ByteArray → Int → Option (ByteArray ⊕ Unit)
  | 0, _, _, _, _ => none
  | n_ + 1, t0_7, t1_4, t5_2, t6_1 =>
  if t6_1 < (t5_2.size : Int) then
    bS (getB t5_2 t6_1) fun b9 =>
    bS (getB t0_7 t1_4) fun b10 =>
    if (b9.toNat : Int) = (b10.toNat : Int) then
      if 0 ≤ t1_4 then
      if 0 ≤ IntKind.i64.wrap (t1_4 + 1) then
      if t1_4.toNat ≤ (IntKind.i64.wrap (t1_4 + 1)).toNat ∧ (IntKind.i64.wrap (t1_4 + 1)).toNat ≤ t0_7.size then
      some (.inl (ByteArray.extract t0_7 t1_4.toNat ((IntKind.i64.wrap (t1_4 + 1)).toNat)))
      else none
      else none
      else none
    else
      Ls_l11Sign_0 n_ t0_7 t1_4 t5_2 (IntKind.i64.wrap (t6_1 + 1))
  else
    some (.inr ())
def Ls_l11Sign_0_ans (t0_7 : ByteArray) (t1_4 : Int) (t5_2 : ByteArray) (t6_1 : Int) : ByteArray ⊕ Unit → Ans
  | .inl t4_5 => .out .ret { np := 0, tm := [(4, .sc (.string t4_5))], ar := [], bx := [] }
  | .inr _ => .out (.exit 0) { np := 0, tm := [], ar := [], bx := [] }
theorem Ls_l11Sign_0_ok : ∀ (n_ : Nat) (t0_7 : ByteArray) (t1_4 : Int) (t5_2 : ByteArray) (t6_1 : Int) (r_ : ByteArray ⊕ Unit), Ls_l11Sign_0 n_ t0_7 t1_4 t5_2 t6_1 = some r_ → ev EE (.loop lp42_0 [0, 1, 5, 6] [4] { np := 0, tm := [(0, .sc (.string t0_7)), (1, .sc (.int .i64 t1_4)), (5, .sc (.string t5_2)), (6, .sc (.int .i64 t6_1))], ar := [], bx := [] }) = some (Ls_l11Sign_0_ans t0_7 t1_4 t5_2 t6_1 r_) := by
  intro n_
  induction n_ with
  | zero => intro t0_7 t1_4 t5_2 t6_1 r_ h_; simp only [Ls_l11Sign_0] at h_; cases h_
  | succ n_ ih_ =>
    intro t0_7 t1_4 t5_2 t6_1 r_ h_
    rw [ev_loop EE lp42_0.eq_1]
    simp only [Ls_l11Sign_0] at h_
    rcases bI h_ with ⟨h1_, h_⟩ | ⟨h1_, h_⟩
    · have h1_s := h1_; try simp at h1_s
      obtain ⟨b9, h3_, h_⟩ := bS_some h_
      obtain ⟨h3_a, h3_b, h3_c, h3_d⟩ := getB_some h3_
      try simp [-getElem?_pos] at h3_d
      obtain ⟨b10, h7_, h_⟩ := bS_some h_
      obtain ⟨h7_a, h7_b, h7_c, h7_d⟩ := getB_some h7_
      try simp [-getElem?_pos] at h7_d
      rcases bI h_ with ⟨h11_, h_⟩ | ⟨h11_, h_⟩
      · have h11_s := h11_; try simp at h11_s
        obtain ⟨h13_, h_⟩ := bP h_
        obtain ⟨h14_, h_⟩ := bP h_
        obtain ⟨h15_, h_⟩ := bP h_
        cases h_
        simp +decide [-getElem?_pos, -Int.toNat_le, -Int.le_toNat, h1_, h1_s, h3_a, h3_b, h3_c, h3_d, h7_a, h7_b, h7_c, h7_d, eq_true h11_, eq_true h11_s, h13_, h14_, h15_, Ls_l11Sign_0_ans]
      have h11_s := h11_; try simp at h11_s
      have q_ := ih_ t0_7 t1_4 t5_2 (IntKind.i64.wrap (t6_1 + 1)) _ h_
      rcases r_ with t4_5 | _
      all_goals (try simp [Ls_l11Sign_0_ans] at q_)
      all_goals simp +decide [-getElem?_pos, h1_, h1_s, h3_a, h3_b, h3_c, h3_d, h7_a, h7_b, h7_c, h7_d, h11_, h11_s, q_, Ls_l11Sign_0_ans]
    have h1_s := h1_; try simp at h1_s
    cases h_
    simp +decide [-getElem?_pos, h1_, h1_s, Ls_l11Sign_0_ans]
/-- spec.l11Sign -/
def Fs_l11Sign (a0_14 : ByteArray) (a1_7 : Int) : Option ByteArray :=
  bS (getB a0_14 a1_7) fun b7 =>
  if (b7.toNat : Int) = 61 then
    if IntKind.i64.wrap (a1_7 + 1) < (a0_14.size : Int) then
      bS (getB a0_14 (IntKind.i64.wrap (a1_7 + 1))) fun b8 =>
      if (b8.toNat : Int) = 61 then
        some (⟨#[61, 61]⟩ : ByteArray)
      else
      bS (Ls_l11Sign_0 FU a0_14 a1_7 (⟨#[40, 41, 123, 125, 44, 59, 58, 46, 61, 43, 45, 42, 60, 33]⟩ : ByteArray) 0) fun r_ => match r_ with
      | .inl r60 =>
        some r60
      | .inr () =>
        some (⟨#[]⟩ : ByteArray)
    else
    bS (Ls_l11Sign_0 FU a0_14 a1_7 (⟨#[40, 41, 123, 125, 44, 59, 58, 46, 61, 43, 45, 42, 60, 33]⟩ : ByteArray) 0) fun r_ => match r_ with
    | .inl r61 =>
      some r61
    | .inr () =>
      some (⟨#[]⟩ : ByteArray)
  else
  bS (Ls_l11Sign_0 FU a0_14 a1_7 (⟨#[40, 41, 123, 125, 44, 59, 58, 46, 61, 43, 45, 42, 60, 33]⟩ : ByteArray) 0) fun r_ => match r_ with
  | .inl r62 =>
    some r62
  | .inr () =>
    some (⟨#[]⟩ : ByteArray)
def Fs_l11Sign_ans (a0_14 : ByteArray) (a1_7 : Int) : ByteArray → Ans
  | q39 => .val (.sc (.string q39)) []
theorem Fs_l11Sign_ok (a0_14 : ByteArray) (a1_7 : Int) (r_ : ByteArray) (h_ : Fs_l11Sign a0_14 a1_7 = some r_) : ev EE (.call 42 [.sc (.string a0_14), .sc (.int .i64 a1_7)] []) = some (Fs_l11Sign_ans a0_14 a1_7 r_) := by
  rw [ev_eq]
  simp only [Fs_l11Sign] at h_
  obtain ⟨b7, h1_, h_⟩ := bS_some h_
  obtain ⟨h1_a, h1_b, h1_c, h1_d⟩ := getB_some h1_
  try simp [-getElem?_pos] at h1_d
  rcases bI h_ with ⟨h5_, h_⟩ | ⟨h5_, h_⟩
  · have h5_s := h5_; try simp at h5_s
    rcases bI h_ with ⟨h7_, h_⟩ | ⟨h7_, h_⟩
    · have h7_s := h7_; try simp at h7_s
      obtain ⟨b8, h9_, h_⟩ := bS_some h_
      obtain ⟨h9_a, h9_b, h9_c, h9_d⟩ := getB_some h9_
      try simp [-getElem?_pos] at h9_d
      rcases bI h_ with ⟨h13_, h_⟩ | ⟨h13_, h_⟩
      · have h13_s := h13_; try simp at h13_s
        cases h_
        simp +decide [-getElem?_pos, -Int.toNat_le, -Int.le_toNat, ir42, h1_a, h1_b, h1_c, h1_d, eq_true h5_, eq_true h5_s, h7_, h7_s, h9_a, h9_b, h9_c, h9_d, eq_true h13_, eq_true h13_s, Fs_l11Sign_ans]
      have h13_s := h13_; try simp at h13_s
      obtain ⟨r_14, h15_, h_⟩ := bS_some h_
      have h15_f := Ls_l11Sign_0_ok FU a0_14 a1_7 (⟨#[40, 41, 123, 125, 44, 59, 58, 46, 61, 43, 45, 42, 60, 33]⟩ : ByteArray) 0 _ h15_
      rcases r_14 with r60 | _
      · try dsimp only at h_
        try simp [Ls_l11Sign_0_ans] at h15_f
        cases h_
        simp +decide [-getElem?_pos, -Int.toNat_le, -Int.le_toNat, ir42, h1_a, h1_b, h1_c, h1_d, eq_true h5_, eq_true h5_s, h7_, h7_s, h9_a, h9_b, h9_c, h9_d, h13_, h13_s, h15_f, Fs_l11Sign_ans]
      · try dsimp only at h_
        try simp [Ls_l11Sign_0_ans] at h15_f
        cases h_
        simp +decide [-getElem?_pos, -Int.toNat_le, -Int.le_toNat, ir42, h1_a, h1_b, h1_c, h1_d, eq_true h5_, eq_true h5_s, h7_, h7_s, h9_a, h9_b, h9_c, h9_d, h13_, h13_s, h15_f, Fs_l11Sign_ans]
    have h7_s := h7_; try simp at h7_s
    obtain ⟨r_8, h9_, h_⟩ := bS_some h_
    have h9_f := Ls_l11Sign_0_ok FU a0_14 a1_7 (⟨#[40, 41, 123, 125, 44, 59, 58, 46, 61, 43, 45, 42, 60, 33]⟩ : ByteArray) 0 _ h9_
    rcases r_8 with r61 | _
    · try dsimp only at h_
      try simp [Ls_l11Sign_0_ans] at h9_f
      cases h_
      simp +decide [-getElem?_pos, -Int.toNat_le, -Int.le_toNat, ir42, h1_a, h1_b, h1_c, h1_d, eq_true h5_, eq_true h5_s, h7_, h7_s, h9_f, Fs_l11Sign_ans]
    · try dsimp only at h_
      try simp [Ls_l11Sign_0_ans] at h9_f
      cases h_
      simp +decide [-getElem?_pos, -Int.toNat_le, -Int.le_toNat, ir42, h1_a, h1_b, h1_c, h1_d, eq_true h5_, eq_true h5_s, h7_, h7_s, h9_f, Fs_l11Sign_ans]
  have h5_s := h5_; try simp at h5_s
  obtain ⟨r_6, h7_, h_⟩ := bS_some h_
  have h7_f := Ls_l11Sign_0_ok FU a0_14 a1_7 (⟨#[40, 41, 123, 125, 44, 59, 58, 46, 61, 43, 45, 42, 60, 33]⟩ : ByteArray) 0 _ h7_
  rcases r_6 with r62 | _
  · try dsimp only at h_
    try simp [Ls_l11Sign_0_ans] at h7_f
    cases h_
    simp +decide [-getElem?_pos, ir42, h1_a, h1_b, h1_c, h1_d, h5_, h5_s, h7_f, Fs_l11Sign_ans]
  · try dsimp only at h_
    try simp [Ls_l11Sign_0_ans] at h7_f
    cases h_
    simp +decide [-getElem?_pos, ir42, h1_a, h1_b, h1_c, h1_d, h5_, h5_s, h7_f, Fs_l11Sign_ans]
/-- spec.l11One -/
def Fs_l11One (a0_7 : ByteArray) (a1_3 : Int) : Option (Int × ByteArray × Int × Int × Int × Bool) :=
  bS (getB a0_7 a1_3) fun b2 =>
  bS (Fs_l11Letter (b2.toNat : Int)) fun r31 =>
  if r31 = true then
    bS (Fs_l11Name a0_7 a1_3) fun (r35, r36, r37, r38, r39, r40) =>
    some (r35, r36, r37, r38, r39, r40)
  else
  bS (Fs_l11Digit (b2.toNat : Int)) fun r41 =>
  if r41 = true then
    bS (Fs_l11Num a0_7 a1_3) fun (r47, r48, r49, r50, r51, r52) =>
    some (r47, r48, r49, r50, r51, r52)
  else
  if (b2.toNat : Int) = 34 then
    bS (Fs_l11Text a0_7 a1_3) fun (r54, r55, r56, r57, r58, r59) =>
    some (r54, r55, r56, r57, r58, r59)
  else
  bS (Fs_l11Sign a0_7 a1_3) fun r63 =>
  some (4, r63, 0, a1_3, IntKind.i64.wrap (a1_3 + (r63.size : Int)), (!(decide (r63 = (⟨#[]⟩ : ByteArray)))))
def Fs_l11One_ans (a0_7 : ByteArray) (a1_3 : Int) : (Int × ByteArray × Int × Int × Int × Bool) → Ans
  | (q40, q41, q42, q43, q44, q45) => .val (.tu [.ag [.sc (.int .i64 q40), .sc (.string q41), .sc (.int .i64 q42), .sc (.int .i64 q43)], .sc (.int .i64 q44), .sc (.bool q45)]) []
theorem Fs_l11One_ok (a0_7 : ByteArray) (a1_3 : Int) (r_ : (Int × ByteArray × Int × Int × Int × Bool)) (h_ : Fs_l11One a0_7 a1_3 = some r_) : ev EE (.call 27 [.sc (.string a0_7), .sc (.int .i64 a1_3)] []) = some (Fs_l11One_ans a0_7 a1_3 r_) := by
  rw [ev_eq]
  simp only [Fs_l11One] at h_
  obtain ⟨b2, h1_, h_⟩ := bS_some h_
  obtain ⟨h1_a, h1_b, h1_c, h1_d⟩ := getB_some h1_
  try simp [-getElem?_pos] at h1_d
  obtain ⟨r31, h5_, h_⟩ := bS_some h_
  have h5_f := Fs_l11Letter_ok (b2.toNat : Int) _ h5_
  try simp [Fs_l11Letter_ans] at h5_f
  rcases bI h_ with ⟨h6_, h_⟩ | ⟨h6_, h_⟩
  · obtain ⟨⟨r35, r36, r37, r38, r39, r40⟩, h7_, h_⟩ := bS_some h_
    try dsimp only at h_
    have h7_f := Fs_l11Name_ok a0_7 a1_3 _ h7_
    try simp [Fs_l11Name_ans] at h7_f
    cases h_
    simp +decide [-getElem?_pos, ir27, h1_a, h1_b, h1_c, h1_d, h5_f, h6_, h7_f, Fs_l11One_ans]
  obtain ⟨r41, h7_, h_⟩ := bS_some h_
  have h7_f := Fs_l11Digit_ok (b2.toNat : Int) _ h7_
  try simp [Fs_l11Digit_ans] at h7_f
  rcases bI h_ with ⟨h8_, h_⟩ | ⟨h8_, h_⟩
  · obtain ⟨⟨r47, r48, r49, r50, r51, r52⟩, h9_, h_⟩ := bS_some h_
    try dsimp only at h_
    have h9_f := Fs_l11Num_ok a0_7 a1_3 _ h9_
    try simp [Fs_l11Num_ans] at h9_f
    cases h_
    simp +decide [-getElem?_pos, ir27, h1_a, h1_b, h1_c, h1_d, h5_f, h6_, h7_f, h8_, h9_f, Fs_l11One_ans]
  rcases bI h_ with ⟨h9_, h_⟩ | ⟨h9_, h_⟩
  · have h9_s := h9_; try simp at h9_s
    obtain ⟨⟨r54, r55, r56, r57, r58, r59⟩, h11_, h_⟩ := bS_some h_
    try dsimp only at h_
    have h11_f := Fs_l11Text_ok a0_7 a1_3 _ h11_
    try simp [Fs_l11Text_ans] at h11_f
    cases h_
    simp +decide [-getElem?_pos, -Int.toNat_le, -Int.le_toNat, ir27, h1_a, h1_b, h1_c, h1_d, h5_f, h6_, h7_f, h8_, eq_true h9_, eq_true h9_s, h11_f, Fs_l11One_ans]
  have h9_s := h9_; try simp at h9_s
  obtain ⟨r63, h11_, h_⟩ := bS_some h_
  have h11_f := Fs_l11Sign_ok a0_7 a1_3 _ h11_
  try simp [Fs_l11Sign_ans] at h11_f
  cases h_
  simp +decide [-getElem?_pos, ir27, h1_a, h1_b, h1_c, h1_d, h5_f, h6_, h7_f, h8_, h9_, h9_s, h11_f, Fs_l11One_ans]
def Ls_Tokens_0 : Nat → ByteArray → (List T_Token) → Int → Option (((List T_Token) × Int × (List T_Token)) ⊕ (List T_Token))
  | 0, _, _, _ => none
  | n_ + 1, t0_2, t4_2, t5_1 =>
  if t5_1 < (t0_2.size : Int) then
    bS (getB t0_2 t5_1) fun b1 =>
    if (b1.toNat : Int) = 32 then
      Ls_Tokens_0 n_ t0_2 t4_2 (IntKind.i64.wrap (t5_1 + 1))
    else
    if (b1.toNat : Int) = 10 then
      Ls_Tokens_0 n_ t0_2 t4_2 (IntKind.i64.wrap (t5_1 + 1))
    else
    bS (Fs_l11One t0_2 t5_1) fun (r64, r65, r66, r67, r68, r69) =>
    if r69 = true then
      if lim (t4_2.length + 1) 40 = true then
      Ls_Tokens_0 n_ t0_2 (t4_2 ++ [(⟨r64, r65, r66, r67⟩ : T_Token)]) r68
      else none
    else
      some (.inl ([], t5_1, t4_2))
  else
    some (.inr t4_2)
def Ls_Tokens_0_ans (t0_2 : ByteArray) (t4_2 : List T_Token) (t5_1 : Int) : ((List T_Token) × Int × (List T_Token)) ⊕ (List T_Token) → Ans
  | .inl (t2_1, t3_4, t4_6) => .out .ret { np := 0, tm := [(0, .sc (.string t0_2)), (2, .rf 0 0 t2_1.length), (3, .sc (.int .i64 t3_4)), (4, .rf 1 0 t4_6.length)], ar := [(0, .a false (r_Token t2_1)), (1, .a false (r_Token t4_6))], bx := [] }
  | .inr t4_7 => .out (.exit 0) { np := 0, tm := [(0, .sc (.string t0_2)), (4, .rf 0 0 t4_7.length)], ar := [(0, .a false (r_Token t4_7))], bx := [] }
theorem Ls_Tokens_0_ok : ∀ (n_ : Nat) (t0_2 : ByteArray) (t4_2 : List T_Token) (t5_1 : Int) (r_ : ((List T_Token) × Int × (List T_Token)) ⊕ (List T_Token)), Ls_Tokens_0 n_ t0_2 t4_2 t5_1 = some r_ → ev EE (.loop lp23_0 [0, 4, 5] [0, 2, 3, 4] { np := 0, tm := [(0, .sc (.string t0_2)), (4, .rf 0 0 t4_2.length), (5, .sc (.int .i64 t5_1))], ar := [(0, .a false (r_Token t4_2))], bx := [] }) = some (Ls_Tokens_0_ans t0_2 t4_2 t5_1 r_) := by
  intro n_
  induction n_ with
  | zero => intro t0_2 t4_2 t5_1 r_ h_; simp only [Ls_Tokens_0] at h_; cases h_
  | succ n_ ih_ =>
    intro t0_2 t4_2 t5_1 r_ h_
    rw [ev_loop EE lp23_0.eq_1]
    simp only [Ls_Tokens_0] at h_
    rcases bI h_ with ⟨h1_, h_⟩ | ⟨h1_, h_⟩
    · have h1_s := h1_; try simp at h1_s
      obtain ⟨b1, h3_, h_⟩ := bS_some h_
      obtain ⟨h3_a, h3_b, h3_c, h3_d⟩ := getB_some h3_
      try simp [-getElem?_pos] at h3_d
      rcases bI h_ with ⟨h7_, h_⟩ | ⟨h7_, h_⟩
      · have h7_s := h7_; try simp at h7_s
        have q_ := ih_ t0_2 t4_2 (IntKind.i64.wrap (t5_1 + 1)) _ h_
        rcases r_ with ⟨t2_1, t3_4, t4_6⟩ | t4_7
        all_goals (try simp [Ls_Tokens_0_ans] at q_)
        all_goals simp +decide [-getElem?_pos, -Int.toNat_le, -Int.le_toNat, h1_, h1_s, h3_a, h3_b, h3_c, h3_d, eq_true h7_, eq_true h7_s, q_, Ls_Tokens_0_ans]
      have h7_s := h7_; try simp at h7_s
      rcases bI h_ with ⟨h9_, h_⟩ | ⟨h9_, h_⟩
      · have h9_s := h9_; try simp at h9_s
        have q_ := ih_ t0_2 t4_2 (IntKind.i64.wrap (t5_1 + 1)) _ h_
        rcases r_ with ⟨t2_1, t3_4, t4_6⟩ | t4_7
        all_goals (try simp [Ls_Tokens_0_ans] at q_)
        all_goals simp +decide [-getElem?_pos, -Int.toNat_le, -Int.le_toNat, h1_, h1_s, h3_a, h3_b, h3_c, h3_d, h7_, h7_s, eq_true h9_, eq_true h9_s, q_, Ls_Tokens_0_ans]
      have h9_s := h9_; try simp at h9_s
      obtain ⟨⟨r64, r65, r66, r67, r68, r69⟩, h11_, h_⟩ := bS_some h_
      try dsimp only at h_
      have h11_f := Fs_l11One_ok t0_2 t5_1 _ h11_
      try simp [Fs_l11One_ans] at h11_f
      rcases bI h_ with ⟨h12_, h_⟩ | ⟨h12_, h_⟩
      · obtain ⟨h13_, h_⟩ := bP h_
        have q_ := ih_ t0_2 (t4_2 ++ [(⟨r64, r65, r66, r67⟩ : T_Token)]) r68 _ h_
        rcases r_ with ⟨t2_1, t3_4, t4_6⟩ | t4_7
        all_goals (try simp [Ls_Tokens_0_ans] at q_)
        all_goals simp +decide [-getElem?_pos, h1_, h1_s, h3_a, h3_b, h3_c, h3_d, h7_, h7_s, h9_, h9_s, h11_f, h12_, h13_, q_, Ls_Tokens_0_ans]
      cases h_
      simp +decide [-getElem?_pos, h1_, h1_s, h3_a, h3_b, h3_c, h3_d, h7_, h7_s, h9_, h9_s, h11_f, h12_, Ls_Tokens_0_ans]
    have h1_s := h1_; try simp at h1_s
    cases h_
    simp +decide [-getElem?_pos, h1_, h1_s, Ls_Tokens_0_ans]
/-- spec.Tokens -/
def Fs_Tokens (a0_6 : ByteArray) : Option ((List T_Token) × Int) :=
  if 800 < (a0_6.size : Int) then
    some ([], 0)
  else
  bS (Ls_Tokens_0 FU a0_6 [] 0) fun r_ => match r_ with
  | .inl (r70, r71, r72) =>
    some (r70, r71)
  | .inr r73 =>
    if lim (r73.length + 1) 40 = true then
    some (r73 ++ ([(⟨0, (⟨#[]⟩ : ByteArray), 0, (a0_6.size : Int)⟩ : T_Token)]), (-1))
    else none
def Fs_Tokens_ans (a0_6 : ByteArray) : ((List T_Token) × Int) → Ans
  | (q46, q47) => .val (.tu [.ls true (r_Token q46), .sc (.int .i64 q47)]) []
theorem Fs_Tokens_ok (a0_6 : ByteArray) (r_ : ((List T_Token) × Int)) (h_ : Fs_Tokens a0_6 = some r_) : ev EE (.call 23 [.sc (.string a0_6)] []) = some (Fs_Tokens_ans a0_6 r_) := by
  rw [ev_eq]
  simp only [Fs_Tokens] at h_
  rcases bI h_ with ⟨h1_, h_⟩ | ⟨h1_, h_⟩
  · have h1_s := h1_; try simp at h1_s
    cases h_
    simp +decide [-getElem?_pos, ir23, h1_, h1_s, Fs_Tokens_ans]
  have h1_s := h1_; try simp at h1_s
  obtain ⟨r_2, h3_, h_⟩ := bS_some h_
  have h3_f := Ls_Tokens_0_ok FU a0_6 [] 0 _ h3_
  rcases r_2 with ⟨r70, r71, r72⟩ | r73
  · try dsimp only at h_
    try simp [Ls_Tokens_0_ans] at h3_f
    cases h_
    simp +decide [-getElem?_pos, ir23, h1_, h1_s, h3_f, Fs_Tokens_ans]
  · try dsimp only at h_
    try simp [Ls_Tokens_0_ans] at h3_f
    obtain ⟨h4_, h_⟩ := bP h_
    cases h_
    simp +decide [-getElem?_pos, ir23, h1_, h1_s, h3_f, h4_, Fs_Tokens_ans]
structure T_Node where
  op_ : Int
  s_ : ByteArray
  n_ : Int
  kids_ : List T_Node
mutual
def e_Node (o : Bool) : T_Node → List V
  | ⟨c0, c1, c2, c3⟩ => [.sc (.int .i64 c0), .sc (.string c1), .sc (.int .i64 c2), .ls o (r_Node o c3)]
def r_Node (o : Bool) : List T_Node → List (List V)
  | [] => []
  | x :: l => e_Node o x :: r_Node o l
end
theorem r_Node_map {o : Bool} (xs : List T_Node) : r_Node o xs = xs.map (e_Node o) := by
  induction xs with
  | nil => rfl
  | cons x l ih => simp [r_Node, ih]
theorem e_Node_eq {o : Bool} (x : T_Node) : e_Node o x = [.sc (.int .i64 x.op_), .sc (.string x.s_), .sc (.int .i64 x.n_), .ls o (r_Node o x.kids_)] := by cases x; simp [e_Node]
@[simp] theorem r_Node_nil {o : Bool} : r_Node o [] = [] := nr rfl
@[simp] theorem r_Node_len {o : Bool} (xs : List T_Node) : (r_Node o xs).length = xs.length := by simp [r_Node_map]
@[simp] theorem r_Node_all {o : Bool} (xs : List T_Node) : allLen 4 (r_Node o xs) = true := by simp [r_Node_map, allLen, e_Node_eq]
@[simp] theorem r_Node_emp {o : Bool} (xs : List T_Node) : (r_Node o xs).isEmpty = xs.isEmpty := by cases xs <;> rfl
@[simp] theorem r_Node_app {o : Bool} (xs ys : List T_Node) : r_Node o xs ++ r_Node o ys = r_Node o (xs ++ ys) := by simp [r_Node_map]
@[simp] theorem r_Node_app1 {o : Bool} (xs : List T_Node) (c0 : Int) (c1 : ByteArray) (c2 : Int) (c3 : List T_Node) : r_Node o xs ++ [[V.sc (.int .i64 c0), V.sc (.string c1), V.sc (.int .i64 c2), V.ls o (r_Node o c3)]] = r_Node o (xs ++ [⟨c0, c1, c2, c3⟩]) := by simp [r_Node_map, e_Node_eq]
@[simp] theorem r_Node_one {o : Bool} (c0 : Int) (c1 : ByteArray) (c2 : Int) (c3 : List T_Node) : [[V.sc (.int .i64 c0), V.sc (.string c1), V.sc (.int .i64 c2), V.ls o (r_Node o c3)]] = r_Node o [⟨c0, c1, c2, c3⟩] := by simp [r_Node_map, e_Node_eq]
@[simp] theorem r_Node_cons {o : Bool} (c0 : Int) (c1 : ByteArray) (c2 : Int) (c3 : List T_Node) (l : List T_Node) : [V.sc (.int .i64 c0), V.sc (.string c1), V.sc (.int .i64 c2), V.ls o (r_Node o c3)] :: r_Node o l = r_Node o (⟨c0, c1, c2, c3⟩ :: l) := by simp [r_Node_map, e_Node_eq]
@[simp] theorem r_Node_onez {o : Bool} (c0 : Int) (c1 : ByteArray) (c2 : Int) : [[V.sc (.int .i64 c0), V.sc (.string c1), V.sc (.int .i64 c2), V.ls o []]] = r_Node o [⟨c0, c1, c2, []⟩] := r_Node_one (o := o) c0 c1 c2 []
@[simp] theorem r_Node_app1z {o : Bool} (xs : List T_Node) (c0 : Int) (c1 : ByteArray) (c2 : Int) : r_Node o xs ++ [[V.sc (.int .i64 c0), V.sc (.string c1), V.sc (.int .i64 c2), V.ls o []]] = r_Node o (xs ++ [⟨c0, c1, c2, []⟩]) := r_Node_app1 (o := o) xs c0 c1 c2 []
@[simp] theorem r_Node_set {o : Bool} (xs : List T_Node) (i : Nat) (c0 : Int) (c1 : ByteArray) (c2 : Int) (c3 : List T_Node) : (r_Node o xs).set i [V.sc (.int .i64 c0), V.sc (.string c1), V.sc (.int .i64 c2), V.ls o (r_Node o c3)] = r_Node o (xs.set i ⟨c0, c1, c2, c3⟩) := by simp [r_Node_map, e_Node_eq, List.map_set]
@[simp] theorem r_Node_setz {o : Bool} (xs : List T_Node) (i : Nat) (c0 : Int) (c1 : ByteArray) (c2 : Int) : (r_Node o xs).set i [V.sc (.int .i64 c0), V.sc (.string c1), V.sc (.int .i64 c2), V.ls o []] = r_Node o (xs.set i ⟨c0, c1, c2, []⟩) := r_Node_set (o := o) xs i c0 c1 c2 []
@[simp] theorem r_Node_clo {o : Bool} {α : Type} (xs : List T_Node) (k : List (List V) → M α) : cloLs (r_Node o xs) k = k (r_Node o xs) := by
  refine cloLs_cl _ _ (fun r hr v hv => ?_)
  rw [r_Node_map] at hr
  obtain ⟨x, _, rfl⟩ := List.mem_map.1 hr
  simp only [e_Node_eq, List.mem_cons, List.not_mem_nil, or_false] at hv
  rcases hv with rfl | rfl | rfl | rfl
  all_goals first | exact .inl ⟨_, rfl⟩ | exact .inr ⟨_, _, rfl⟩
@[simp] theorem r_Node_rfs {o : Bool} (xs : List T_Node) : rfsX (r_Node o xs) = [] := by
  refine rfsX_cl _ (fun r hr v hv => ?_)
  rw [r_Node_map] at hr
  obtain ⟨x, _, rfl⟩ := List.mem_map.1 hr
  simp only [e_Node_eq, List.mem_cons, List.not_mem_nil, or_false] at hv
  rcases hv with rfl | rfl | rfl | rfl
  all_goals first | exact .inl ⟨_, rfl⟩ | exact .inr ⟨_, _, rfl⟩
@[simp] theorem r_Node_fill {o : Bool} (xs : List T_Node) (s : St) : fillXS (r_Node o xs) s = some (r_Node o xs, s) := by
  refine fillXS_cl _ s (fun r hr v hv => ?_)
  rw [r_Node_map] at hr
  obtain ⟨x, _, rfl⟩ := List.mem_map.1 hr
  simp only [e_Node_eq, List.mem_cons, List.not_mem_nil, or_false] at hv
  rcases hv with rfl | rfl | rfl | rfl
  all_goals first | exact .inl ⟨_, rfl⟩ | exact .inr ⟨_, _, rfl⟩
@[simp] theorem r_Node_mem {o : Bool} (xs : List T_Node) : (∀ x : List V, x ∈ r_Node o xs → x.length = 4) = True := eq_true (allLen_mem (r_Node_all xs))
@[simp] theorem r_Node_sub {o : Bool} (xs : List T_Node) (a n : Nat) : sub (r_Node o xs) a n = r_Node o ((xs.drop a).take n) := by simp [sub, r_Node_map, List.map_drop, List.map_take]
@[simp] theorem r_Node_rep (n : Nat) : List.replicate n [V.sc (.int .i64 0), V.sc (.string ⟨#[]⟩), V.sc (.int .i64 0), V.ls true []] = r_Node true (List.replicate n ⟨0, ⟨#[]⟩, 0, []⟩) := by simp [r_Node_map, e_Node_eq]
mutual
theorem e_Node_frz (o : Bool) : ∀ x : T_Node, frzL (e_Node o x) = e_Node false x
  | ⟨c0, c1, c2, c3⟩ => by simp [e_Node, frzL, frz, r_Node_frz]
@[simp] theorem r_Node_frz {o : Bool} : ∀ xs : List T_Node, frzR (r_Node o xs) = r_Node false xs
  | [] => by simp [r_Node, frzR]
  | x :: l => by simp [r_Node, frzR, e_Node_frz o x, r_Node_frz l]
end
mutual
theorem e_Node_hasFz : ∀ x : T_Node, hasFzL (e_Node true x) = false
  | ⟨c0, c1, c2, c3⟩ => by simp [e_Node, hasFzL, hasFz, r_Node_hasFz]
@[simp] theorem r_Node_hasFz : ∀ xs : List T_Node, hasFzR (r_Node true xs) = false
  | [] => by simp [r_Node, hasFzR]
  | x :: l => by simp [r_Node, hasFzR, e_Node_hasFz x, r_Node_hasFz l]
end
@[simp] theorem r_Node_noH {o : Bool} (xs : List T_Node) : noH (r_Node o xs) = true := by simp [noH, r_Node_map, e_Node_eq, isRf]
@[simp] theorem r_Node_sameL {o o2 : Bool} (xs ys : List T_Node) : sameL (r_Node o xs) (r_Node o2 ys) = true := sameL_len (r_Node_all xs) (r_Node_all ys)
theorem r_Node_getI {o : Bool} {xs : List T_Node} {i : Int} {x : T_Node} (h : getI xs i = some x) : 0 ≤ i ∧ i < xs.length ∧ i.toNat < xs.length ∧ (r_Node o xs)[i.toNat]? = some [.sc (.int .i64 x.op_), .sc (.string x.s_), .sc (.int .i64 x.n_), .ls o (r_Node o x.kids_)] := by
  obtain ⟨h1, h2, h3⟩ := getI_some h
  exact ⟨h1, h2, by omega, by simp [r_Node_map, h3, e_Node_eq]⟩
theorem r_Node_getN {o : Bool} {xs : List T_Node} {i : Nat} {x : T_Node} (h : xs[i]? = some x) : (r_Node o xs)[i]? = some [.sc (.int .i64 x.op_), .sc (.string x.s_), .sc (.int .i64 x.n_), .ls o (r_Node o x.kids_)] := by simp [r_Node_map, h, e_Node_eq]
/-- spec.l12Now -/
def Fs_l12Now (x0_35 : List T_Token) (x0_36 : Int) (x0_37 : Int) : Option (Int × ByteArray × Int × Int) :=
  bS (getI x0_35 x0_36) fun e4 =>
  some (e4.kind_, e4.text_, e4.n_, e4.at_)
def Fs_l12Now_ans (x0_35 : List T_Token) (x0_36 : Int) (x0_37 : Int) : (Int × ByteArray × Int × Int) → Ans
  | (q48, q49, q50, q51) => .val (.ag [.sc (.int .i64 q48), .sc (.string q49), .sc (.int .i64 q50), .sc (.int .i64 q51)]) [.b [.ls true (r_Token x0_35), .sc (.int .i64 x0_36), .sc (.int .i64 x0_37)]]
theorem Fs_l12Now_ok (x0_35 : List T_Token) (x0_36 : Int) (x0_37 : Int) (r_ : (Int × ByteArray × Int × Int)) (h_ : Fs_l12Now x0_35 x0_36 x0_37 = some r_) : ev EE (.call 24 [.bx 0 0] [.b [.ls true (r_Token x0_35), .sc (.int .i64 x0_36), .sc (.int .i64 x0_37)]]) = some (Fs_l12Now_ans x0_35 x0_36 x0_37 r_) := by
  rw [ev_eq]
  simp only [Fs_l12Now] at h_
  obtain ⟨e4, h1_, h_⟩ := bS_some h_
  obtain ⟨h1_a, h1_b, h1_c, h1_d⟩ := r_Token_getI  h1_
  try simp [-getElem?_pos] at h1_d
  cases h_
  simp +decide [-getElem?_pos, ir24, h1_a, h1_b, h1_c, h1_d, Fs_l12Now_ans]
/-- spec.l12Is -/
def Fs_l12Is (a1_8 : ByteArray) (x0_41 : List T_Token) (x0_42 : Int) (x0_43 : Int) : Option Bool :=
  bS (Fs_l12Now x0_41 x0_42 x0_43) fun (r80, r81, r82, r83) =>
  if x0_43 < 0 then
    if r80 = 1 then
      some (decide (r81 = a1_8))
    else
      some false
  else
    some false
def Fs_l12Is_ans (a1_8 : ByteArray) (x0_41 : List T_Token) (x0_42 : Int) (x0_43 : Int) : Bool → Ans
  | q52 => .val (.sc (.bool q52)) [.b [.ls true (r_Token x0_41), .sc (.int .i64 x0_42), .sc (.int .i64 x0_43)]]
theorem Fs_l12Is_ok (a1_8 : ByteArray) (x0_41 : List T_Token) (x0_42 : Int) (x0_43 : Int) (r_ : Bool) (h_ : Fs_l12Is a1_8 x0_41 x0_42 x0_43 = some r_) : ev EE (.call 28 [.bx 0 0, .sc (.string a1_8)] [.b [.ls true (r_Token x0_41), .sc (.int .i64 x0_42), .sc (.int .i64 x0_43)]]) = some (Fs_l12Is_ans a1_8 x0_41 x0_42 x0_43 r_) := by
  rw [ev_eq]
  simp only [Fs_l12Is] at h_
  obtain ⟨⟨r80, r81, r82, r83⟩, h1_, h_⟩ := bS_some h_
  try dsimp only at h_
  have h1_f := Fs_l12Now_ok x0_41 x0_42 x0_43 _ h1_
  try simp [Fs_l12Now_ans] at h1_f
  rcases bI h_ with ⟨h2_, h_⟩ | ⟨h2_, h_⟩
  · rcases bI h_ with ⟨h3_, h_⟩ | ⟨h3_, h_⟩
    · cases h_
      simp +decide [-getElem?_pos, ir28, h1_f, h2_, eq_true h3_, Fs_l12Is_ans]
    cases h_
    simp +decide [-getElem?_pos, ir28, h1_f, h2_, h3_, Fs_l12Is_ans]
  cases h_
  simp +decide [-getElem?_pos, ir28, h1_f, h2_, Fs_l12Is_ans]
/-- spec.l12Next -/
def Fs_l12Next (x0_44 : List T_Token) (x0_45 : Int) (x0_46 : Int) : Option Int :=
  if x0_45 < IntKind.i64.wrap ((x0_44.length : Int) - 1) then
    some (IntKind.i64.wrap (x0_45 + 1))
  else
    some x0_45
def Fs_l12Next_ans (x0_44 : List T_Token) (x0_45 : Int) (x0_46 : Int) : Int → Ans
  | q53 => .val (.tu []) [.b [.ls true (r_Token x0_44), .sc (.int .i64 q53), .sc (.int .i64 x0_46)]]
theorem Fs_l12Next_ok (x0_44 : List T_Token) (x0_45 : Int) (x0_46 : Int) (r_ : Int) (h_ : Fs_l12Next x0_44 x0_45 x0_46 = some r_) : ev EE (.call 29 [.bx 0 0] [.b [.ls true (r_Token x0_44), .sc (.int .i64 x0_45), .sc (.int .i64 x0_46)]]) = some (Fs_l12Next_ans x0_44 x0_45 x0_46 r_) := by
  rw [ev_eq]
  simp only [Fs_l12Next] at h_
  rcases bI h_ with ⟨h1_, h_⟩ | ⟨h1_, h_⟩
  · have h1_s := h1_; try simp at h1_s
    cases h_
    simp +decide [-getElem?_pos, ir29, h1_, h1_s, Fs_l12Next_ans]
  have h1_s := h1_; try simp at h1_s
  cases h_
  simp +decide [-getElem?_pos, ir29, h1_, h1_s, Fs_l12Next_ans]
/-- spec.l12Bad -/
def Fs_l12Bad (x0_50 : List T_Token) (x0_51 : Int) (x0_52 : Int) : Option Int :=
  if x0_52 < 0 then
    bS (Fs_l12Now x0_50 x0_51 x0_52) fun (r90, r91, r92, r93) =>
    some r93
  else
    some x0_52
def Fs_l12Bad_ans (x0_50 : List T_Token) (x0_51 : Int) (x0_52 : Int) : Int → Ans
  | q54 => .val (.tu []) [.b [.ls true (r_Token x0_50), .sc (.int .i64 x0_51), .sc (.int .i64 q54)]]
theorem Fs_l12Bad_ok (x0_50 : List T_Token) (x0_51 : Int) (x0_52 : Int) (r_ : Int) (h_ : Fs_l12Bad x0_50 x0_51 x0_52 = some r_) : ev EE (.call 44 [.bx 0 0] [.b [.ls true (r_Token x0_50), .sc (.int .i64 x0_51), .sc (.int .i64 x0_52)]]) = some (Fs_l12Bad_ans x0_50 x0_51 x0_52 r_) := by
  rw [ev_eq]
  simp only [Fs_l12Bad] at h_
  rcases bI h_ with ⟨h1_, h_⟩ | ⟨h1_, h_⟩
  · obtain ⟨⟨r90, r91, r92, r93⟩, h2_, h_⟩ := bS_some h_
    try dsimp only at h_
    have h2_f := Fs_l12Now_ok x0_50 x0_51 x0_52 _ h2_
    try simp [Fs_l12Now_ans] at h2_f
    cases h_
    simp +decide [-getElem?_pos, ir44, h1_, h2_f, Fs_l12Bad_ans]
  cases h_
  simp +decide [-getElem?_pos, ir44, h1_, Fs_l12Bad_ans]
def Ls_Word_0 : Nat → (List ByteArray) → Int → Int → ByteArray → Int → Int → Option (Bool ⊕ Unit)
  | 0, _, _, _, _, _, _ => none
  | n_ + 1, t3_5, t4_8, x0_53, x0_54, x0_55, x0_56 =>
  if t4_8 < (t3_5.length : Int) then
    if x0_53 = 1 then
      bS (getI t3_5 t4_8) fun e5 =>
      if x0_54 = e5 then
        some (.inl true)
      else
        Ls_Word_0 n_ t3_5 (IntKind.i64.wrap (t4_8 + 1)) x0_53 x0_54 x0_55 x0_56
    else
      Ls_Word_0 n_ t3_5 (IntKind.i64.wrap (t4_8 + 1)) x0_53 x0_54 x0_55 x0_56
  else
    some (.inr ())
def Ls_Word_0_ans (t3_5 : List ByteArray) (t4_8 : Int) (x0_53 : Int) (x0_54 : ByteArray) (x0_55 : Int) (x0_56 : Int) : Bool ⊕ Unit → Ans
  | .inl t2_2 => .out .ret { np := 0, tm := [(2, .sc (.bool t2_2))], ar := [], bx := [] }
  | .inr _ => .out (.exit 0) { np := 0, tm := [], ar := [], bx := [] }
theorem Ls_Word_0_ok : ∀ (n_ : Nat) (t3_5 : List ByteArray) (t4_8 : Int) (x0_53 : Int) (x0_54 : ByteArray) (x0_55 : Int) (x0_56 : Int) (r_ : Bool ⊕ Unit), Ls_Word_0 n_ t3_5 t4_8 x0_53 x0_54 x0_55 x0_56 = some r_ → ev EE (.loop lp43_0 [1, 3, 4] [2] { np := 0, tm := [(1, .bx 0 0), (3, .rf 0 0 t3_5.length), (4, .sc (.int .i64 t4_8))], ar := [(0, .a false (strs t3_5))], bx := [(0, .b [.sc (.int .i64 x0_53), .sc (.string x0_54), .sc (.int .i64 x0_55), .sc (.int .i64 x0_56)])] }) = some (Ls_Word_0_ans t3_5 t4_8 x0_53 x0_54 x0_55 x0_56 r_) := by
  intro n_
  induction n_ with
  | zero => intro t3_5 t4_8 x0_53 x0_54 x0_55 x0_56 r_ h_; simp only [Ls_Word_0] at h_; cases h_
  | succ n_ ih_ =>
    intro t3_5 t4_8 x0_53 x0_54 x0_55 x0_56 r_ h_
    rw [ev_loop EE lp43_0.eq_1]
    simp only [Ls_Word_0] at h_
    rcases bI h_ with ⟨h1_, h_⟩ | ⟨h1_, h_⟩
    · have h1_s := h1_; try simp at h1_s
      rcases bI h_ with ⟨h3_, h_⟩ | ⟨h3_, h_⟩
      · obtain ⟨e5, h4_, h_⟩ := bS_some h_
        obtain ⟨h4_a, h4_b, h4_c, h4_d⟩ := strs_getI  h4_
        try simp [-getElem?_pos] at h4_d
        rcases bI h_ with ⟨h8_, h_⟩ | ⟨h8_, h_⟩
        · cases h_
          simp +decide [-getElem?_pos, h1_, h1_s, eq_true h3_, h4_a, h4_b, h4_c, h4_d, eq_true h8_, Ls_Word_0_ans]
        have q_ := ih_ t3_5 (IntKind.i64.wrap (t4_8 + 1)) x0_53 x0_54 x0_55 x0_56 _ h_
        rcases r_ with t2_2 | _
        all_goals (try simp [Ls_Word_0_ans] at q_)
        all_goals simp +decide [-getElem?_pos, h1_, h1_s, eq_true h3_, h4_a, h4_b, h4_c, h4_d, h8_, q_, Ls_Word_0_ans]
      have q_ := ih_ t3_5 (IntKind.i64.wrap (t4_8 + 1)) x0_53 x0_54 x0_55 x0_56 _ h_
      rcases r_ with t2_2 | _
      all_goals (try simp [Ls_Word_0_ans] at q_)
      all_goals simp +decide [-getElem?_pos, h1_, h1_s, h3_, q_, Ls_Word_0_ans]
    have h1_s := h1_; try simp at h1_s
    cases h_
    simp +decide [-getElem?_pos, h1_, h1_s, Ls_Word_0_ans]
/-- spec.Word -/
def Fs_Word (a0_15 : Int) (a0_16 : ByteArray) (a0_17 : Int) (a0_18 : Int) : Option Bool :=
  bS (Ls_Word_0 FU ([(⟨#[108, 101, 116]⟩ : ByteArray), (⟨#[105, 102]⟩ : ByteArray), (⟨#[101, 108, 115, 101]⟩ : ByteArray), (⟨#[119, 104, 105, 108, 101]⟩ : ByteArray), (⟨#[114, 101, 116, 117, 114, 110]⟩ : ByteArray), (⟨#[112, 114, 105, 110, 116]⟩ : ByteArray), (⟨#[102, 117, 110, 99, 116, 105, 111, 110]⟩ : ByteArray), (⟨#[116, 114, 117, 101]⟩ : ByteArray), (⟨#[102, 97, 108, 115, 101]⟩ : ByteArray), (⟨#[110, 117, 108, 108]⟩ : ByteArray), (⟨#[117, 110, 100, 101, 102, 105, 110, 101, 100]⟩ : ByteArray), (⟨#[112, 114, 111, 116, 111]⟩ : ByteArray)]) 0 a0_15 a0_16 a0_17 a0_18) fun r_ => match r_ with
  | .inl r95 =>
    some r95
  | .inr () =>
    some false
def Fs_Word_ans (a0_15 : Int) (a0_16 : ByteArray) (a0_17 : Int) (a0_18 : Int) : Bool → Ans
  | q55 => .val (.sc (.bool q55)) []
theorem Fs_Word_ok (a0_15 : Int) (a0_16 : ByteArray) (a0_17 : Int) (a0_18 : Int) (r_ : Bool) (h_ : Fs_Word a0_15 a0_16 a0_17 a0_18 = some r_) : ev EE (.call 43 [.ag [.sc (.int .i64 a0_15), .sc (.string a0_16), .sc (.int .i64 a0_17), .sc (.int .i64 a0_18)]] []) = some (Fs_Word_ans a0_15 a0_16 a0_17 a0_18 r_) := by
  rw [ev_eq]
  simp only [Fs_Word] at h_
  obtain ⟨r_0, h1_, h_⟩ := bS_some h_
  have h1_f := Ls_Word_0_ok FU ([(⟨#[108, 101, 116]⟩ : ByteArray), (⟨#[105, 102]⟩ : ByteArray), (⟨#[101, 108, 115, 101]⟩ : ByteArray), (⟨#[119, 104, 105, 108, 101]⟩ : ByteArray), (⟨#[114, 101, 116, 117, 114, 110]⟩ : ByteArray), (⟨#[112, 114, 105, 110, 116]⟩ : ByteArray), (⟨#[102, 117, 110, 99, 116, 105, 111, 110]⟩ : ByteArray), (⟨#[116, 114, 117, 101]⟩ : ByteArray), (⟨#[102, 97, 108, 115, 101]⟩ : ByteArray), (⟨#[110, 117, 108, 108]⟩ : ByteArray), (⟨#[117, 110, 100, 101, 102, 105, 110, 101, 100]⟩ : ByteArray), (⟨#[112, 114, 111, 116, 111]⟩ : ByteArray)]) 0 a0_15 a0_16 a0_17 a0_18 _ h1_
  rcases r_0 with r95 | _
  · try dsimp only at h_
    try simp [Ls_Word_0_ans] at h1_f
    cases h_
    simp +decide [-getElem?_pos, ir43, h1_f, Fs_Word_ans]
  · try dsimp only at h_
    try simp [Ls_Word_0_ans] at h1_f
    cases h_
    simp +decide [-getElem?_pos, ir43, h1_f, Fs_Word_ans]
/-- spec.l12Name -/
def Fs_l12Name (a1_9 : Bool) (x0_47 : List T_Token) (x0_48 : Int) (x0_49 : Int) : Option (ByteArray × Int × Int) :=
  bS (Fs_l12Now x0_47 x0_48 x0_49) fun (r86, r87, r88, r89) =>
  if 0 ≤ x0_49 then
    bS (Fs_l12Bad x0_47 x0_48 x0_49) fun r94 =>
    some ((⟨#[]⟩ : ByteArray), x0_48, r94)
  else
  if r86 = 1 then
    bS (Fs_Word r86 r87 r88 r89) fun r96 =>
    if r96 = true then
      if a1_9 = true then
        if r87 = (⟨#[112, 114, 111, 116, 111]⟩ : ByteArray) then
          bS (Fs_l12Next x0_47 x0_48 x0_49) fun r97 =>
          some (r87, r97, x0_49)
        else
        bS (Fs_l12Bad x0_47 x0_48 x0_49) fun r98 =>
        some ((⟨#[]⟩ : ByteArray), x0_48, r98)
      else
      bS (Fs_l12Bad x0_47 x0_48 x0_49) fun r99 =>
      some ((⟨#[]⟩ : ByteArray), x0_48, r99)
    else
    bS (Fs_l12Next x0_47 x0_48 x0_49) fun r100 =>
    some (r87, r100, x0_49)
  else
  bS (Fs_l12Bad x0_47 x0_48 x0_49) fun r101 =>
  some ((⟨#[]⟩ : ByteArray), x0_48, r101)
def Fs_l12Name_ans (a1_9 : Bool) (x0_47 : List T_Token) (x0_48 : Int) (x0_49 : Int) : (ByteArray × Int × Int) → Ans
  | (q56, q57, q58) => .val (.sc (.string q56)) [.b [.ls true (r_Token x0_47), .sc (.int .i64 q57), .sc (.int .i64 q58)]]
theorem Fs_l12Name_ok (a1_9 : Bool) (x0_47 : List T_Token) (x0_48 : Int) (x0_49 : Int) (r_ : (ByteArray × Int × Int)) (h_ : Fs_l12Name a1_9 x0_47 x0_48 x0_49 = some r_) : ev EE (.call 30 [.bx 0 0, .sc (.bool a1_9)] [.b [.ls true (r_Token x0_47), .sc (.int .i64 x0_48), .sc (.int .i64 x0_49)]]) = some (Fs_l12Name_ans a1_9 x0_47 x0_48 x0_49 r_) := by
  rw [ev_eq]
  simp only [Fs_l12Name] at h_
  obtain ⟨⟨r86, r87, r88, r89⟩, h1_, h_⟩ := bS_some h_
  try dsimp only at h_
  have h1_f := Fs_l12Now_ok x0_47 x0_48 x0_49 _ h1_
  try simp [Fs_l12Now_ans] at h1_f
  rcases bI h_ with ⟨h2_, h_⟩ | ⟨h2_, h_⟩
  · obtain ⟨r94, h3_, h_⟩ := bS_some h_
    have h3_f := Fs_l12Bad_ok x0_47 x0_48 x0_49 _ h3_
    try simp [Fs_l12Bad_ans] at h3_f
    cases h_
    simp +decide [-getElem?_pos, ir30, h1_f, h2_, h3_f, Fs_l12Name_ans]
  rcases bI h_ with ⟨h3_, h_⟩ | ⟨h3_, h_⟩
  · obtain ⟨r96, h4_, h_⟩ := bS_some h_
    have h4_f := Fs_Word_ok r86 r87 r88 r89 _ h4_
    try simp [Fs_Word_ans] at h4_f
    rcases bI h_ with ⟨h5_, h_⟩ | ⟨h5_, h_⟩
    · rcases bI h_ with ⟨h6_, h_⟩ | ⟨h6_, h_⟩
      · rcases bI h_ with ⟨h7_, h_⟩ | ⟨h7_, h_⟩
        · obtain ⟨r97, h8_, h_⟩ := bS_some h_
          have h8_f := Fs_l12Next_ok x0_47 x0_48 x0_49 _ h8_
          try simp [Fs_l12Next_ans] at h8_f
          cases h_
          simp +decide [-getElem?_pos, ir30, h1_f, h2_, eq_true h3_, h4_f, h5_, h6_, eq_true h7_, h8_f, Fs_l12Name_ans]
        obtain ⟨r98, h8_, h_⟩ := bS_some h_
        have h8_f := Fs_l12Bad_ok x0_47 x0_48 x0_49 _ h8_
        try simp [Fs_l12Bad_ans] at h8_f
        cases h_
        simp +decide [-getElem?_pos, ir30, h1_f, h2_, eq_true h3_, h4_f, h5_, h6_, h7_, h8_f, Fs_l12Name_ans]
      obtain ⟨r99, h7_, h_⟩ := bS_some h_
      have h7_f := Fs_l12Bad_ok x0_47 x0_48 x0_49 _ h7_
      try simp [Fs_l12Bad_ans] at h7_f
      cases h_
      simp +decide [-getElem?_pos, ir30, h1_f, h2_, eq_true h3_, h4_f, h5_, h6_, h7_f, Fs_l12Name_ans]
    obtain ⟨r100, h6_, h_⟩ := bS_some h_
    have h6_f := Fs_l12Next_ok x0_47 x0_48 x0_49 _ h6_
    try simp [Fs_l12Next_ans] at h6_f
    cases h_
    simp +decide [-getElem?_pos, ir30, h1_f, h2_, eq_true h3_, h4_f, h5_, h6_f, Fs_l12Name_ans]
  obtain ⟨r101, h4_, h_⟩ := bS_some h_
  have h4_f := Fs_l12Bad_ok x0_47 x0_48 x0_49 _ h4_
  try simp [Fs_l12Bad_ans] at h4_f
  cases h_
  simp +decide [-getElem?_pos, ir30, h1_f, h2_, h3_, h4_f, Fs_l12Name_ans]
/-- spec.l12Sign -/
def Fs_l12Sign (a1_11 : ByteArray) (x0_60 : List T_Token) (x0_61 : Int) (x0_62 : Int) : Option Bool :=
  bS (Fs_l12Now x0_60 x0_61 x0_62) fun (r105, r106, r107, r108) =>
  if x0_62 < 0 then
    if r105 = 4 then
      some (decide (r106 = a1_11))
    else
      some false
  else
    some false
def Fs_l12Sign_ans (a1_11 : ByteArray) (x0_60 : List T_Token) (x0_61 : Int) (x0_62 : Int) : Bool → Ans
  | q59 => .val (.sc (.bool q59)) [.b [.ls true (r_Token x0_60), .sc (.int .i64 x0_61), .sc (.int .i64 x0_62)]]
theorem Fs_l12Sign_ok (a1_11 : ByteArray) (x0_60 : List T_Token) (x0_61 : Int) (x0_62 : Int) (r_ : Bool) (h_ : Fs_l12Sign a1_11 x0_60 x0_61 x0_62 = some r_) : ev EE (.call 35 [.bx 0 0, .sc (.string a1_11)] [.b [.ls true (r_Token x0_60), .sc (.int .i64 x0_61), .sc (.int .i64 x0_62)]]) = some (Fs_l12Sign_ans a1_11 x0_60 x0_61 x0_62 r_) := by
  rw [ev_eq]
  simp only [Fs_l12Sign] at h_
  obtain ⟨⟨r105, r106, r107, r108⟩, h1_, h_⟩ := bS_some h_
  try dsimp only at h_
  have h1_f := Fs_l12Now_ok x0_60 x0_61 x0_62 _ h1_
  try simp [Fs_l12Now_ans] at h1_f
  rcases bI h_ with ⟨h2_, h_⟩ | ⟨h2_, h_⟩
  · rcases bI h_ with ⟨h3_, h_⟩ | ⟨h3_, h_⟩
    · cases h_
      simp +decide [-getElem?_pos, ir35, h1_f, h2_, eq_true h3_, Fs_l12Sign_ans]
    cases h_
    simp +decide [-getElem?_pos, ir35, h1_f, h2_, h3_, Fs_l12Sign_ans]
  cases h_
  simp +decide [-getElem?_pos, ir35, h1_f, h2_, Fs_l12Sign_ans]
end Go.Pv
