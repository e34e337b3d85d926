/- Proof: the functions as Lean functions, and that these are what they evaluate to, first part. No condition. -/
import Derived.Test.YtaadneenebhnoaaGreatDoorIm
set_option autoImplicit true
set_option relaxedAutoImplicit true
set_option linter.unusedSimpArgs false
set_option linter.unusedVariables false
namespace Go.Pv
set_option maxRecDepth 100000
set_option maxHeartbeats 40000000
set_option linter.unusedSimpArgs false
set_option linter.unusedVariables false
structure T_Node where
 op_ : Int
 s_ : ByteArray
 n_ : Int
 kids_ : List T_Node
mutual
def e_Node (o : Bool) : T_Node → List V
 | ⟨c0, c1, c2, c3⟩ => [.sc (.int .i64 c0), .sc (.string c1), .sc (.int .i64 c2), .ls o (r_Node o c3)]
def r_Node (o : Bool) : List T_Node → List (List V)
 | [] => []
 | x :: l => e_Node o x :: r_Node o l
end
theorem zaV {o : Bool} (xs : List T_Node) : r_Node o xs = xs.map (e_Node o) := by
 induction xs with
 | nil => rfl
 | cons x l ih => simp [r_Node, ih]
theorem zcq {o : Bool} (x : T_Node) : e_Node o x = [.sc (.int .i64 x.op_), .sc (.string x.s_), .sc (.int .i64 x.n_), .ls o (r_Node o x.kids_)] := by cases x; simp [e_Node]
@[simp] theorem zvP {o : Bool} : r_Node o [] = [] := nr rfl
@[simp] theorem zvQ {o : Bool} (xs : List T_Node) : (r_Node o xs).length = xs.length := by simp [zaV]
@[simp] theorem zit {o : Bool} (xs : List T_Node) : allLen 4 (r_Node o xs) = true := by simp [zaV, allLen, zcq]
@[simp] theorem zvR {o : Bool} (xs : List T_Node) : (r_Node o xs).isEmpty = xs.isEmpty := by cases xs <;> rfl
@[simp] theorem zvS {o : Bool} (xs ys : List T_Node) : r_Node o xs ++ r_Node o ys = r_Node o (xs ++ ys) := by simp [zaV]
@[simp] theorem zvd {o : Bool} (xs : List T_Node) (c0 : Int) (c1 : ByteArray) (c2 : Int) (c3 : List T_Node) : r_Node o xs ++ [[V.sc (.int .i64 c0), V.sc (.string c1), V.sc (.int .i64 c2), V.ls o (r_Node o c3)]] = r_Node o (xs ++ [⟨c0, c1, c2, c3⟩]) := by simp [zaV, zcq]
@[simp] theorem zvT {o : Bool} (c0 : Int) (c1 : ByteArray) (c2 : Int) (c3 : List T_Node) : [[V.sc (.int .i64 c0), V.sc (.string c1), V.sc (.int .i64 c2), V.ls o (r_Node o c3)]] = r_Node o [⟨c0, c1, c2, c3⟩] := by simp [zaV, zcq]
@[simp] theorem zve {o : Bool} (c0 : Int) (c1 : ByteArray) (c2 : Int) (c3 : List T_Node) (l : List T_Node) : [V.sc (.int .i64 c0), V.sc (.string c1), V.sc (.int .i64 c2), V.ls o (r_Node o c3)] :: r_Node o l = r_Node o (⟨c0, c1, c2, c3⟩ :: l) := by simp [zaV, zcq]
@[simp] theorem zvU {o : Bool} (xs : List T_Node) (i : Nat) (c0 : Int) (c1 : ByteArray) (c2 : Int) (c3 : List T_Node) : (r_Node o xs).set i [V.sc (.int .i64 c0), V.sc (.string c1), V.sc (.int .i64 c2), V.ls o (r_Node o c3)] = r_Node o (xs.set i ⟨c0, c1, c2, c3⟩) := by simp [zaV, zcq, List.map_set]
@[simp] theorem zvV {o : Bool} (xs : List T_Node) (a n : Nat) : sub (r_Node o xs) a n = r_Node o ((xs.drop a).take n) := by simp [sub, zaV, List.map_drop, List.map_take]
@[simp] theorem zvW (n : Nat) : List.replicate n [V.sc (.int .i64 0), V.sc (.string ⟨#[]⟩), V.sc (.int .i64 0), V.ls true []] = r_Node true (List.replicate n ⟨0, ⟨#[]⟩, 0, []⟩) := by simp [zaV, zcq]
mutual
theorem zms (o : Bool) : ∀ x : T_Node, zf9 (e_Node o x) = e_Node false x
 | ⟨c0, c1, c2, c3⟩ => by simp [e_Node, zf9, frz, ziu]
@[simp] theorem ziu {o : Bool} : ∀ xs : List T_Node, zbM (r_Node o xs) = r_Node false xs
 | [] => by simp [r_Node, zbM]
 | x :: l => by simp [r_Node, zbM, zms o x, ziu l]
end
mutual
theorem zj9 : ∀ x : T_Node, zbJ (e_Node true x) = false
 | ⟨c0, c1, c2, c3⟩ => by simp [e_Node, zbJ, hasFz, zgF]
@[simp] theorem zgF : ∀ xs : List T_Node, zcz (r_Node true xs) = false
 | [] => by simp [r_Node, zcz]
 | x :: l => by simp [r_Node, zcz, zj9 x, zgF l]
end
@[simp] theorem zvX {o : Bool} (xs : List T_Node) : noH (r_Node o xs) = true := by simp [noH, zaV, zcq, zeV]
@[simp] theorem zsr {o o2 : Bool} (xs ys : List T_Node) : zgf (r_Node o xs) (r_Node o2 ys) = true := zeG (zit xs) (zit ys)
theorem zj {o : Bool} {xs : List T_Node} {i : Int} {x : T_Node} (h : getI xs i = some x) : 0 ≤ i ∧ i < xs.length ∧ i.toNat < xs.length ∧ (r_Node o xs)[i.toNat]? = some [.sc (.int .i64 x.op_), .sc (.string x.s_), .sc (.int .i64 x.n_), .ls o (r_Node o x.kids_)] := by
 obtain ⟨h1, h2, h3⟩ := zeF h
 exact ⟨h1, h2, by omega, by simp [zaV, h3, zcq]⟩
theorem zvf {o : Bool} {xs : List T_Node} {i : Nat} {x : T_Node} (h : xs[i]? = some x) : (r_Node o xs)[i]? = some [.sc (.int .i64 x.op_), .sc (.string x.s_), .sc (.int .i64 x.n_), .ls o (r_Node o x.kids_)] := by simp [zaV, h, zcq]
def za0 (a0_5 : Int) (a0_6 : ByteArray) (a0_7 : Int) (a0_8 : List T_Node) (a1_1 : Int) : Int → Ans
 | q1 => .val (.sc (.int .i64 q1)) []
def zho (Rw_szNode : Int → ByteArray → Int → (List T_Node) → Int → Option Int) : Prop := ∀ (a0_5 : Int) (a0_6 : ByteArray) (a0_7 : Int) (a0_8 : List T_Node) (a1_1 : Int) (r_ : Int), Rw_szNode a0_5 a0_6 a0_7 a0_8 a1_1 = some r_ → ev EE (.call 5 [.ag [.sc (.int .i64 a0_5), .sc (.string a0_6), .sc (.int .i64 a0_7), .ls false (r_Node false a0_8)], .sc (.int .i64 a1_1)] []) = some (za0 a0_5 a0_6 a0_7 a0_8 a1_1 r_)
def zbd (Rw_szNode : Int → ByteArray → Int → (List T_Node) → Int → Option Int) : Nat → (List T_Node) → Int → Int → Option ((Int × Int) ⊕ Int)
 | 0, _, _, _ => none
 | n_ + 1, t0_1, t1_1, t5_1 =>
 if t5_1 < (t0_1.length : Int) then
  bS (getI t0_1 t5_1) fun e1 =>
  bS (Rw_szNode e1.op_ e1.s_ e1.n_ e1.kids_ t1_1) fun r1 =>
  if r1 < 0 then
   some (.inl (r1, (-1)))
  else
   zbd Rw_szNode n_ t0_1 r1 (IntKind.i64.wrap (t5_1 + 1))
 else
  some (.inr t1_1)
def zaW (t0_1 : List T_Node) (t1_1 : Int) (t5_1 : Int) : (Int × Int) ⊕ Int → Ans
 | .inl (t1_2, t4_1) => .out .ret { np := 0, tm := [(1, .sc (.int .i64 t1_2)), (4, .sc (.int .i64 t4_1))], ar := [], bx := [] }
 | .inr t1_3 => .out (.exit 0) { np := 0, tm := [(1, .sc (.int .i64 t1_3))], ar := [], bx := [] }
theorem zh4 (Rw_szNode) (hRw_szNode : zho Rw_szNode) : ∀ (n_ : Nat) (t0_1 : List T_Node) (t1_1 : Int) (t5_1 : Int) (r_ : (Int × Int) ⊕ Int), zbd Rw_szNode n_ t0_1 t1_1 t5_1 = some r_ → ev EE (.loop zmy [0, 1, 5] [1, 4] { np := 0, tm := [(0, .ls false (r_Node false t0_1)), (1, .sc (.int .i64 t1_1)), (5, .sc (.int .i64 t5_1))], ar := [], bx := [] }) = some (zaW t0_1 t1_1 t5_1 r_) := by
 intro n_
 induction n_ with
 | zero => intro t0_1 t1_1 t5_1 r_ h_; simp only [zbd] at h_; cases h_
 | succ n_ ih_ =>
  intro t0_1 t1_1 t5_1 r_ h_
  rw [zW EE zmy.eq_1]
  simp only [zbd] at h_
  rcases bI h_ with ⟨h1_, h_⟩ | ⟨h1_, h_⟩
  ·have h1_s := h1_; try simp at h1_s
   obtain ⟨e1, h3_, h_⟩ := za h_
   obtain ⟨h3_a, h3_b, h3_c, h3_d⟩ := zj (o := false)  h3_
   try simp [-getElem?_pos] at h3_d
   obtain ⟨r1, h7_, h_⟩ := za h_
   have h7_f := hRw_szNode e1.op_ e1.s_ e1.n_ e1.kids_ t1_1 _ h7_
   try simp [za0] at h7_f
   rcases bI h_ with ⟨h8_, h_⟩ | ⟨h8_, h_⟩
   ·cases h_
    simp +decide [-getElem?_pos, h1_, h1_s, h3_a, h3_b, h3_c, h3_d, h7_f, h8_, zaW]
   have q_ := ih_ t0_1 r1 (IntKind.i64.wrap (t5_1 + 1)) _ h_
   rcases r_ with ⟨t1_2, t4_1⟩ | t1_3
   all_goals (try simp [zaW] at q_)
   all_goals simp +decide [-getElem?_pos, h1_, h1_s, h3_a, h3_b, h3_c, h3_d, h7_f, h8_, q_, zaW]
  have h1_s := h1_; try simp at h1_s
  cases h_
  simp +decide [-getElem?_pos, h1_, h1_s, zaW]
/-- laws.szNodeS -/
def ze2 (Rw_szNode : Int → ByteArray → Int → (List T_Node) → Int → Option Int) (a0_9 : List T_Node) (a1_2 : Int) : Option Int :=
 if IntKind.i64.wrap (a1_2 - (a0_9.length : Int)) < 0 then
  some (-1)
 else
 bS (zbd Rw_szNode FU a0_9 (IntKind.i64.wrap (a1_2 - (a0_9.length : Int))) 0) fun r_ => match r_ with
 | .inl (r2, r3) =>
  some r3
 | .inr r4 =>
  some r4
def zcb (a0_9 : List T_Node) (a1_2 : Int) : Int → Ans
 | q2 => .val (.sc (.int .i64 q2)) []
theorem zjn (Rw_szNode) (hRw_szNode : zho Rw_szNode) (a0_9 : List T_Node) (a1_2 : Int) (r_ : Int) (h_ : ze2 Rw_szNode a0_9 a1_2 = some r_) : ev EE (.call 14 [.ls false (r_Node false a0_9), .sc (.int .i64 a1_2)] []) = some (zcb a0_9 a1_2 r_) := by
 rw [zw]
 simp only [ze2] at h_
 rcases bI h_ with ⟨h1_, h_⟩ | ⟨h1_, h_⟩
 ·have h1_s := h1_; try simp at h1_s
  cases h_
  simp +decide [-getElem?_pos, zoF, h1_, h1_s, zcb]
 have h1_s := h1_; try simp at h1_s
 obtain ⟨r_2, h3_, h_⟩ := za h_
 have h3_f := zh4 Rw_szNode hRw_szNode FU a0_9 (IntKind.i64.wrap (a1_2 - (a0_9.length : Int))) 0 _ h3_
 rcases r_2 with ⟨r2, r3⟩ | r4
 ·try dsimp only at h_
  try simp [zaW] at h3_f
  cases h_
  simp +decide [-getElem?_pos, zoF, h1_, h1_s, h3_f, zcb]
 ·try dsimp only at h_
  try simp [zaW] at h3_f
  cases h_
  simp +decide [-getElem?_pos, zoF, h1_, h1_s, h3_f, zcb]
/-- laws.szNode -/
def zeJ (Rw_szNode : Int → ByteArray → Int → (List T_Node) → Int → Option Int) (a0_5 : Int) (a0_6 : ByteArray) (a0_7 : Int) (a0_8 : List T_Node) (a1_1 : Int) : Option Int :=
 if IntKind.i64.wrap (a1_1 - (a0_6.size : Int)) < 0 then
  some (-1)
 else
 bS (ze2 Rw_szNode a0_8 (IntKind.i64.wrap (a1_1 - (a0_6.size : Int)))) fun r5 =>
 if r5 < 0 then
  some (-1)
 else
  some r5
theorem Sw_szNode_ok (Rw_szNode) (hRw_szNode : zho Rw_szNode) (a0_5 : Int) (a0_6 : ByteArray) (a0_7 : Int) (a0_8 : List T_Node) (a1_1 : Int) (r_ : Int) (h_ : zeJ Rw_szNode a0_5 a0_6 a0_7 a0_8 a1_1 = some r_) : ev EE (.call 5 [.ag [.sc (.int .i64 a0_5), .sc (.string a0_6), .sc (.int .i64 a0_7), .ls false (r_Node false a0_8)], .sc (.int .i64 a1_1)] []) = some (za0 a0_5 a0_6 a0_7 a0_8 a1_1 r_) := by
 rw [zw]
 simp only [zeJ] at h_
 rcases bI h_ with ⟨h1_, h_⟩ | ⟨h1_, h_⟩
 ·have h1_s := h1_; try simp at h1_s
  cases h_
  simp +decide [-getElem?_pos, ir5, h1_, h1_s, za0]
 have h1_s := h1_; try simp at h1_s
 obtain ⟨r5, h3_, h_⟩ := za h_
 have h3_f := zjn Rw_szNode hRw_szNode a0_8 (IntKind.i64.wrap (a1_1 - (a0_6.size : Int))) _ h3_
 try simp [zcb] at h3_f
 rcases bI h_ with ⟨h4_, h_⟩ | ⟨h4_, h_⟩
 ·cases h_
  simp +decide [-getElem?_pos, ir5, h1_, h1_s, h3_f, h4_, za0]
 cases h_
 simp +decide [-getElem?_pos, ir5, h1_, h1_s, h3_f, h4_, za0]
def Fw_szNoden : Nat → Int → ByteArray → Int → (List T_Node) → Int → Option Int
 | 0 => fun _ _ _ _ _ => none
 | n_ + 1 => zeJ (Fw_szNoden n_)
def zhp (a0_5 : Int) (a0_6 : ByteArray) (a0_7 : Int) (a0_8 : List T_Node) (a1_1 : Int) : Option Int := Fw_szNoden FU a0_5 a0_6 a0_7 a0_8 a1_1
theorem zjo : ∀ (n_ : Nat) (a0_5 : Int) (a0_6 : ByteArray) (a0_7 : Int) (a0_8 : List T_Node) (a1_1 : Int) (r_ : Int), Fw_szNoden n_ a0_5 a0_6 a0_7 a0_8 a1_1 = some r_ → ev EE (.call 5 [.ag [.sc (.int .i64 a0_5), .sc (.string a0_6), .sc (.int .i64 a0_7), .ls false (r_Node false a0_8)], .sc (.int .i64 a1_1)] []) = some (za0 a0_5 a0_6 a0_7 a0_8 a1_1 r_) := by
 intro n_
 induction n_ with
 | zero => intro a0_5 a0_6 a0_7 a0_8 a1_1 r_ h_; cases h_
 | succ n_ ih_ => intro a0_5 a0_6 a0_7 a0_8 a1_1 r_ h_; exact Sw_szNode_ok (Fw_szNoden n_) ih_ a0_5 a0_6 a0_7 a0_8 a1_1 r_ h_
theorem zka (a0_5 : Int) (a0_6 : ByteArray) (a0_7 : Int) (a0_8 : List T_Node) (a1_1 : Int) (r_ : Int) (h_ : zhp a0_5 a0_6 a0_7 a0_8 a1_1 = some r_) : ev EE (.call 5 [.ag [.sc (.int .i64 a0_5), .sc (.string a0_6), .sc (.int .i64 a0_7), .ls false (r_Node false a0_8)], .sc (.int .i64 a1_1)] []) = some (za0 a0_5 a0_6 a0_7 a0_8 a1_1 r_) := zjo FU a0_5 a0_6 a0_7 a0_8 a1_1 r_ h_
def zbH (a0_10 : Int) (a0_11 : ByteArray) (a0_12 : Int) (a0_13 : List T_Node) : (Int × ByteArray × Int × (List T_Node)) → Ans
 | (q3, q4, q5, q6) => .val (.ag [.sc (.int .i64 q3), .sc (.string q4), .sc (.int .i64 q5), .ls true (r_Node true q6)]) []
def zhq (Rw_toNode : Int → ByteArray → Int → (List T_Node) → Option (Int × ByteArray × Int × (List T_Node))) : Prop := ∀ (a0_10 : Int) (a0_11 : ByteArray) (a0_12 : Int) (a0_13 : List T_Node) (r_ : (Int × ByteArray × Int × (List T_Node))), Rw_toNode a0_10 a0_11 a0_12 a0_13 = some r_ → ev EE (.call 7 [.ag [.sc (.int .i64 a0_10), .sc (.string a0_11), .sc (.int .i64 a0_12), .ls false (r_Node false a0_13)]] []) = some (zbH a0_10 a0_11 a0_12 a0_13 r_)
def zbw (Rw_toNode : Int → ByteArray → Int → (List T_Node) → Option (Int × ByteArray × Int × (List T_Node))) : Nat → (List T_Node) → (List T_Node) → Int → Option (List T_Node)
 | 0, _, _, _ => none
 | n_ + 1, t0_2, t3_1, t4_2 =>
 if t4_2 < (t0_2.length : Int) then
  bS (getI t0_2 t4_2) fun e2 =>
  bS (Rw_toNode e2.op_ e2.s_ e2.n_ e2.kids_) fun (r7, r8, r9, r10) =>
  bS (getI t3_1 t4_2) fun e3 =>
  zbw Rw_toNode n_ t0_2 (List.set t3_1 t4_2.toNat (⟨r7, r8, r9, r10⟩ : T_Node)) (IntKind.i64.wrap (t4_2 + 1))
 else
  some t3_1
def zbO (t0_2 : List T_Node) (t3_1 : List T_Node) (t4_2 : Int) : (List T_Node) → Ans
 | t3_2 => .out (.exit 0) { np := 0, tm := [(3, .rf 0 0 t3_2.length)], ar := [(0, .a false (r_Node true t3_2))], bx := [] }
theorem zh5 (Rw_toNode) (hRw_toNode : zhq Rw_toNode) : ∀ (n_ : Nat) (t0_2 : List T_Node) (t3_1 : List T_Node) (t4_2 : Int) (r_ : (List T_Node)), zbw Rw_toNode n_ t0_2 t3_1 t4_2 = some r_ → ev EE (.loop zmA [0, 3, 4] [2, 3] { np := 0, tm := [(0, .ls false (r_Node false t0_2)), (3, .rf 0 0 t3_1.length), (4, .sc (.int .i64 t4_2))], ar := [(0, .a false (r_Node true t3_1))], bx := [] }) = some (zbO t0_2 t3_1 t4_2 r_) := by
 intro n_
 induction n_ with
 | zero => intro t0_2 t3_1 t4_2 r_ h_; simp only [zbw] at h_; cases h_
 | succ n_ ih_ =>
  intro t0_2 t3_1 t4_2 r_ h_
  rw [zW EE zmA.eq_1]
  simp only [zbw] at h_
  rcases bI h_ with ⟨h1_, h_⟩ | ⟨h1_, h_⟩
  ·have h1_s := h1_; try simp at h1_s
   obtain ⟨e2, h3_, h_⟩ := za h_
   obtain ⟨h3_a, h3_b, h3_c, h3_d⟩ := zj (o := false)  h3_
   try simp [-getElem?_pos] at h3_d
   obtain ⟨⟨r7, r8, r9, r10⟩, h7_, h_⟩ := za h_
   try dsimp only at h_
   have h7_f := hRw_toNode e2.op_ e2.s_ e2.n_ e2.kids_ _ h7_
   try simp [zbH] at h7_f
   obtain ⟨e3, h8_, h_⟩ := za h_
   obtain ⟨h8_a, h8_b, h8_c, h8_d⟩ := zj (o := true)  h8_
   try simp [-getElem?_pos] at h8_d
   have q_ := ih_ t0_2 (List.set t3_1 t4_2.toNat (⟨r7, r8, r9, r10⟩ : T_Node)) (IntKind.i64.wrap (t4_2 + 1)) _ h_
   rcases r_ with t3_2
   all_goals (try simp [zbO] at q_)
   all_goals simp +decide [-getElem?_pos, h1_, h1_s, h3_a, h3_b, h3_c, h3_d, h7_f, h8_a, h8_b, h8_c, h8_d, q_, zbO]
  have h1_s := h1_; try simp at h1_s
  cases h_
  simp +decide [-getElem?_pos, h1_, h1_s, zbO]
/-- laws.toNodeS -/
def ze3 (Rw_toNode : Int → ByteArray → Int → (List T_Node) → Option (Int × ByteArray × Int × (List T_Node))) (a0_14 : List T_Node) : Option (List T_Node) :=
 if lim a0_14.length 56 = true then
 bS (zbw Rw_toNode FU a0_14 (List.replicate a0_14.length (⟨0, (⟨#[]⟩ : ByteArray), 0, []⟩ : T_Node)) 0) fun r11 =>
 some r11
 else none
def zd7 (a0_14 : List T_Node) : (List T_Node) → Ans
 | q7 => .val (.ls true (r_Node true q7)) []
theorem zjp (Rw_toNode) (hRw_toNode : zhq Rw_toNode) (a0_14 : List T_Node) (r_ : (List T_Node)) (h_ : ze3 Rw_toNode a0_14 = some r_) : ev EE (.call 17 [.ls false (r_Node false a0_14)] []) = some (zd7 a0_14 r_) := by
 rw [zw]
 simp only [ze3] at h_
 obtain ⟨h1_, h_⟩ := bP h_
 obtain ⟨r11, h2_, h_⟩ := za h_
 have h2_f := zh5 Rw_toNode hRw_toNode FU a0_14 (List.replicate a0_14.length (⟨0, (⟨#[]⟩ : ByteArray), 0, []⟩ : T_Node)) 0 _ h2_
 try simp [zbO] at h2_f
 cases h_
 simp +decide [-getElem?_pos, zsw, h1_, h2_f, zd7]
/-- laws.toNode -/
def Sw_toNode (Rw_toNode : Int → ByteArray → Int → (List T_Node) → Option (Int × ByteArray × Int × (List T_Node))) (a0_10 : Int) (a0_11 : ByteArray) (a0_12 : Int) (a0_13 : List T_Node) : Option (Int × ByteArray × Int × (List T_Node)) :=
 bS (ze3 Rw_toNode a0_13) fun r12 =>
 some (a0_10, a0_11, a0_12, r12)
theorem Sw_toNode_ok (Rw_toNode) (hRw_toNode : zhq Rw_toNode) (a0_10 : Int) (a0_11 : ByteArray) (a0_12 : Int) (a0_13 : List T_Node) (r_ : (Int × ByteArray × Int × (List T_Node))) (h_ : Sw_toNode Rw_toNode a0_10 a0_11 a0_12 a0_13 = some r_) : ev EE (.call 7 [.ag [.sc (.int .i64 a0_10), .sc (.string a0_11), .sc (.int .i64 a0_12), .ls false (r_Node false a0_13)]] []) = some (zbH a0_10 a0_11 a0_12 a0_13 r_) := by
 rw [zw]
 simp only [Sw_toNode] at h_
 obtain ⟨r12, h1_, h_⟩ := za h_
 have h1_f := zjp Rw_toNode hRw_toNode a0_13 _ h1_
 try simp [zd7] at h1_f
 cases h_
 simp +decide [-getElem?_pos, ir7, h1_f, zbH]
def Fw_toNoden : Nat → Int → ByteArray → Int → (List T_Node) → Option (Int × ByteArray × Int × (List T_Node))
 | 0 => fun _ _ _ _ => none
 | n_ + 1 => Sw_toNode (Fw_toNoden n_)
def Fw_toNode (a0_10 : Int) (a0_11 : ByteArray) (a0_12 : Int) (a0_13 : List T_Node) : Option (Int × ByteArray × Int × (List T_Node)) := Fw_toNoden FU a0_10 a0_11 a0_12 a0_13
theorem zjq : ∀ (n_ : Nat) (a0_10 : Int) (a0_11 : ByteArray) (a0_12 : Int) (a0_13 : List T_Node) (r_ : (Int × ByteArray × Int × (List T_Node))), Fw_toNoden n_ a0_10 a0_11 a0_12 a0_13 = some r_ → ev EE (.call 7 [.ag [.sc (.int .i64 a0_10), .sc (.string a0_11), .sc (.int .i64 a0_12), .ls false (r_Node false a0_13)]] []) = some (zbH a0_10 a0_11 a0_12 a0_13 r_) := by
 intro n_
 induction n_ with
 | zero => intro a0_10 a0_11 a0_12 a0_13 r_ h_; cases h_
 | succ n_ ih_ => intro a0_10 a0_11 a0_12 a0_13 r_ h_; exact Sw_toNode_ok (Fw_toNoden n_) ih_ a0_10 a0_11 a0_12 a0_13 r_ h_
theorem zkb (a0_10 : Int) (a0_11 : ByteArray) (a0_12 : Int) (a0_13 : List T_Node) (r_ : (Int × ByteArray × Int × (List T_Node))) (h_ : Fw_toNode a0_10 a0_11 a0_12 a0_13 = some r_) : ev EE (.call 7 [.ag [.sc (.int .i64 a0_10), .sc (.string a0_11), .sc (.int .i64 a0_12), .ls false (r_Node false a0_13)]] []) = some (zbH a0_10 a0_11 a0_12 a0_13 r_) := zjq FU a0_10 a0_11 a0_12 a0_13 r_ h_
def zcc (a0_23 : Int) (a0_24 : ByteArray) (a0_25 : Int) (a0_26 : List T_Node) : Int → Ans
 | q8 => .val (.sc (.int .i64 q8)) []
def znT (Rs_Deep : Int → ByteArray → Int → (List T_Node) → Option Int) : Prop := ∀ (a0_23 : Int) (a0_24 : ByteArray) (a0_25 : Int) (a0_26 : List T_Node) (r_ : Int), Rs_Deep a0_23 a0_24 a0_25 a0_26 = some r_ → ev EE (.call 25 [.ag [.sc (.int .i64 a0_23), .sc (.string a0_24), .sc (.int .i64 a0_25), .ls false (r_Node false a0_26)]] []) = some (zcc a0_23 a0_24 a0_25 a0_26 r_)
/-- spec.l1Max -/
def zfo (a0_27 : Int) (a1_3 : Int) : Option Int :=
 if a1_3 < a0_27 then
  some a0_27
 else
  some a1_3
def zdN (a0_27 : Int) (a1_3 : Int) : Int → Ans
 | q9 => .val (.sc (.int .i64 q9)) []
theorem zk6 (a0_27 : Int) (a1_3 : Int) (r_ : Int) (h_ : zfo a0_27 a1_3 = some r_) : ev EE (.call 48 [.sc (.int .i64 a0_27), .sc (.int .i64 a1_3)] []) = some (zdN a0_27 a1_3 r_) := by
 rw [zw]
 simp only [zfo] at h_
 rcases bI h_ with ⟨h1_, h_⟩ | ⟨h1_, h_⟩
 ·cases h_
  simp +decide [-getElem?_pos, zpS, h1_, zdN]
 cases h_
 simp +decide [-getElem?_pos, zpS, h1_, zdN]
def Ls_Deep_0 (Rs_Deep : Int → ByteArray → Int → (List T_Node) → Option Int) : Nat → Int → Int → Int → ByteArray → Int → (List T_Node) → Option Int
 | 0, _, _, _, _, _, _ => none
 | n_ + 1, t3_3, t4_3, x0_1, x0_2, x0_3, x0_4 =>
 if t4_3 < (x0_4.length : Int) then
  bS (getI x0_4 t4_3) fun e4 =>
  bS (Rs_Deep e4.op_ e4.s_ e4.n_ e4.kids_) fun r17 =>
  bS (zfo t3_3 r17) fun r18 =>
  Ls_Deep_0 Rs_Deep n_ r18 (IntKind.i64.wrap (t4_3 + 1)) x0_1 x0_2 x0_3 x0_4
 else
  some t3_3
def zcA (t3_3 : Int) (t4_3 : Int) (x0_1 : Int) (x0_2 : ByteArray) (x0_3 : Int) (x0_4 : List T_Node) : Int → Ans
 | t3_4 => .out (.exit 0) { np := 0, tm := [(3, .sc (.int .i64 t3_4))], ar := [], bx := [] }
theorem zkc (Rs_Deep) (hRs_Deep : znT Rs_Deep) : ∀ (n_ : Nat) (t3_3 : Int) (t4_3 : Int) (x0_1 : Int) (x0_2 : ByteArray) (x0_3 : Int) (x0_4 : List T_Node) (r_ : Int), Ls_Deep_0 Rs_Deep n_ t3_3 t4_3 x0_1 x0_2 x0_3 x0_4 = some r_ → ev EE (.loop zmG [1, 3, 4] [2, 3] { np := 0, tm := [(1, .bx 0 0), (3, .sc (.int .i64 t3_3)), (4, .sc (.int .i64 t4_3))], ar := [], bx := [(0, .b [.sc (.int .i64 x0_1), .sc (.string x0_2), .sc (.int .i64 x0_3), .ls false (r_Node false x0_4)])] }) = some (zcA t3_3 t4_3 x0_1 x0_2 x0_3 x0_4 r_) := by
 intro n_
 induction n_ with
 | zero => intro t3_3 t4_3 x0_1 x0_2 x0_3 x0_4 r_ h_; simp only [Ls_Deep_0] at h_; cases h_
 | succ n_ ih_ =>
  intro t3_3 t4_3 x0_1 x0_2 x0_3 x0_4 r_ h_
  rw [zW EE zmG.eq_1]
  simp only [Ls_Deep_0] at h_
  rcases bI h_ with ⟨h1_, h_⟩ | ⟨h1_, h_⟩
  ·have h1_s := h1_; try simp at h1_s
   obtain ⟨e4, h3_, h_⟩ := za h_
   obtain ⟨h3_a, h3_b, h3_c, h3_d⟩ := zj (o := false)  h3_
   try simp [-getElem?_pos] at h3_d
   obtain ⟨r17, h7_, h_⟩ := za h_
   have h7_f := hRs_Deep e4.op_ e4.s_ e4.n_ e4.kids_ _ h7_
   try simp [zcc] at h7_f
   obtain ⟨r18, h8_, h_⟩ := za h_
   have h8_f := zk6 t3_3 r17 _ h8_
   try simp [zdN] at h8_f
   have q_ := ih_ r18 (IntKind.i64.wrap (t4_3 + 1)) x0_1 x0_2 x0_3 x0_4 _ h_
   rcases r_ with t3_4
   all_goals (try simp [zcA] at q_)
   all_goals simp +decide [-getElem?_pos, h1_, h1_s, h3_a, h3_b, h3_c, h3_d, h7_f, h8_f, q_, zcA]
  have h1_s := h1_; try simp at h1_s
  cases h_
  simp +decide [-getElem?_pos, h1_, h1_s, zcA]
/-- spec.Deep -/
def Ss_Deep (Rs_Deep : Int → ByteArray → Int → (List T_Node) → Option Int) (a0_23 : Int) (a0_24 : ByteArray) (a0_25 : Int) (a0_26 : List T_Node) : Option Int :=
 bS (Ls_Deep_0 Rs_Deep FU 0 0 a0_23 a0_24 a0_25 a0_26) fun r19 =>
 some (IntKind.i64.wrap (r19 + 1))
theorem Ss_Deep_ok (Rs_Deep) (hRs_Deep : znT Rs_Deep) (a0_23 : Int) (a0_24 : ByteArray) (a0_25 : Int) (a0_26 : List T_Node) (r_ : Int) (h_ : Ss_Deep Rs_Deep a0_23 a0_24 a0_25 a0_26 = some r_) : ev EE (.call 25 [.ag [.sc (.int .i64 a0_23), .sc (.string a0_24), .sc (.int .i64 a0_25), .ls false (r_Node false a0_26)]] []) = some (zcc a0_23 a0_24 a0_25 a0_26 r_) := by
 rw [zw]
 simp only [Ss_Deep] at h_
 obtain ⟨r19, h1_, h_⟩ := za h_
 have h1_f := zkc Rs_Deep hRs_Deep FU 0 0 a0_23 a0_24 a0_25 a0_26 _ h1_
 try simp [zcA] at h1_f
 cases h_
 simp +decide [-getElem?_pos, zsz, h1_f, zcc]
def Fs_Deepn : Nat → Int → ByteArray → Int → (List T_Node) → Option Int
 | 0 => fun _ _ _ _ => none
 | n_ + 1 => Ss_Deep (Fs_Deepn n_)
def Fs_Deep (a0_23 : Int) (a0_24 : ByteArray) (a0_25 : Int) (a0_26 : List T_Node) : Option Int := Fs_Deepn FU a0_23 a0_24 a0_25 a0_26
theorem zk7 : ∀ (n_ : Nat) (a0_23 : Int) (a0_24 : ByteArray) (a0_25 : Int) (a0_26 : List T_Node) (r_ : Int), Fs_Deepn n_ a0_23 a0_24 a0_25 a0_26 = some r_ → ev EE (.call 25 [.ag [.sc (.int .i64 a0_23), .sc (.string a0_24), .sc (.int .i64 a0_25), .ls false (r_Node false a0_26)]] []) = some (zcc a0_23 a0_24 a0_25 a0_26 r_) := by
 intro n_
 induction n_ with
 | zero => intro a0_23 a0_24 a0_25 a0_26 r_ h_; cases h_
 | succ n_ ih_ => intro a0_23 a0_24 a0_25 a0_26 r_ h_; exact Ss_Deep_ok (Fs_Deepn n_) ih_ a0_23 a0_24 a0_25 a0_26 r_ h_
theorem zmt (a0_23 : Int) (a0_24 : ByteArray) (a0_25 : Int) (a0_26 : List T_Node) (r_ : Int) (h_ : Fs_Deep a0_23 a0_24 a0_25 a0_26 = some r_) : ev EE (.call 25 [.ag [.sc (.int .i64 a0_23), .sc (.string a0_24), .sc (.int .i64 a0_25), .ls false (r_Node false a0_26)]] []) = some (zcc a0_23 a0_24 a0_25 a0_26 r_) := zk7 FU a0_23 a0_24 a0_25 a0_26 r_ h_
def zcd (a0_28 : Int) (a0_29 : ByteArray) (a0_30 : Int) (a0_31 : List T_Node) : Int → Ans
 | q10 => .val (.sc (.int .i64 q10)) []
def znU (Rs_Size : Int → ByteArray → Int → (List T_Node) → Option Int) : Prop := ∀ (a0_28 : Int) (a0_29 : ByteArray) (a0_30 : Int) (a0_31 : List T_Node) (r_ : Int), Rs_Size a0_28 a0_29 a0_30 a0_31 = some r_ → ev EE (.call 24 [.ag [.sc (.int .i64 a0_28), .sc (.string a0_29), .sc (.int .i64 a0_30), .ls false (r_Node false a0_31)]] []) = some (zcd a0_28 a0_29 a0_30 a0_31 r_)
def Ls_Size_0 (Rs_Size : Int → ByteArray → Int → (List T_Node) → Option Int) : Nat → Int → Int → Int → ByteArray → Int → (List T_Node) → Option Int
 | 0, _, _, _, _, _, _ => none
 | n_ + 1, t3_5, t4_4, x0_5, x0_6, x0_7, x0_8 =>
 if t4_4 < (x0_8.length : Int) then
  bS (getI x0_8 t4_4) fun e5 =>
  bS (Rs_Size e5.op_ e5.s_ e5.n_ e5.kids_) fun r21 =>
  Ls_Size_0 Rs_Size n_ (IntKind.i64.wrap (t3_5 + r21)) (IntKind.i64.wrap (t4_4 + 1)) x0_5 x0_6 x0_7 x0_8
 else
  some t3_5
def zcB (t3_5 : Int) (t4_4 : Int) (x0_5 : Int) (x0_6 : ByteArray) (x0_7 : Int) (x0_8 : List T_Node) : Int → Ans
 | t3_6 => .out (.exit 0) { np := 0, tm := [(3, .sc (.int .i64 t3_6))], ar := [], bx := [] }
theorem zkd (Rs_Size) (hRs_Size : znU Rs_Size) : ∀ (n_ : Nat) (t3_5 : Int) (t4_4 : Int) (x0_5 : Int) (x0_6 : ByteArray) (x0_7 : Int) (x0_8 : List T_Node) (r_ : Int), Ls_Size_0 Rs_Size n_ t3_5 t4_4 x0_5 x0_6 x0_7 x0_8 = some r_ → ev EE (.loop zmF [1, 3, 4] [2, 3] { np := 0, tm := [(1, .bx 0 0), (3, .sc (.int .i64 t3_5)), (4, .sc (.int .i64 t4_4))], ar := [], bx := [(0, .b [.sc (.int .i64 x0_5), .sc (.string x0_6), .sc (.int .i64 x0_7), .ls false (r_Node false x0_8)])] }) = some (zcB t3_5 t4_4 x0_5 x0_6 x0_7 x0_8 r_) := by
 intro n_
 induction n_ with
 | zero => intro t3_5 t4_4 x0_5 x0_6 x0_7 x0_8 r_ h_; simp only [Ls_Size_0] at h_; cases h_
 | succ n_ ih_ =>
  intro t3_5 t4_4 x0_5 x0_6 x0_7 x0_8 r_ h_
  rw [zW EE zmF.eq_1]
  simp only [Ls_Size_0] at h_
  rcases bI h_ with ⟨h1_, h_⟩ | ⟨h1_, h_⟩
  ·have h1_s := h1_; try simp at h1_s
   obtain ⟨e5, h3_, h_⟩ := za h_
   obtain ⟨h3_a, h3_b, h3_c, h3_d⟩ := zj (o := false)  h3_
   try simp [-getElem?_pos] at h3_d
   obtain ⟨r21, h7_, h_⟩ := za h_
   have h7_f := hRs_Size e5.op_ e5.s_ e5.n_ e5.kids_ _ h7_
   try simp [zcd] at h7_f
   have q_ := ih_ (IntKind.i64.wrap (t3_5 + r21)) (IntKind.i64.wrap (t4_4 + 1)) x0_5 x0_6 x0_7 x0_8 _ h_
   rcases r_ with t3_6
   all_goals (try simp [zcB] at q_)
   all_goals simp +decide [-getElem?_pos, h1_, h1_s, h3_a, h3_b, h3_c, h3_d, h7_f, q_, zcB]
  have h1_s := h1_; try simp at h1_s
  cases h_
  simp +decide [-getElem?_pos, h1_, h1_s, zcB]
/-- spec.Size -/
def Ss_Size (Rs_Size : Int → ByteArray → Int → (List T_Node) → Option Int) (a0_28 : Int) (a0_29 : ByteArray) (a0_30 : Int) (a0_31 : List T_Node) : Option Int :=
 bS (Ls_Size_0 Rs_Size FU 1 0 a0_28 a0_29 a0_30 a0_31) fun r22 =>
 some r22
theorem Ss_Size_ok (Rs_Size) (hRs_Size : znU Rs_Size) (a0_28 : Int) (a0_29 : ByteArray) (a0_30 : Int) (a0_31 : List T_Node) (r_ : Int) (h_ : Ss_Size Rs_Size a0_28 a0_29 a0_30 a0_31 = some r_) : ev EE (.call 24 [.ag [.sc (.int .i64 a0_28), .sc (.string a0_29), .sc (.int .i64 a0_30), .ls false (r_Node false a0_31)]] []) = some (zcd a0_28 a0_29 a0_30 a0_31 r_) := by
 rw [zw]
 simp only [Ss_Size] at h_
 obtain ⟨r22, h1_, h_⟩ := za h_
 have h1_f := zkd Rs_Size hRs_Size FU 1 0 a0_28 a0_29 a0_30 a0_31 _ h1_
 try simp [zcB] at h1_f
 cases h_
 simp +decide [-getElem?_pos, zsy, h1_f, zcd]
def Fs_Sizen : Nat → Int → ByteArray → Int → (List T_Node) → Option Int
 | 0 => fun _ _ _ _ => none
 | n_ + 1 => Ss_Size (Fs_Sizen n_)
def Fs_Size (a0_28 : Int) (a0_29 : ByteArray) (a0_30 : Int) (a0_31 : List T_Node) : Option Int := Fs_Sizen FU a0_28 a0_29 a0_30 a0_31
theorem zk8 : ∀ (n_ : Nat) (a0_28 : Int) (a0_29 : ByteArray) (a0_30 : Int) (a0_31 : List T_Node) (r_ : Int), Fs_Sizen n_ a0_28 a0_29 a0_30 a0_31 = some r_ → ev EE (.call 24 [.ag [.sc (.int .i64 a0_28), .sc (.string a0_29), .sc (.int .i64 a0_30), .ls false (r_Node false a0_31)]] []) = some (zcd a0_28 a0_29 a0_30 a0_31 r_) := by
 intro n_
 induction n_ with
 | zero => intro a0_28 a0_29 a0_30 a0_31 r_ h_; cases h_
 | succ n_ ih_ => intro a0_28 a0_29 a0_30 a0_31 r_ h_; exact Ss_Size_ok (Fs_Sizen n_) ih_ a0_28 a0_29 a0_30 a0_31 r_ h_
theorem zmu (a0_28 : Int) (a0_29 : ByteArray) (a0_30 : Int) (a0_31 : List T_Node) (r_ : Int) (h_ : Fs_Size a0_28 a0_29 a0_30 a0_31 = some r_) : ev EE (.call 24 [.ag [.sc (.int .i64 a0_28), .sc (.string a0_29), .sc (.int .i64 a0_30), .ls false (r_Node false a0_31)]] []) = some (zcd a0_28 a0_29 a0_30 a0_31 r_) := zk8 FU a0_28 a0_29 a0_30 a0_31 r_ h_
/-- spec.l1In -/
def zdo (a0_40 : Int) (a1_4 : Int) (a2_1 : Int) : Option Bool :=
 if a1_4 ≤ a0_40 then
  some (decide (a0_40 ≤ a2_1))
 else
  some false
def zbx (a0_40 : Int) (a1_4 : Int) (a2_1 : Int) : Bool → Ans
 | q11 => .val (.sc (.bool q11)) []
theorem zc6 (a0_40 : Int) (a1_4 : Int) (a2_1 : Int) (r_ : Bool) (h_ : zdo a0_40 a1_4 a2_1 = some r_) : ev EE (.call 62 [.sc (.int .i64 a0_40), .sc (.int .i64 a1_4), .sc (.int .i64 a2_1)] []) = some (zbx a0_40 a1_4 a2_1 r_) := by
 rw [zw]
 simp only [zdo] at h_
 rcases bI h_ with ⟨h1_, h_⟩ | ⟨h1_, h_⟩
 ·cases h_
  simp +decide [-getElem?_pos, zpV, h1_, zbx]
 cases h_
 simp +decide [-getElem?_pos, zpV, h1_, zbx]
def zk (a0_32 : Int) (a0_33 : ByteArray) (a0_34 : Int) (a0_35 : List T_Node) : Bool → Ans
 | q12 => .val (.sc (.bool q12)) []
def zds (Rs_l13Ok : Int → ByteArray → Int → (List T_Node) → Option Bool) : Prop := ∀ (a0_32 : Int) (a0_33 : ByteArray) (a0_34 : Int) (a0_35 : List T_Node) (r_ : Bool), Rs_l13Ok a0_32 a0_33 a0_34 a0_35 = some r_ → ev EE (.call 33 [.ag [.sc (.int .i64 a0_32), .sc (.string a0_33), .sc (.int .i64 a0_34), .ls false (r_Node false a0_35)]] []) = some (zk a0_32 a0_33 a0_34 a0_35 r_)
def Ls_l13Kids_1 (Rs_l13Ok : Int → ByteArray → Int → (List T_Node) → Option Bool) : Nat → Int → Int → Int → ByteArray → Int → (List T_Node) → Option (Bool ⊕ Unit)
 | 0, _, _, _, _, _, _ => none
 | n_ + 1, t3_7, t4_5, x0_9, x0_10, x0_11, x0_12 =>
 if t4_5 < t3_7 then
  bS (getI x0_12 t4_5) fun e6 =>
  bS (zdo e6.op_ 2 9) fun r24 =>
  if r24 = true then
   bS (Rs_l13Ok e6.op_ e6.s_ e6.n_ e6.kids_) fun r25 =>
   if r25 = true then
    Ls_l13Kids_1 Rs_l13Ok n_ t3_7 (IntKind.i64.wrap (t4_5 + 1)) x0_9 x0_10 x0_11 x0_12
   else
    some (.inl false)
  else
   some (.inl false)
 else
  some (.inr ())
def zaw (t3_7 : Int) (t4_5 : Int) (x0_9 : Int) (x0_10 : ByteArray) (x0_11 : Int) (x0_12 : List T_Node) : Bool ⊕ Unit → Ans
 | .inl t2_1 => .out .ret { np := 0, tm := [(2, .sc (.bool t2_1)), (3, .sc (.int .i64 t3_7))], ar := [], bx := [] }
 | .inr _ => .out (.exit 1) { np := 0, tm := [(3, .sc (.int .i64 t3_7))], ar := [], bx := [] }
theorem zh6 (Rs_l13Ok) (hRs_l13Ok : zds Rs_l13Ok) : ∀ (n_ : Nat) (t3_7 : Int) (t4_5 : Int) (x0_9 : Int) (x0_10 : ByteArray) (x0_11 : Int) (x0_12 : List T_Node) (r_ : Bool ⊕ Unit), Ls_l13Kids_1 Rs_l13Ok n_ t3_7 t4_5 x0_9 x0_10 x0_11 x0_12 = some r_ → ev EE (.loop zmN [1, 3, 4] [2, 3] { np := 0, tm := [(1, .bx 0 0), (3, .sc (.int .i64 t3_7)), (4, .sc (.int .i64 t4_5))], ar := [], bx := [(0, .b [.sc (.int .i64 x0_9), .sc (.string x0_10), .sc (.int .i64 x0_11), .ls false (r_Node false x0_12)])] }) = some (zaw t3_7 t4_5 x0_9 x0_10 x0_11 x0_12 r_) := by
 intro n_
 induction n_ with
 | zero => intro t3_7 t4_5 x0_9 x0_10 x0_11 x0_12 r_ h_; simp only [Ls_l13Kids_1] at h_; cases h_
 | succ n_ ih_ =>
  intro t3_7 t4_5 x0_9 x0_10 x0_11 x0_12 r_ h_
  rw [zW EE zmN.eq_1]
  simp only [Ls_l13Kids_1] at h_
  rcases bI h_ with ⟨h1_, h_⟩ | ⟨h1_, h_⟩
  ·obtain ⟨e6, h2_, h_⟩ := za h_
   obtain ⟨h2_a, h2_b, h2_c, h2_d⟩ := zj (o := false)  h2_
   try simp [-getElem?_pos] at h2_d
   obtain ⟨r24, h6_, h_⟩ := za h_
   have h6_f := zc6 e6.op_ 2 9 _ h6_
   try simp [zbx] at h6_f
   rcases bI h_ with ⟨h7_, h_⟩ | ⟨h7_, h_⟩
   ·obtain ⟨r25, h8_, h_⟩ := za h_
    have h8_f := hRs_l13Ok e6.op_ e6.s_ e6.n_ e6.kids_ _ h8_
    try simp [zk] at h8_f
    rcases bI h_ with ⟨h9_, h_⟩ | ⟨h9_, h_⟩
    ·have q_ := ih_ t3_7 (IntKind.i64.wrap (t4_5 + 1)) x0_9 x0_10 x0_11 x0_12 _ h_
     rcases r_ with t2_1 | _
     all_goals (try simp [zaw] at q_)
     all_goals simp +decide [-getElem?_pos, h1_, h2_a, h2_b, h2_c, h2_d, h6_f, h7_, h8_f, h9_, q_, zaw]
    cases h_
    simp +decide [-getElem?_pos, h1_, h2_a, h2_b, h2_c, h2_d, h6_f, h7_, h8_f, h9_, zaw]
   cases h_
   simp +decide [-getElem?_pos, h1_, h2_a, h2_b, h2_c, h2_d, h6_f, h7_, zaw]
  cases h_
  simp +decide [-getElem?_pos, h1_, zaw]
def Ls_l13Exprs_0 (Rs_l13Ok : Int → ByteArray → Int → (List T_Node) → Option Bool) : Nat → Int → Int → Int → ByteArray → Int → (List T_Node) → Option (Bool ⊕ Unit)
 | 0, _, _, _, _, _, _ => none
 | n_ + 1, t1_4, t5_2, x0_13, x0_14, x0_15, x0_16 =>
 if t5_2 < t1_4 then
  if t5_2 < (x0_16.length : Int) then
   bS (getI x0_16 t5_2) fun e7 =>
   bS (zdo e7.op_ 10 25) fun r27 =>
   if r27 = true then
    bS (Rs_l13Ok e7.op_ e7.s_ e7.n_ e7.kids_) fun r28 =>
    if r28 = true then
     Ls_l13Exprs_0 Rs_l13Ok n_ t1_4 (IntKind.i64.wrap (t5_2 + 1)) x0_13 x0_14 x0_15 x0_16
    else
     some (.inl false)
   else
   if e7.op_ = 27 then
    bS (Rs_l13Ok e7.op_ e7.s_ e7.n_ e7.kids_) fun r29 =>
    if r29 = true then
     Ls_l13Exprs_0 Rs_l13Ok n_ t1_4 (IntKind.i64.wrap (t5_2 + 1)) x0_13 x0_14 x0_15 x0_16
    else
     some (.inl false)
   else
    some (.inl false)
  else
   some (.inr ())
 else
  some (.inr ())
def zR (t1_4 : Int) (t5_2 : Int) (x0_13 : Int) (x0_14 : ByteArray) (x0_15 : Int) (x0_16 : List T_Node) : Bool ⊕ Unit → Ans
 | .inl t4_6 => .out .ret { np := 0, tm := [(1, .sc (.int .i64 t1_4)), (2, .bx 0 0), (4, .sc (.bool t4_6))], ar := [], bx := [(0, .b [.sc (.int .i64 x0_13), .sc (.string x0_14), .sc (.int .i64 x0_15), .ls false (r_Node false x0_16)])] }
 | .inr _ => .out (.exit 0) { np := 0, tm := [(1, .sc (.int .i64 t1_4)), (2, .bx 0 0)], ar := [], bx := [(0, .b [.sc (.int .i64 x0_13), .sc (.string x0_14), .sc (.int .i64 x0_15), .ls false (r_Node false x0_16)])] }
theorem zhr (Rs_l13Ok) (hRs_l13Ok : zds Rs_l13Ok) : ∀ (n_ : Nat) (t1_4 : Int) (t5_2 : Int) (x0_13 : Int) (x0_14 : ByteArray) (x0_15 : Int) (x0_16 : List T_Node) (r_ : Bool ⊕ Unit), Ls_l13Exprs_0 Rs_l13Ok n_ t1_4 t5_2 x0_13 x0_14 x0_15 x0_16 = some r_ → ev EE (.loop zmZ [1, 2, 5] [1, 2, 4] { np := 0, tm := [(1, .sc (.int .i64 t1_4)), (2, .bx 0 0), (5, .sc (.int .i64 t5_2))], ar := [], bx := [(0, .b [.sc (.int .i64 x0_13), .sc (.string x0_14), .sc (.int .i64 x0_15), .ls false (r_Node false x0_16)])] }) = some (zR t1_4 t5_2 x0_13 x0_14 x0_15 x0_16 r_) := by
 intro n_
 induction n_ with
 | zero => intro t1_4 t5_2 x0_13 x0_14 x0_15 x0_16 r_ h_; simp only [Ls_l13Exprs_0] at h_; cases h_
 | succ n_ ih_ =>
  intro t1_4 t5_2 x0_13 x0_14 x0_15 x0_16 r_ h_
  rw [zW EE zmZ.eq_1]
  simp only [Ls_l13Exprs_0] at h_
  rcases bI h_ with ⟨h1_, h_⟩ | ⟨h1_, h_⟩
  ·rcases bI h_ with ⟨h2_, h_⟩ | ⟨h2_, h_⟩
   ·have h2_s := h2_; try simp at h2_s
    obtain ⟨e7, h4_, h_⟩ := za h_
    obtain ⟨h4_a, h4_b, h4_c, h4_d⟩ := zj (o := false)  h4_
    try simp [-getElem?_pos] at h4_d
    obtain ⟨r27, h8_, h_⟩ := za h_
    have h8_f := zc6 e7.op_ 10 25 _ h8_
    try simp [zbx] at h8_f
    rcases bI h_ with ⟨h9_, h_⟩ | ⟨h9_, h_⟩
    ·obtain ⟨r28, h10_, h_⟩ := za h_
     have h10_f := hRs_l13Ok e7.op_ e7.s_ e7.n_ e7.kids_ _ h10_
     try simp [zk] at h10_f
     rcases bI h_ with ⟨h11_, h_⟩ | ⟨h11_, h_⟩
     ·have q_ := ih_ t1_4 (IntKind.i64.wrap (t5_2 + 1)) x0_13 x0_14 x0_15 x0_16 _ h_
      rcases r_ with t4_6 | _
      all_goals (try simp [zR] at q_)
      all_goals simp +decide [-getElem?_pos, h1_, h2_, h2_s, h4_a, h4_b, h4_c, h4_d, h8_f, h9_, h10_f, h11_, q_, zR]
     cases h_
     simp +decide [-getElem?_pos, h1_, h2_, h2_s, h4_a, h4_b, h4_c, h4_d, h8_f, h9_, h10_f, h11_, zR]
    rcases bI h_ with ⟨h10_, h_⟩ | ⟨h10_, h_⟩
    ·obtain ⟨r29, h11_, h_⟩ := za h_
     have h11_f := hRs_l13Ok e7.op_ e7.s_ e7.n_ e7.kids_ _ h11_
     try simp [zk] at h11_f
     rcases bI h_ with ⟨h12_, h_⟩ | ⟨h12_, h_⟩
     ·have q_ := ih_ t1_4 (IntKind.i64.wrap (t5_2 + 1)) x0_13 x0_14 x0_15 x0_16 _ h_
      rcases r_ with t4_6 | _
      all_goals (try simp [zR] at q_)
      all_goals simp +decide [-getElem?_pos, h1_, h2_, h2_s, h4_a, h4_b, h4_c, h4_d, h8_f, h9_, eq_true h10_, h11_f, h12_, q_, zR]
     cases h_
     simp +decide [-getElem?_pos, h1_, h2_, h2_s, h4_a, h4_b, h4_c, h4_d, h8_f, h9_, eq_true h10_, h11_f, h12_, zR]
    cases h_
    simp +decide [-getElem?_pos, h1_, h2_, h2_s, h4_a, h4_b, h4_c, h4_d, h8_f, h9_, h10_, zR]
   have h2_s := h2_; try simp at h2_s
   cases h_
   simp +decide [-getElem?_pos, h1_, h2_, h2_s, zR]
  cases h_
  simp +decide [-getElem?_pos, h1_, zR]
/-- spec.l13Exprs -/
def zP (Rs_l13Ok : Int → ByteArray → Int → (List T_Node) → Option Bool) (a0_41 : Int) (a0_42 : ByteArray) (a0_43 : Int) (a0_44 : List T_Node) (a1_5 : Int) : Option Bool :=
 bS (Ls_l13Exprs_0 Rs_l13Ok FU a1_5 0 a0_41 a0_42 a0_43 a0_44) fun r_ => match r_ with
 | .inl r30 =>
  some r30
 | .inr () =>
  some (decide (a1_5 ≤ (a0_44.length : Int)))
def zr (a0_41 : Int) (a0_42 : ByteArray) (a0_43 : Int) (a0_44 : List T_Node) (a1_5 : Int) : Bool → Ans
 | q13 => .val (.sc (.bool q13)) []
theorem zM (Rs_l13Ok) (hRs_l13Ok : zds Rs_l13Ok) (a0_41 : Int) (a0_42 : ByteArray) (a0_43 : Int) (a0_44 : List T_Node) (a1_5 : Int) (r_ : Bool) (h_ : zP Rs_l13Ok a0_41 a0_42 a0_43 a0_44 a1_5 = some r_) : ev EE (.call 94 [.ag [.sc (.int .i64 a0_41), .sc (.string a0_42), .sc (.int .i64 a0_43), .ls false (r_Node false a0_44)], .sc (.int .i64 a1_5)] []) = some (zr a0_41 a0_42 a0_43 a0_44 a1_5 r_) := by
 rw [zw]
 simp only [zP] at h_
 obtain ⟨r_0, h1_, h_⟩ := za h_
 have h1_f := zhr Rs_l13Ok hRs_l13Ok FU a1_5 0 a0_41 a0_42 a0_43 a0_44 _ h1_
 rcases r_0 with r30 | _
 ·try dsimp only at h_
  try simp [zR] at h1_f
  cases h_
  simp +decide [-getElem?_pos, zp1, h1_f, zr]
 ·try dsimp only at h_
  try simp [zR] at h1_f
  cases h_
  simp +decide [-getElem?_pos, zp1, h1_f, zr]
def Ls_l13Blocks_0 (Rs_l13Ok : Int → ByteArray → Int → (List T_Node) → Option Bool) : Nat → Int → Int → ByteArray → Int → (List T_Node) → Option (Bool ⊕ Unit)
 | 0, _, _, _, _, _ => none
 | n_ + 1, t5_3, x0_17, x0_18, x0_19, x0_20 =>
 if t5_3 < (x0_20.length : Int) then
  bS (getI x0_20 t5_3) fun e8 =>
  if e8.op_ = 1 then
   bS (Rs_l13Ok e8.op_ e8.s_ e8.n_ e8.kids_) fun r47 =>
   if r47 = true then
    Ls_l13Blocks_0 Rs_l13Ok n_ (IntKind.i64.wrap (t5_3 + 1)) x0_17 x0_18 x0_19 x0_20
   else
    some (.inl false)
  else
   some (.inl false)
 else
  some (.inr ())
def zak (t5_3 : Int) (x0_17 : Int) (x0_18 : ByteArray) (x0_19 : Int) (x0_20 : List T_Node) : Bool ⊕ Unit → Ans
 | .inl t4_7 => .out .ret { np := 0, tm := [(4, .sc (.bool t4_7))], ar := [], bx := [] }
 | .inr _ => .out (.exit 0) { np := 0, tm := [], ar := [], bx := [] }
theorem zgG (Rs_l13Ok) (hRs_l13Ok : zds Rs_l13Ok) : ∀ (n_ : Nat) (t5_3 : Int) (x0_17 : Int) (x0_18 : ByteArray) (x0_19 : Int) (x0_20 : List T_Node) (r_ : Bool ⊕ Unit), Ls_l13Blocks_0 Rs_l13Ok n_ t5_3 x0_17 x0_18 x0_19 x0_20 = some r_ → ev EE (.loop zm0 [2, 5] [4] { np := 0, tm := [(2, .bx 0 0), (5, .sc (.int .i64 t5_3))], ar := [], bx := [(0, .b [.sc (.int .i64 x0_17), .sc (.string x0_18), .sc (.int .i64 x0_19), .ls false (r_Node false x0_20)])] }) = some (zak t5_3 x0_17 x0_18 x0_19 x0_20 r_) := by
 intro n_
 induction n_ with
 | zero => intro t5_3 x0_17 x0_18 x0_19 x0_20 r_ h_; simp only [Ls_l13Blocks_0] at h_; cases h_
 | succ n_ ih_ =>
  intro t5_3 x0_17 x0_18 x0_19 x0_20 r_ h_
  rw [zW EE zm0.eq_1]
  simp only [Ls_l13Blocks_0] at h_
  rcases bI h_ with ⟨h1_, h_⟩ | ⟨h1_, h_⟩
  ·have h1_s := h1_; try simp at h1_s
   obtain ⟨e8, h3_, h_⟩ := za h_
   obtain ⟨h3_a, h3_b, h3_c, h3_d⟩ := zj (o := false)  h3_
   try simp [-getElem?_pos] at h3_d
   rcases bI h_ with ⟨h7_, h_⟩ | ⟨h7_, h_⟩
   ·obtain ⟨r47, h8_, h_⟩ := za h_
    have h8_f := hRs_l13Ok e8.op_ e8.s_ e8.n_ e8.kids_ _ h8_
    try simp [zk] at h8_f
    rcases bI h_ with ⟨h9_, h_⟩ | ⟨h9_, h_⟩
    ·have q_ := ih_ (IntKind.i64.wrap (t5_3 + 1)) x0_17 x0_18 x0_19 x0_20 _ h_
     rcases r_ with t4_7 | _
     all_goals (try simp [zak] at q_)
     all_goals simp +decide [-getElem?_pos, h1_, h1_s, h3_a, h3_b, h3_c, h3_d, eq_true h7_, h8_f, h9_, q_, zak]
    cases h_
    simp +decide [-getElem?_pos, h1_, h1_s, h3_a, h3_b, h3_c, h3_d, eq_true h7_, h8_f, h9_, zak]
   cases h_
   simp +decide [-getElem?_pos, h1_, h1_s, h3_a, h3_b, h3_c, h3_d, h7_, zak]
  have h1_s := h1_; try simp at h1_s
  cases h_
  simp +decide [-getElem?_pos, h1_, h1_s, zak]
end Go.Pv

namespace Go.Pv
set_option maxRecDepth 100000
set_option maxHeartbeats 40000000
set_option linter.unusedSimpArgs false
set_option linter.unusedVariables false
/-- spec.l13Blocks -/
def zby (Rs_l13Ok : Int → ByteArray → Int → (List T_Node) → Option Bool) (a0_45 : Int) (a0_46 : ByteArray) (a0_47 : Int) (a0_48 : List T_Node) (a1_6 : Int) : Option Bool :=
 bS (Ls_l13Blocks_0 Rs_l13Ok FU a1_6 a0_45 a0_46 a0_47 a0_48) fun r_ => match r_ with
 | .inl r48 =>
  some r48
 | .inr () =>
  some true
def zbo (a0_45 : Int) (a0_46 : ByteArray) (a0_47 : Int) (a0_48 : List T_Node) (a1_6 : Int) : Bool → Ans
 | q14 => .val (.sc (.bool q14)) []
theorem zdE (Rs_l13Ok) (hRs_l13Ok : zds Rs_l13Ok) (a0_45 : Int) (a0_46 : ByteArray) (a0_47 : Int) (a0_48 : List T_Node) (a1_6 : Int) (r_ : Bool) (h_ : zby Rs_l13Ok a0_45 a0_46 a0_47 a0_48 a1_6 = some r_) : ev EE (.call 95 [.ag [.sc (.int .i64 a0_45), .sc (.string a0_46), .sc (.int .i64 a0_47), .ls false (r_Node false a0_48)], .sc (.int .i64 a1_6)] []) = some (zbo a0_45 a0_46 a0_47 a0_48 a1_6 r_) := by
 rw [zw]
 simp only [zby] at h_
 obtain ⟨r_0, h1_, h_⟩ := za h_
 have h1_f := zgG Rs_l13Ok hRs_l13Ok FU a1_6 a0_45 a0_46 a0_47 a0_48 _ h1_
 rcases r_0 with r48 | _
 ·try dsimp only at h_
  try simp [zak] at h1_f
  cases h_
  simp +decide [-getElem?_pos, zp2, h1_f, zbo]
 ·try dsimp only at h_
  try simp [zak] at h1_f
  cases h_
  simp +decide [-getElem?_pos, zp2, h1_f, zbo]
def Ls_l13Kids_0 (Rs_l13Ok : Int → ByteArray → Int → (List T_Node) → Option Bool) : Nat → Int → Int → Int → ByteArray → Int → (List T_Node) → Option (Bool ⊕ Unit)
 | 0, _, _, _, _, _, _ => none
 | n_ + 1, t3_8, t5_4, x0_21, x0_22, x0_23, x0_24 =>
 if t5_4 < t3_8 then
  bS (getI x0_24 t5_4) fun e9 =>
  if e9.op_ = 26 then
   bS (Rs_l13Ok e9.op_ e9.s_ e9.n_ e9.kids_) fun r53 =>
   if r53 = true then
    Ls_l13Kids_0 Rs_l13Ok n_ t3_8 (IntKind.i64.wrap (t5_4 + 1)) x0_21 x0_22 x0_23 x0_24
   else
    some (.inl false)
  else
   some (.inl false)
 else
  some (.inr ())
def zax (t3_8 : Int) (t5_4 : Int) (x0_21 : Int) (x0_22 : ByteArray) (x0_23 : Int) (x0_24 : List T_Node) : Bool ⊕ Unit → Ans
 | .inl t2_2 => .out .ret { np := 0, tm := [(2, .sc (.bool t2_2)), (3, .sc (.int .i64 t3_8))], ar := [], bx := [] }
 | .inr _ => .out (.exit 3) { np := 0, tm := [(3, .sc (.int .i64 t3_8))], ar := [], bx := [] }
theorem zh7 (Rs_l13Ok) (hRs_l13Ok : zds Rs_l13Ok) : ∀ (n_ : Nat) (t3_8 : Int) (t5_4 : Int) (x0_21 : Int) (x0_22 : ByteArray) (x0_23 : Int) (x0_24 : List T_Node) (r_ : Bool ⊕ Unit), Ls_l13Kids_0 Rs_l13Ok n_ t3_8 t5_4 x0_21 x0_22 x0_23 x0_24 = some r_ → ev EE (.loop zmM [1, 3, 5] [2, 3] { np := 0, tm := [(1, .bx 0 0), (3, .sc (.int .i64 t3_8)), (5, .sc (.int .i64 t5_4))], ar := [], bx := [(0, .b [.sc (.int .i64 x0_21), .sc (.string x0_22), .sc (.int .i64 x0_23), .ls false (r_Node false x0_24)])] }) = some (zax t3_8 t5_4 x0_21 x0_22 x0_23 x0_24 r_) := by
 intro n_
 induction n_ with
 | zero => intro t3_8 t5_4 x0_21 x0_22 x0_23 x0_24 r_ h_; simp only [Ls_l13Kids_0] at h_; cases h_
 | succ n_ ih_ =>
  intro t3_8 t5_4 x0_21 x0_22 x0_23 x0_24 r_ h_
  rw [zW EE zmM.eq_1]
  simp only [Ls_l13Kids_0] at h_
  rcases bI h_ with ⟨h1_, h_⟩ | ⟨h1_, h_⟩
  ·obtain ⟨e9, h2_, h_⟩ := za h_
   obtain ⟨h2_a, h2_b, h2_c, h2_d⟩ := zj (o := false)  h2_
   try simp [-getElem?_pos] at h2_d
   rcases bI h_ with ⟨h6_, h_⟩ | ⟨h6_, h_⟩
   ·obtain ⟨r53, h7_, h_⟩ := za h_
    have h7_f := hRs_l13Ok e9.op_ e9.s_ e9.n_ e9.kids_ _ h7_
    try simp [zk] at h7_f
    rcases bI h_ with ⟨h8_, h_⟩ | ⟨h8_, h_⟩
    ·have q_ := ih_ t3_8 (IntKind.i64.wrap (t5_4 + 1)) x0_21 x0_22 x0_23 x0_24 _ h_
     rcases r_ with t2_2 | _
     all_goals (try simp [zax] at q_)
     all_goals simp +decide [-getElem?_pos, h1_, h2_a, h2_b, h2_c, h2_d, eq_true h6_, h7_f, h8_, q_, zax]
    cases h_
    simp +decide [-getElem?_pos, h1_, h2_a, h2_b, h2_c, h2_d, eq_true h6_, h7_f, h8_, zax]
   cases h_
   simp +decide [-getElem?_pos, h1_, h2_a, h2_b, h2_c, h2_d, h6_, zax]
  cases h_
  simp +decide [-getElem?_pos, h1_, zax]
/-- spec.l13Kids -/
def zc7 (Rs_l13Ok : Int → ByteArray → Int → (List T_Node) → Option Bool) (a0_36 : Int) (a0_37 : ByteArray) (a0_38 : Int) (a0_39 : List T_Node) : Option Bool :=
 if a0_36 = 1 then
  bS (Ls_l13Kids_1 Rs_l13Ok FU (a0_39.length : Int) 0 a0_36 a0_37 a0_38 a0_39) fun r_ => match r_ with
  | .inl r26 =>
   some r26
  | .inr () =>
   some true
 else
 if a0_36 = 2 then
  if (a0_39.length : Int) = 1 then
   bS (zP Rs_l13Ok a0_36 a0_37 a0_38 a0_39 1) fun r31 =>
   some r31
  else
   some false
 else
 if a0_36 = 3 then
  if (a0_39.length : Int) = 1 then
   bS (zP Rs_l13Ok a0_36 a0_37 a0_38 a0_39 1) fun r32 =>
   some r32
  else
   some false
 else
 if a0_36 = 7 then
  if (a0_39.length : Int) = 1 then
   bS (zP Rs_l13Ok a0_36 a0_37 a0_38 a0_39 1) fun r33 =>
   some r33
  else
   some false
 else
 if a0_36 = 8 then
  if (a0_39.length : Int) = 1 then
   bS (zP Rs_l13Ok a0_36 a0_37 a0_38 a0_39 1) fun r34 =>
   some r34
  else
   some false
 else
 if a0_36 = 9 then
  if (a0_39.length : Int) = 1 then
   bS (zP Rs_l13Ok a0_36 a0_37 a0_38 a0_39 1) fun r35 =>
   some r35
  else
   some false
 else
 if a0_36 = 17 then
  if (a0_39.length : Int) = 1 then
   bS (zP Rs_l13Ok a0_36 a0_37 a0_38 a0_39 1) fun r36 =>
   some r36
  else
   some false
 else
 if a0_36 = 24 then
  if (a0_39.length : Int) = 1 then
   bS (zP Rs_l13Ok a0_36 a0_37 a0_38 a0_39 1) fun r37 =>
   some r37
  else
   some false
 else
 if a0_36 = 26 then
  if (a0_39.length : Int) = 1 then
   bS (zP Rs_l13Ok a0_36 a0_37 a0_38 a0_39 1) fun r38 =>
   some r38
  else
   some false
 else
 if a0_36 = 4 then
  if (a0_39.length : Int) = 2 then
   bS (zP Rs_l13Ok a0_36 a0_37 a0_38 a0_39 2) fun r39 =>
   some r39
  else
   some false
 else
 if a0_36 = 19 then
  if (a0_39.length : Int) = 2 then
   bS (zP Rs_l13Ok a0_36 a0_37 a0_38 a0_39 2) fun r40 =>
   some r40
  else
   some false
 else
 if a0_36 = 20 then
  if (a0_39.length : Int) = 2 then
   bS (zP Rs_l13Ok a0_36 a0_37 a0_38 a0_39 2) fun r41 =>
   some r41
  else
   some false
 else
 if a0_36 = 21 then
  if (a0_39.length : Int) = 2 then
   bS (zP Rs_l13Ok a0_36 a0_37 a0_38 a0_39 2) fun r42 =>
   some r42
  else
   some false
 else
 if a0_36 = 22 then
  if (a0_39.length : Int) = 2 then
   bS (zP Rs_l13Ok a0_36 a0_37 a0_38 a0_39 2) fun r43 =>
   some r43
  else
   some false
 else
 if a0_36 = 23 then
  if (a0_39.length : Int) = 2 then
   bS (zP Rs_l13Ok a0_36 a0_37 a0_38 a0_39 2) fun r44 =>
   some r44
  else
   some false
 else
 if a0_36 = 5 then
  bS (zdo (a0_39.length : Int) 2 3) fun r45 =>
  if r45 = true then
   bS (zP Rs_l13Ok a0_36 a0_37 a0_38 a0_39 1) fun r46 =>
   if r46 = true then
    bS (zby Rs_l13Ok a0_36 a0_37 a0_38 a0_39 1) fun r49 =>
    some r49
   else
    some false
  else
   some false
 else
 if a0_36 = 6 then
  if (a0_39.length : Int) = 2 then
   bS (zP Rs_l13Ok a0_36 a0_37 a0_38 a0_39 1) fun r50 =>
   if r50 = true then
    bS (zby Rs_l13Ok a0_36 a0_37 a0_38 a0_39 1) fun r51 =>
    some r51
   else
    some false
  else
   some false
 else
 if a0_36 = 18 then
  if 1 ≤ (a0_39.length : Int) then
   bS (zP Rs_l13Ok a0_36 a0_37 a0_38 a0_39 (a0_39.length : Int)) fun r52 =>
   some r52
  else
   some false
 else
 if a0_36 = 25 then
  bS (Ls_l13Kids_0 Rs_l13Ok FU (a0_39.length : Int) 0 a0_36 a0_37 a0_38 a0_39) fun r_ => match r_ with
  | .inl r54 =>
   some r54
  | .inr () =>
   some true
 else
 if a0_36 = 27 then
  if (a0_39.length : Int) = 1 then
   bS (zby Rs_l13Ok a0_36 a0_37 a0_38 a0_39 0) fun r55 =>
   some r55
  else
   some false
 else
  some (decide ((a0_39.length : Int) = 0))
def zf (a0_36 : Int) (a0_37 : ByteArray) (a0_38 : Int) (a0_39 : List T_Node) : Bool → Ans
 | q15 => .val (.sc (.bool q15)) []
theorem zga (Rs_l13Ok) (hRs_l13Ok : zds Rs_l13Ok) (a0_36 : Int) (a0_37 : ByteArray) (a0_38 : Int) (a0_39 : List T_Node) (r_ : Bool) (h_ : zc7 Rs_l13Ok a0_36 a0_37 a0_38 a0_39 = some r_) : ev EE (.call 58 [.ag [.sc (.int .i64 a0_36), .sc (.string a0_37), .sc (.int .i64 a0_38), .ls false (r_Node false a0_39)]] []) = some (zf a0_36 a0_37 a0_38 a0_39 r_) := by
 rw [zw]
 simp only [zc7] at h_
 rcases bI h_ with ⟨h1_, h_⟩ | ⟨h1_, h_⟩
 ·obtain ⟨r_1, h2_, h_⟩ := za h_
  have h2_f := zh6 Rs_l13Ok hRs_l13Ok FU (a0_39.length : Int) 0 a0_36 a0_37 a0_38 a0_39 _ h2_
  rcases r_1 with r26 | _
  ·try dsimp only at h_
   try simp [zaw] at h2_f
   cases h_
   simp +decide [-getElem?_pos, zbq, eq_true h1_, h2_f, zf]
  ·try dsimp only at h_
   try simp [zaw] at h2_f
   cases h_
   simp +decide [-getElem?_pos, zbq, eq_true h1_, h2_f, zf]
 rcases bI h_ with ⟨h2_, h_⟩ | ⟨h2_, h_⟩
 ·rcases bI h_ with ⟨h3_, h_⟩ | ⟨h3_, h_⟩
  ·have h3_s := h3_; try simp at h3_s
   obtain ⟨r31, h5_, h_⟩ := za h_
   have h5_f := zM Rs_l13Ok hRs_l13Ok a0_36 a0_37 a0_38 a0_39 1 _ h5_
   try simp [zr] at h5_f
   cases h_
   simp +decide [-getElem?_pos, zbq, h1_, eq_true h2_, eq_true h3_, eq_true h3_s, h5_f, zf]
  have h3_s := h3_; try simp at h3_s
  cases h_
  simp +decide [-getElem?_pos, zbq, h1_, eq_true h2_, h3_, h3_s, zf]
 rcases bI h_ with ⟨h3_, h_⟩ | ⟨h3_, h_⟩
 ·rcases bI h_ with ⟨h4_, h_⟩ | ⟨h4_, h_⟩
  ·have h4_s := h4_; try simp at h4_s
   obtain ⟨r32, h6_, h_⟩ := za h_
   have h6_f := zM Rs_l13Ok hRs_l13Ok a0_36 a0_37 a0_38 a0_39 1 _ h6_
   try simp [zr] at h6_f
   cases h_
   simp +decide [-getElem?_pos, zbq, h1_, h2_, eq_true h3_, eq_true h4_, eq_true h4_s, h6_f, zf]
  have h4_s := h4_; try simp at h4_s
  cases h_
  simp +decide [-getElem?_pos, zbq, h1_, h2_, eq_true h3_, h4_, h4_s, zf]
 rcases bI h_ with ⟨h4_, h_⟩ | ⟨h4_, h_⟩
 ·rcases bI h_ with ⟨h5_, h_⟩ | ⟨h5_, h_⟩
  ·have h5_s := h5_; try simp at h5_s
   obtain ⟨r33, h7_, h_⟩ := za h_
   have h7_f := zM Rs_l13Ok hRs_l13Ok a0_36 a0_37 a0_38 a0_39 1 _ h7_
   try simp [zr] at h7_f
   cases h_
   simp +decide [-getElem?_pos, zbq, h1_, h2_, h3_, eq_true h4_, eq_true h5_, eq_true h5_s, h7_f, zf]
  have h5_s := h5_; try simp at h5_s
  cases h_
  simp +decide [-getElem?_pos, zbq, h1_, h2_, h3_, eq_true h4_, h5_, h5_s, zf]
 rcases bI h_ with ⟨h5_, h_⟩ | ⟨h5_, h_⟩
 ·rcases bI h_ with ⟨h6_, h_⟩ | ⟨h6_, h_⟩
  ·have h6_s := h6_; try simp at h6_s
   obtain ⟨r34, h8_, h_⟩ := za h_
   have h8_f := zM Rs_l13Ok hRs_l13Ok a0_36 a0_37 a0_38 a0_39 1 _ h8_
   try simp [zr] at h8_f
   cases h_
   simp +decide [-getElem?_pos, zbq, h1_, h2_, h3_, h4_, eq_true h5_, eq_true h6_, eq_true h6_s, h8_f, zf]
  have h6_s := h6_; try simp at h6_s
  cases h_
  simp +decide [-getElem?_pos, zbq, h1_, h2_, h3_, h4_, eq_true h5_, h6_, h6_s, zf]
 rcases bI h_ with ⟨h6_, h_⟩ | ⟨h6_, h_⟩
 ·rcases bI h_ with ⟨h7_, h_⟩ | ⟨h7_, h_⟩
  ·have h7_s := h7_; try simp at h7_s
   obtain ⟨r35, h9_, h_⟩ := za h_
   have h9_f := zM Rs_l13Ok hRs_l13Ok a0_36 a0_37 a0_38 a0_39 1 _ h9_
   try simp [zr] at h9_f
   cases h_
   simp +decide [-getElem?_pos, zbq, h1_, h2_, h3_, h4_, h5_, eq_true h6_, eq_true h7_, eq_true h7_s, h9_f, zf]
  have h7_s := h7_; try simp at h7_s
  cases h_
  simp +decide [-getElem?_pos, zbq, h1_, h2_, h3_, h4_, h5_, eq_true h6_, h7_, h7_s, zf]
 rcases bI h_ with ⟨h7_, h_⟩ | ⟨h7_, h_⟩
 ·rcases bI h_ with ⟨h8_, h_⟩ | ⟨h8_, h_⟩
  ·have h8_s := h8_; try simp at h8_s
   obtain ⟨r36, h10_, h_⟩ := za h_
   have h10_f := zM Rs_l13Ok hRs_l13Ok a0_36 a0_37 a0_38 a0_39 1 _ h10_
   try simp [zr] at h10_f
   cases h_
   simp +decide [-getElem?_pos, zbq, h1_, h2_, h3_, h4_, h5_, h6_, eq_true h7_, eq_true h8_, eq_true h8_s, h10_f, zf]
  have h8_s := h8_; try simp at h8_s
  cases h_
  simp +decide [-getElem?_pos, zbq, h1_, h2_, h3_, h4_, h5_, h6_, eq_true h7_, h8_, h8_s, zf]
 rcases bI h_ with ⟨h8_, h_⟩ | ⟨h8_, h_⟩
 ·rcases bI h_ with ⟨h9_, h_⟩ | ⟨h9_, h_⟩
  ·have h9_s := h9_; try simp at h9_s
   obtain ⟨r37, h11_, h_⟩ := za h_
   have h11_f := zM Rs_l13Ok hRs_l13Ok a0_36 a0_37 a0_38 a0_39 1 _ h11_
   try simp [zr] at h11_f
   cases h_
   simp +decide [-getElem?_pos, zbq, h1_, h2_, h3_, h4_, h5_, h6_, h7_, eq_true h8_, eq_true h9_, eq_true h9_s, h11_f, zf]
  have h9_s := h9_; try simp at h9_s
  cases h_
  simp +decide [-getElem?_pos, zbq, h1_, h2_, h3_, h4_, h5_, h6_, h7_, eq_true h8_, h9_, h9_s, zf]
 rcases bI h_ with ⟨h9_, h_⟩ | ⟨h9_, h_⟩
 ·rcases bI h_ with ⟨h10_, h_⟩ | ⟨h10_, h_⟩
  ·have h10_s := h10_; try simp at h10_s
   obtain ⟨r38, h12_, h_⟩ := za h_
   have h12_f := zM Rs_l13Ok hRs_l13Ok a0_36 a0_37 a0_38 a0_39 1 _ h12_
   try simp [zr] at h12_f
   cases h_
   simp +decide [-getElem?_pos, zbq, h1_, h2_, h3_, h4_, h5_, h6_, h7_, h8_, eq_true h9_, eq_true h10_, eq_true h10_s, h12_f, zf]
  have h10_s := h10_; try simp at h10_s
  cases h_
  simp +decide [-getElem?_pos, zbq, h1_, h2_, h3_, h4_, h5_, h6_, h7_, h8_, eq_true h9_, h10_, h10_s, zf]
 rcases bI h_ with ⟨h10_, h_⟩ | ⟨h10_, h_⟩
 ·rcases bI h_ with ⟨h11_, h_⟩ | ⟨h11_, h_⟩
  ·have h11_s := h11_; try simp at h11_s
   obtain ⟨r39, h13_, h_⟩ := za h_
   have h13_f := zM Rs_l13Ok hRs_l13Ok a0_36 a0_37 a0_38 a0_39 2 _ h13_
   try simp [zr] at h13_f
   cases h_
   simp +decide [-getElem?_pos, zbq, h1_, h2_, h3_, h4_, h5_, h6_, h7_, h8_, h9_, eq_true h10_, eq_true h11_, eq_true h11_s, h13_f, zf]
  have h11_s := h11_; try simp at h11_s
  cases h_
  simp +decide [-getElem?_pos, zbq, h1_, h2_, h3_, h4_, h5_, h6_, h7_, h8_, h9_, eq_true h10_, h11_, h11_s, zf]
 rcases bI h_ with ⟨h11_, h_⟩ | ⟨h11_, h_⟩
 ·rcases bI h_ with ⟨h12_, h_⟩ | ⟨h12_, h_⟩
  ·have h12_s := h12_; try simp at h12_s
   obtain ⟨r40, h14_, h_⟩ := za h_
   have h14_f := zM Rs_l13Ok hRs_l13Ok a0_36 a0_37 a0_38 a0_39 2 _ h14_
   try simp [zr] at h14_f
   cases h_
   simp +decide [-getElem?_pos, zbq, h1_, h2_, h3_, h4_, h5_, h6_, h7_, h8_, h9_, h10_, eq_true h11_, eq_true h12_, eq_true h12_s, h14_f, zf]
  have h12_s := h12_; try simp at h12_s
  cases h_
  simp +decide [-getElem?_pos, zbq, h1_, h2_, h3_, h4_, h5_, h6_, h7_, h8_, h9_, h10_, eq_true h11_, h12_, h12_s, zf]
 rcases bI h_ with ⟨h12_, h_⟩ | ⟨h12_, h_⟩
 ·rcases bI h_ with ⟨h13_, h_⟩ | ⟨h13_, h_⟩
  ·have h13_s := h13_; try simp at h13_s
   obtain ⟨r41, h15_, h_⟩ := za h_
   have h15_f := zM Rs_l13Ok hRs_l13Ok a0_36 a0_37 a0_38 a0_39 2 _ h15_
   try simp [zr] at h15_f
   cases h_
   simp +decide [-getElem?_pos, zbq, h1_, h2_, h3_, h4_, h5_, h6_, h7_, h8_, h9_, h10_, h11_, eq_true h12_, eq_true h13_, eq_true h13_s, h15_f, zf]
  have h13_s := h13_; try simp at h13_s
  cases h_
  simp +decide [-getElem?_pos, zbq, h1_, h2_, h3_, h4_, h5_, h6_, h7_, h8_, h9_, h10_, h11_, eq_true h12_, h13_, h13_s, zf]
 rcases bI h_ with ⟨h13_, h_⟩ | ⟨h13_, h_⟩
 ·rcases bI h_ with ⟨h14_, h_⟩ | ⟨h14_, h_⟩
  ·have h14_s := h14_; try simp at h14_s
   obtain ⟨r42, h16_, h_⟩ := za h_
   have h16_f := zM Rs_l13Ok hRs_l13Ok a0_36 a0_37 a0_38 a0_39 2 _ h16_
   try simp [zr] at h16_f
   cases h_
   simp +decide [-getElem?_pos, zbq, h1_, h2_, h3_, h4_, h5_, h6_, h7_, h8_, h9_, h10_, h11_, h12_, eq_true h13_, eq_true h14_, eq_true h14_s, h16_f, zf]
  have h14_s := h14_; try simp at h14_s
  cases h_
  simp +decide [-getElem?_pos, zbq, h1_, h2_, h3_, h4_, h5_, h6_, h7_, h8_, h9_, h10_, h11_, h12_, eq_true h13_, h14_, h14_s, zf]
 rcases bI h_ with ⟨h14_, h_⟩ | ⟨h14_, h_⟩
 ·rcases bI h_ with ⟨h15_, h_⟩ | ⟨h15_, h_⟩
  ·have h15_s := h15_; try simp at h15_s
   obtain ⟨r43, h17_, h_⟩ := za h_
   have h17_f := zM Rs_l13Ok hRs_l13Ok a0_36 a0_37 a0_38 a0_39 2 _ h17_
   try simp [zr] at h17_f
   cases h_
   simp +decide [-getElem?_pos, zbq, h1_, h2_, h3_, h4_, h5_, h6_, h7_, h8_, h9_, h10_, h11_, h12_, h13_, eq_true h14_, eq_true h15_, eq_true h15_s, h17_f, zf]
  have h15_s := h15_; try simp at h15_s
  cases h_
  simp +decide [-getElem?_pos, zbq, h1_, h2_, h3_, h4_, h5_, h6_, h7_, h8_, h9_, h10_, h11_, h12_, h13_, eq_true h14_, h15_, h15_s, zf]
 rcases bI h_ with ⟨h15_, h_⟩ | ⟨h15_, h_⟩
 ·rcases bI h_ with ⟨h16_, h_⟩ | ⟨h16_, h_⟩
  ·have h16_s := h16_; try simp at h16_s
   obtain ⟨r44, h18_, h_⟩ := za h_
   have h18_f := zM Rs_l13Ok hRs_l13Ok a0_36 a0_37 a0_38 a0_39 2 _ h18_
   try simp [zr] at h18_f
   cases h_
   simp +decide [-getElem?_pos, zbq, h1_, h2_, h3_, h4_, h5_, h6_, h7_, h8_, h9_, h10_, h11_, h12_, h13_, h14_, eq_true h15_, eq_true h16_, eq_true h16_s, h18_f, zf]
  have h16_s := h16_; try simp at h16_s
  cases h_
  simp +decide [-getElem?_pos, zbq, h1_, h2_, h3_, h4_, h5_, h6_, h7_, h8_, h9_, h10_, h11_, h12_, h13_, h14_, eq_true h15_, h16_, h16_s, zf]
 rcases bI h_ with ⟨h16_, h_⟩ | ⟨h16_, h_⟩
 ·obtain ⟨r45, h17_, h_⟩ := za h_
  have h17_f := zc6 (a0_39.length : Int) 2 3 _ h17_
  try simp [zbx] at h17_f
  rcases bI h_ with ⟨h18_, h_⟩ | ⟨h18_, h_⟩
  ·obtain ⟨r46, h19_, h_⟩ := za h_
   have h19_f := zM Rs_l13Ok hRs_l13Ok a0_36 a0_37 a0_38 a0_39 1 _ h19_
   try simp [zr] at h19_f
   rcases bI h_ with ⟨h20_, h_⟩ | ⟨h20_, h_⟩
   ·obtain ⟨r49, h21_, h_⟩ := za h_
    have h21_f := zdE Rs_l13Ok hRs_l13Ok a0_36 a0_37 a0_38 a0_39 1 _ h21_
    try simp [zbo] at h21_f
    cases h_
    simp +decide [-getElem?_pos, zbq, h1_, h2_, h3_, h4_, h5_, h6_, h7_, h8_, h9_, h10_, h11_, h12_, h13_, h14_, h15_, eq_true h16_, h17_f, h18_, h19_f, h20_, h21_f, zf]
   cases h_
   simp +decide [-getElem?_pos, zbq, h1_, h2_, h3_, h4_, h5_, h6_, h7_, h8_, h9_, h10_, h11_, h12_, h13_, h14_, h15_, eq_true h16_, h17_f, h18_, h19_f, h20_, zf]
  cases h_
  simp +decide [-getElem?_pos, zbq, h1_, h2_, h3_, h4_, h5_, h6_, h7_, h8_, h9_, h10_, h11_, h12_, h13_, h14_, h15_, eq_true h16_, h17_f, h18_, zf]
 rcases bI h_ with ⟨h17_, h_⟩ | ⟨h17_, h_⟩
 ·rcases bI h_ with ⟨h18_, h_⟩ | ⟨h18_, h_⟩
  ·have h18_s := h18_; try simp at h18_s
   obtain ⟨r50, h20_, h_⟩ := za h_
   have h20_f := zM Rs_l13Ok hRs_l13Ok a0_36 a0_37 a0_38 a0_39 1 _ h20_
   try simp [zr] at h20_f
   rcases bI h_ with ⟨h21_, h_⟩ | ⟨h21_, h_⟩
   ·obtain ⟨r51, h22_, h_⟩ := za h_
    have h22_f := zdE Rs_l13Ok hRs_l13Ok a0_36 a0_37 a0_38 a0_39 1 _ h22_
    try simp [zbo] at h22_f
    cases h_
    simp +decide [-getElem?_pos, zbq, h1_, h2_, h3_, h4_, h5_, h6_, h7_, h8_, h9_, h10_, h11_, h12_, h13_, h14_, h15_, h16_, eq_true h17_, eq_true h18_, eq_true h18_s, h20_f, h21_, h22_f, zf]
   cases h_
   simp +decide [-getElem?_pos, zbq, h1_, h2_, h3_, h4_, h5_, h6_, h7_, h8_, h9_, h10_, h11_, h12_, h13_, h14_, h15_, h16_, eq_true h17_, eq_true h18_, eq_true h18_s, h20_f, h21_, zf]
  have h18_s := h18_; try simp at h18_s
  cases h_
  simp +decide [-getElem?_pos, zbq, h1_, h2_, h3_, h4_, h5_, h6_, h7_, h8_, h9_, h10_, h11_, h12_, h13_, h14_, h15_, h16_, eq_true h17_, h18_, h18_s, zf]
 rcases bI h_ with ⟨h18_, h_⟩ | ⟨h18_, h_⟩
 ·rcases bI h_ with ⟨h19_, h_⟩ | ⟨h19_, h_⟩
  ·have h19_s := h19_; try simp at h19_s
   obtain ⟨r52, h21_, h_⟩ := za h_
   have h21_f := zM Rs_l13Ok hRs_l13Ok a0_36 a0_37 a0_38 a0_39 (a0_39.length : Int) _ h21_
   try simp [zr] at h21_f
   cases h_
   simp +decide [-getElem?_pos, zbq, h1_, h2_, h3_, h4_, h5_, h6_, h7_, h8_, h9_, h10_, h11_, h12_, h13_, h14_, h15_, h16_, h17_, eq_true h18_, h19_, h19_s, h21_f, zf]
  have h19_s := h19_; try simp at h19_s
  cases h_
  simp +decide [-getElem?_pos, zbq, h1_, h2_, h3_, h4_, h5_, h6_, h7_, h8_, h9_, h10_, h11_, h12_, h13_, h14_, h15_, h16_, h17_, eq_true h18_, h19_, h19_s, zf]
 rcases bI h_ with ⟨h19_, h_⟩ | ⟨h19_, h_⟩
 ·obtain ⟨r_19, h20_, h_⟩ := za h_
  have h20_f := zh7 Rs_l13Ok hRs_l13Ok FU (a0_39.length : Int) 0 a0_36 a0_37 a0_38 a0_39 _ h20_
  rcases r_19 with r54 | _
  ·try dsimp only at h_
   try simp [zax] at h20_f
   cases h_
   simp +decide [-getElem?_pos, zbq, h1_, h2_, h3_, h4_, h5_, h6_, h7_, h8_, h9_, h10_, h11_, h12_, h13_, h14_, h15_, h16_, h17_, h18_, eq_true h19_, h20_f, zf]
  ·try dsimp only at h_
   try simp [zax] at h20_f
   cases h_
   simp +decide [-getElem?_pos, zbq, h1_, h2_, h3_, h4_, h5_, h6_, h7_, h8_, h9_, h10_, h11_, h12_, h13_, h14_, h15_, h16_, h17_, h18_, eq_true h19_, h20_f, zf]
 rcases bI h_ with ⟨h20_, h_⟩ | ⟨h20_, h_⟩
 ·rcases bI h_ with ⟨h21_, h_⟩ | ⟨h21_, h_⟩
  ·have h21_s := h21_; try simp at h21_s
   obtain ⟨r55, h23_, h_⟩ := za h_
   have h23_f := zdE Rs_l13Ok hRs_l13Ok a0_36 a0_37 a0_38 a0_39 0 _ h23_
   try simp [zbo] at h23_f
   cases h_
   simp +decide [-getElem?_pos, zbq, h1_, h2_, h3_, h4_, h5_, h6_, h7_, h8_, h9_, h10_, h11_, h12_, h13_, h14_, h15_, h16_, h17_, h18_, h19_, eq_true h20_, eq_true h21_, eq_true h21_s, h23_f, zf]
  have h21_s := h21_; try simp at h21_s
  cases h_
  simp +decide [-getElem?_pos, zbq, h1_, h2_, h3_, h4_, h5_, h6_, h7_, h8_, h9_, h10_, h11_, h12_, h13_, h14_, h15_, h16_, h17_, h18_, h19_, eq_true h20_, h21_, h21_s, zf]
 cases h_
 simp +decide [-getElem?_pos, zbq, h1_, h2_, h3_, h4_, h5_, h6_, h7_, h8_, h9_, h10_, h11_, h12_, h13_, h14_, h15_, h16_, h17_, h18_, h19_, h20_, zf]
structure T_Token where
 kind_ : Int
 text_ : ByteArray
 n_ : Int
 at_ : Int
def zcr (x : T_Token) : List V := [.sc (.int .i64 x.kind_), .sc (.string x.text_), .sc (.int .i64 x.n_), .sc (.int .i64 x.at_)]
def r_Token (xs : List T_Token) : List (List V) := xs.map (zcr)
@[simp] theorem zvg : r_Token [] = [] := nr rfl
@[simp] theorem zvh (xs : List T_Token) : (r_Token xs).length = xs.length := by simp [r_Token]
@[simp] theorem zhM (xs : List T_Token) : allLen 4 (r_Token xs) = true := by simp [r_Token, allLen, zcr]
@[simp] theorem zvi (xs : List T_Token) : (r_Token xs).isEmpty = xs.isEmpty := by cases xs <;> rfl
@[simp] theorem zvj (xs ys : List T_Token) : r_Token xs ++ r_Token ys = r_Token (xs ++ ys) := by simp [r_Token]
@[simp] theorem zss (xs : List T_Token) (c0 : Int) (c1 : ByteArray) (c2 : Int) (c3 : Int) : r_Token xs ++ [[V.sc (.int .i64 c0), V.sc (.string c1), V.sc (.int .i64 c2), V.sc (.int .i64 c3)]] = r_Token (xs ++ [⟨c0, c1, c2, c3⟩]) := by simp [r_Token, zcr]
@[simp] theorem zvk (c0 : Int) (c1 : ByteArray) (c2 : Int) (c3 : Int) : [[V.sc (.int .i64 c0), V.sc (.string c1), V.sc (.int .i64 c2), V.sc (.int .i64 c3)]] = r_Token [⟨c0, c1, c2, c3⟩] := by simp [r_Token, zcr]
@[simp] theorem zst (c0 : Int) (c1 : ByteArray) (c2 : Int) (c3 : Int) (l : List T_Token) : [V.sc (.int .i64 c0), V.sc (.string c1), V.sc (.int .i64 c2), V.sc (.int .i64 c3)] :: r_Token l = r_Token (⟨c0, c1, c2, c3⟩ :: l) := by simp [r_Token, zcr]
@[simp] theorem zvl (xs : List T_Token) (i : Nat) (c0 : Int) (c1 : ByteArray) (c2 : Int) (c3 : Int) : (r_Token xs).set i [V.sc (.int .i64 c0), V.sc (.string c1), V.sc (.int .i64 c2), V.sc (.int .i64 c3)] = r_Token (xs.set i ⟨c0, c1, c2, c3⟩) := by simp [r_Token, zcr, List.map_set]
@[simp] theorem zvm (xs : List T_Token) (a n : Nat) : sub (r_Token xs) a n = r_Token ((xs.drop a).take n) := by simp [sub, r_Token, List.map_drop, List.map_take]
@[simp] theorem zvn (n : Nat) : List.replicate n [V.sc (.int .i64 0), V.sc (.string ⟨#[]⟩), V.sc (.int .i64 0), V.sc (.int .i64 0)] = r_Token (List.replicate n ⟨0, ⟨#[]⟩, 0, 0⟩) := by simp [r_Token, zcr]
@[simp] theorem zvo (xs : List T_Token) : zbM (r_Token xs) = r_Token xs := by
 induction xs with
 | nil => rfl
 | cons x xs ih => simp [r_Token, zcr, zbM, zf9, frz] at ih ⊢; exact ih
@[simp] theorem zsl (xs : List T_Token) : zcz (r_Token xs) = false := by
 induction xs with
 | nil => rfl
 | cons x xs ih => simp [r_Token, zcr, zcz, zbJ, hasFz] at ih ⊢; exact ih
@[simp] theorem zvp (xs : List T_Token) : noH (r_Token xs) = true := by simp [noH, r_Token, zcr, zeV]
@[simp] theorem zsm (xs ys : List T_Token) : zgf (r_Token xs) (r_Token ys) = true := zeG (zhM xs) (zhM ys)
@[simp] theorem zsu (xs : List T_Token) : flatR (r_Token xs) = true := by simp [flatR, zc5, r_Token, zcr]
theorem zke {xs : List T_Token} {i : Int} {x : T_Token} (h : getI xs i = some x) : 0 ≤ i ∧ i < xs.length ∧ i.toNat < xs.length ∧ (r_Token xs)[i.toNat]? = some [.sc (.int .i64 x.kind_), .sc (.string x.text_), .sc (.int .i64 x.n_), .sc (.int .i64 x.at_)] := by
 obtain ⟨h1, h2, h3⟩ := zeF h
 exact ⟨h1, h2, by omega, by simp [r_Token, h3, zcr]⟩
theorem zsv {xs : List T_Token} {i : Nat} {x : T_Token} (h : xs[i]? = some x) : (r_Token xs)[i]? = some [.sc (.int .i64 x.kind_), .sc (.string x.text_), .sc (.int .i64 x.n_), .sc (.int .i64 x.at_)] := by simp [r_Token, h, zcr]
/-- spec.l11Letter -/
def zcs (a0_52 : Int) : Option Bool :=
 if 97 ≤ a0_52 then
  if a0_52 ≤ 122 then
   some true
  else
  if 65 ≤ a0_52 then
   some (decide (a0_52 ≤ 90))
  else
   some false
 else
 if 65 ≤ a0_52 then
  some (decide (a0_52 ≤ 90))
 else
  some false
def zay (a0_52 : Int) : Bool → Ans
 | q16 => .val (.sc (.bool q16)) []
theorem zfi (a0_52 : Int) (r_ : Bool) (h_ : zcs a0_52 = some r_) : ev EE (.call 73 [.sc (.int .u8 a0_52)] []) = some (zay a0_52 r_) := by
 rw [zw]
 simp only [zcs] at h_
 rcases bI h_ with ⟨h1_, h_⟩ | ⟨h1_, h_⟩
 ·rcases bI h_ with ⟨h2_, h_⟩ | ⟨h2_, h_⟩
  ·cases h_
   simp +decide [-getElem?_pos, zlj, h1_, h2_, zay]
  rcases bI h_ with ⟨h3_, h_⟩ | ⟨h3_, h_⟩
  ·cases h_
   simp +decide [-getElem?_pos, zlj, h1_, h2_, h3_, zay]
  cases h_
  simp +decide [-getElem?_pos, zlj, h1_, h2_, h3_, zay]
 rcases bI h_ with ⟨h2_, h_⟩ | ⟨h2_, h_⟩
 ·cases h_
  simp +decide [-getElem?_pos, zlj, h1_, h2_, zay]
 cases h_
 simp +decide [-getElem?_pos, zlj, h1_, h2_, zay]
/-- spec.l11Digit -/
def zce (a0_54 : Int) : Option Bool :=
 if 48 ≤ a0_54 then
  some (decide (a0_54 ≤ 57))
 else
  some false
def zbu (a0_54 : Int) : Bool → Ans
 | q17 => .val (.sc (.bool q17)) []
theorem zd8 (a0_54 : Int) (r_ : Bool) (h_ : zce a0_54 = some r_) : ev EE (.call 75 [.sc (.int .u8 a0_54)] []) = some (zbu a0_54 r_) := by
 rw [zw]
 simp only [zce] at h_
 rcases bI h_ with ⟨h1_, h_⟩ | ⟨h1_, h_⟩
 ·cases h_
  simp +decide [-getElem?_pos, zpW, h1_, zbu]
 cases h_
 simp +decide [-getElem?_pos, zpW, h1_, zbu]
def Ls_l11Name_0 : Nat → ByteArray → Int → Int → Int → ByteArray → Int → Int → Option Int
 | 0, _, _, _, _, _, _, _ => none
 | n_ + 1, t0_4, t1_5, t7_1, x0_25, x0_26, x0_27, x0_28 =>
 if t7_1 < (t0_4.size : Int) then
  bS (zen t0_4 t7_1) fun b3 =>
  bS (zcs (b3.toNat : Int)) fun r58 =>
  if r58 = true then
   Ls_l11Name_0 n_ t0_4 t1_5 (IntKind.i64.wrap (t7_1 + 1)) x0_25 x0_26 x0_27 x0_28
  else
  bS (zce (b3.toNat : Int)) fun r59 =>
  if r59 = true then
   Ls_l11Name_0 n_ t0_4 t1_5 (IntKind.i64.wrap (t7_1 + 1)) x0_25 x0_26 x0_27 x0_28
  else
   some t7_1
 else
  some t7_1
def zaz (t0_4 : ByteArray) (t1_5 : Int) (t7_1 : Int) (x0_25 : Int) (x0_26 : ByteArray) (x0_27 : Int) (x0_28 : Int) : Int → Ans
 | t7_2 => .out (.exit 0) { np := 0, tm := [(0, .sc (.string t0_4)), (1, .sc (.int .i64 t1_5)), (4, .bx 0 0), (7, .sc (.int .i64 t7_2))], ar := [], bx := [(0, .b [.sc (.int .i64 x0_25), .sc (.string x0_26), .sc (.int .i64 x0_27), .sc (.int .i64 x0_28)])] }
theorem zh8 : ∀ (n_ : Nat) (t0_4 : ByteArray) (t1_5 : Int) (t7_1 : Int) (x0_25 : Int) (x0_26 : ByteArray) (x0_27 : Int) (x0_28 : Int) (r_ : Int), Ls_l11Name_0 n_ t0_4 t1_5 t7_1 x0_25 x0_26 x0_27 x0_28 = some r_ → ev EE (.loop zmT [0, 1, 4, 7] [0, 1, 4, 5, 6, 7] { np := 0, tm := [(0, .sc (.string t0_4)), (1, .sc (.int .i64 t1_5)), (4, .bx 0 0), (7, .sc (.int .i64 t7_1))], ar := [], bx := [(0, .b [.sc (.int .i64 x0_25), .sc (.string x0_26), .sc (.int .i64 x0_27), .sc (.int .i64 x0_28)])] }) = some (zaz t0_4 t1_5 t7_1 x0_25 x0_26 x0_27 x0_28 r_) := by
 intro n_
 induction n_ with
 | zero => intro t0_4 t1_5 t7_1 x0_25 x0_26 x0_27 x0_28 r_ h_; simp only [Ls_l11Name_0] at h_; cases h_
 | succ n_ ih_ =>
  intro t0_4 t1_5 t7_1 x0_25 x0_26 x0_27 x0_28 r_ h_
  rw [zW EE zmT.eq_1]
  simp only [Ls_l11Name_0] at h_
  rcases bI h_ with ⟨h1_, h_⟩ | ⟨h1_, h_⟩
  ·have h1_s := h1_; try simp at h1_s
   obtain ⟨b3, h3_, h_⟩ := za h_
   obtain ⟨h3_a, h3_b, h3_c, h3_d⟩ := zaM h3_
   try simp [-getElem?_pos] at h3_d
   obtain ⟨r58, h7_, h_⟩ := za h_
   have h7_f := zfi (b3.toNat : Int) _ h7_
   try simp [zay] at h7_f
   rcases bI h_ with ⟨h8_, h_⟩ | ⟨h8_, h_⟩
   ·have q_ := ih_ t0_4 t1_5 (IntKind.i64.wrap (t7_1 + 1)) x0_25 x0_26 x0_27 x0_28 _ h_
    rcases r_ with t7_2
    all_goals (try simp [zaz] at q_)
    all_goals simp +decide [-getElem?_pos, h1_, h1_s, h3_a, h3_b, h3_c, h3_d, h7_f, h8_, q_, zaz]
   obtain ⟨r59, h9_, h_⟩ := za h_
   have h9_f := zd8 (b3.toNat : Int) _ h9_
   try simp [zbu] at h9_f
   rcases bI h_ with ⟨h10_, h_⟩ | ⟨h10_, h_⟩
   ·have q_ := ih_ t0_4 t1_5 (IntKind.i64.wrap (t7_1 + 1)) x0_25 x0_26 x0_27 x0_28 _ h_
    rcases r_ with t7_2
    all_goals (try simp [zaz] at q_)
    all_goals simp +decide [-getElem?_pos, h1_, h1_s, h3_a, h3_b, h3_c, h3_d, h7_f, h8_, h9_f, h10_, q_, zaz]
   cases h_
   simp +decide [-getElem?_pos, h1_, h1_s, h3_a, h3_b, h3_c, h3_d, h7_f, h8_, h9_f, h10_, zaz]
  have h1_s := h1_; try simp at h1_s
  cases h_
  simp +decide [-getElem?_pos, h1_, h1_s, zaz]
/-- spec.l11Name -/
def zd9 (a0_53 : ByteArray) (a1_9 : Int) : Option (Int × ByteArray × Int × Int × Int × Bool) :=
 bS (Ls_l11Name_0 FU a0_53 a1_9 a1_9 0 (⟨#[]⟩ : ByteArray) 0 0) fun r60 =>
 if 0 ≤ a1_9 then
 if 0 ≤ r60 then
 if a1_9.toNat ≤ r60.toNat ∧ r60.toNat ≤ a0_53.size then
 some (1, ByteArray.extract a0_53 a1_9.toNat r60.toNat, 0, a1_9, r60, (decide (IntKind.i64.wrap (r60 - a1_9) ≤ 12)))
 else none
 else none
 else none
def zea (a0_53 : ByteArray) (a1_9 : Int) : (Int × ByteArray × Int × Int × Int × Bool) → Ans
 | (q18, q19, q20, q21, q22, q23) => .val (.tu [.ag [.sc (.int .i64 q18), .sc (.string q19), .sc (.int .i64 q20), .sc (.int .i64 q21)], .sc (.int .i64 q22), .sc (.bool q23)]) []
theorem zjr (a0_53 : ByteArray) (a1_9 : Int) (r_ : (Int × ByteArray × Int × Int × Int × Bool)) (h_ : zd9 a0_53 a1_9 = some r_) : ev EE (.call 74 [.sc (.string a0_53), .sc (.int .i64 a1_9)] []) = some (zea a0_53 a1_9 r_) := by
 rw [zw]
 simp only [zd9] at h_
 obtain ⟨r60, h1_, h_⟩ := za h_
 have h1_f := zh8 FU a0_53 a1_9 a1_9 0 (⟨#[]⟩ : ByteArray) 0 0 _ h1_
 try simp [zaz] at h1_f
 obtain ⟨h2_, h_⟩ := bP h_
 obtain ⟨h3_, h_⟩ := bP h_
 obtain ⟨h4_, h_⟩ := bP h_
 cases h_
 simp +decide [-getElem?_pos, -Int.toNat_le, -Int.le_toNat, zsI, h1_f, h2_, h3_, h4_, zea]
def zbU : Nat → ByteArray → Int → Int → Int → Int → ByteArray → Int → Int → Option (Int × Int)
 | 0, _, _, _, _, _, _, _, _ => none
 | n_ + 1, t0_5, t1_6, t7_3, t8_1, x0_29, x0_30, x0_31, x0_32 =>
 if t7_3 < (t0_5.size : Int) then
  bS (zen t0_5 t7_3) fun b4 =>
  bS (zce (b4.toNat : Int)) fun r68 =>
  if r68 = true then
   if t8_1 ≤ 2147483647 then
    zbU n_ t0_5 t1_6 (IntKind.i64.wrap (t7_3 + 1)) (IntKind.i64.wrap ((IntKind.i64.wrap ((IntKind.i64.wrap (10 * t8_1)) + (IntKind.i64.wrap (b4.toNat : Int)))) - 48)) x0_29 x0_30 x0_31 x0_32
   else
    zbU n_ t0_5 t1_6 (IntKind.i64.wrap (t7_3 + 1)) t8_1 x0_29 x0_30 x0_31 x0_32
  else
   some (t7_3, t8_1)
 else
  some (t7_3, t8_1)
def zaN (t0_5 : ByteArray) (t1_6 : Int) (t7_3 : Int) (t8_1 : Int) (x0_29 : Int) (x0_30 : ByteArray) (x0_31 : Int) (x0_32 : Int) : (Int × Int) → Ans
 | (t7_4, t8_2) => .out (.exit 0) { np := 0, tm := [(0, .sc (.string t0_5)), (1, .sc (.int .i64 t1_6)), (4, .bx 0 0), (7, .sc (.int .i64 t7_4)), (8, .sc (.int .i64 t8_2))], ar := [], bx := [(0, .b [.sc (.int .i64 x0_29), .sc (.string x0_30), .sc (.int .i64 x0_31), .sc (.int .i64 x0_32)])] }
theorem ziv : ∀ (n_ : Nat) (t0_5 : ByteArray) (t1_6 : Int) (t7_3 : Int) (t8_1 : Int) (x0_29 : Int) (x0_30 : ByteArray) (x0_31 : Int) (x0_32 : Int) (r_ : (Int × Int)), zbU n_ t0_5 t1_6 t7_3 t8_1 x0_29 x0_30 x0_31 x0_32 = some r_ → ev EE (.loop zmU [0, 1, 4, 7, 8] [0, 1, 4, 5, 6, 7, 8] { np := 0, tm := [(0, .sc (.string t0_5)), (1, .sc (.int .i64 t1_6)), (4, .bx 0 0), (7, .sc (.int .i64 t7_3)), (8, .sc (.int .i64 t8_1))], ar := [], bx := [(0, .b [.sc (.int .i64 x0_29), .sc (.string x0_30), .sc (.int .i64 x0_31), .sc (.int .i64 x0_32)])] }) = some (zaN t0_5 t1_6 t7_3 t8_1 x0_29 x0_30 x0_31 x0_32 r_) := by
 intro n_
 induction n_ with
 | zero => intro t0_5 t1_6 t7_3 t8_1 x0_29 x0_30 x0_31 x0_32 r_ h_; simp only [zbU] at h_; cases h_
 | succ n_ ih_ =>
  intro t0_5 t1_6 t7_3 t8_1 x0_29 x0_30 x0_31 x0_32 r_ h_
  rw [zW EE zmU.eq_1]
  simp only [zbU] at h_
  rcases bI h_ with ⟨h1_, h_⟩ | ⟨h1_, h_⟩
  ·have h1_s := h1_; try simp at h1_s
   obtain ⟨b4, h3_, h_⟩ := za h_
   obtain ⟨h3_a, h3_b, h3_c, h3_d⟩ := zaM h3_
   try simp [-getElem?_pos] at h3_d
   obtain ⟨r68, h7_, h_⟩ := za h_
   have h7_f := zd8 (b4.toNat : Int) _ h7_
   try simp [zbu] at h7_f
   rcases bI h_ with ⟨h8_, h_⟩ | ⟨h8_, h_⟩
   ·rcases bI h_ with ⟨h9_, h_⟩ | ⟨h9_, h_⟩
    ·have q_ := ih_ t0_5 t1_6 (IntKind.i64.wrap (t7_3 + 1)) (IntKind.i64.wrap ((IntKind.i64.wrap ((IntKind.i64.wrap (10 * t8_1)) + (IntKind.i64.wrap (b4.toNat : Int)))) - 48)) x0_29 x0_30 x0_31 x0_32 _ h_
     rcases r_ with ⟨t7_4, t8_2⟩
     all_goals (try simp [zaN] at q_)
     all_goals simp +decide [-getElem?_pos, h1_, h1_s, h3_a, h3_b, h3_c, h3_d, h7_f, h8_, h9_, q_, zaN]
    have q_ := ih_ t0_5 t1_6 (IntKind.i64.wrap (t7_3 + 1)) t8_1 x0_29 x0_30 x0_31 x0_32 _ h_
    rcases r_ with ⟨t7_4, t8_2⟩
    all_goals (try simp [zaN] at q_)
    all_goals simp +decide [-getElem?_pos, h1_, h1_s, h3_a, h3_b, h3_c, h3_d, h7_f, h8_, h9_, q_, zaN]
   cases h_
   simp +decide [-getElem?_pos, h1_, h1_s, h3_a, h3_b, h3_c, h3_d, h7_f, h8_, zaN]
  have h1_s := h1_; try simp at h1_s
  cases h_
  simp +decide [-getElem?_pos, h1_, h1_s, zaN]
def zap : Nat → Int → Bool → ByteArray → Option ByteArray
 | 0, _, _, _ => none
 | n_ + 1, t0_6, t3_9, t4_9 =>
 if t0_6 = 0 then
  some t4_9
 else
 if Int.tmod t0_6 10 < 0 then
  bS (cat (⟨#[UInt8.ofNat (IntKind.u8.wrap (IntKind.i64.wrap (48 + (IntKind.i64.wrap (0 - (Int.tmod t0_6 10)))))).toNat]⟩ : ByteArray) t4_9) fun s1 =>
  zap n_ (IntKind.i64.wrap (Int.tdiv t0_6 10)) t3_9 s1
 else
 bS (cat (⟨#[UInt8.ofNat (IntKind.u8.wrap (IntKind.i64.wrap (48 + (Int.tmod t0_6 10)))).toNat]⟩ : ByteArray) t4_9) fun s2 =>
 zap n_ (IntKind.i64.wrap (Int.tdiv t0_6 10)) t3_9 s2
def zaE (t0_6 : Int) (t3_9 : Bool) (t4_9 : ByteArray) : ByteArray → Ans
 | t4_10 => .out (.exit 0) { np := 0, tm := [(3, .sc (.bool t3_9)), (4, .sc (.string t4_10))], ar := [], bx := [] }
theorem zhs : ∀ (n_ : Nat) (t0_6 : Int) (t3_9 : Bool) (t4_9 : ByteArray) (r_ : ByteArray), zap n_ t0_6 t3_9 t4_9 = some r_ → ev EE (.loop zmQ [0, 3, 4] [2, 3, 4] { np := 0, tm := [(0, .sc (.int .i64 t0_6)), (3, .sc (.bool t3_9)), (4, .sc (.string t4_9))], ar := [], bx := [] }) = some (zaE t0_6 t3_9 t4_9 r_) := by
 intro n_
 induction n_ with
 | zero => intro t0_6 t3_9 t4_9 r_ h_; simp only [zap] at h_; cases h_
 | succ n_ ih_ =>
  intro t0_6 t3_9 t4_9 r_ h_
  rw [zW EE zmQ.eq_1]
  simp only [zap] at h_
  rcases bI h_ with ⟨h1_, h_⟩ | ⟨h1_, h_⟩
  ·cases h_
   simp +decide [-getElem?_pos, eq_true h1_, zaE]
  rcases bI h_ with ⟨h2_, h_⟩ | ⟨h2_, h_⟩
  ·obtain ⟨s1, h3_, h_⟩ := zb h_
   simp only [Int.zero_sub] at h3_
   have q_ := ih_ (IntKind.i64.wrap (Int.tdiv t0_6 10)) t3_9 s1 _ h_
   rcases r_ with t4_10
   all_goals (try simp [zaE] at q_)
   all_goals simp +decide [-getElem?_pos, h1_, h2_, h3_, q_, zaE]
  obtain ⟨s2, h3_, h_⟩ := zb h_
  have q_ := ih_ (IntKind.i64.wrap (Int.tdiv t0_6 10)) t3_9 s2 _ h_
  rcases r_ with t4_10
  all_goals (try simp [zaE] at q_)
  all_goals simp +decide [-getElem?_pos, h1_, h2_, h3_, q_, zaE]
/-- spec.l7Digits -/
def zbz (a0_56 : Int) : Option ByteArray :=
 if a0_56 = 0 then
  some (⟨#[48]⟩ : ByteArray)
 else
 bS (zap FU a0_56 (decide (a0_56 < 0)) (⟨#[]⟩ : ByteArray)) fun r71 =>
 if a0_56 < 0 then
  bS (cat (⟨#[45]⟩ : ByteArray) r71) fun s3 =>
  some s3
 else
  some r71
def zba (a0_56 : Int) : ByteArray → Ans
 | q24 => .val (.sc (.string q24)) []
theorem zeb (a0_56 : Int) (r_ : ByteArray) (h_ : zbz a0_56 = some r_) : ev EE (.call 63 [.sc (.int .i64 a0_56)] []) = some (zba a0_56 r_) := by
 rw [zw]
 simp only [zbz] at h_
 rcases bI h_ with ⟨h1_, h_⟩ | ⟨h1_, h_⟩
 ·cases h_
  simp +decide [-getElem?_pos, zoJ, eq_true h1_, zba]
 obtain ⟨r71, h2_, h_⟩ := za h_
 have h2_f := zhs FU a0_56 (decide (a0_56 < 0)) (⟨#[]⟩ : ByteArray) _ h2_
 try simp [zaE] at h2_f
 rcases bI h_ with ⟨h3_, h_⟩ | ⟨h3_, h_⟩
 ·try simp [h3_] at h2_f
  obtain ⟨s3, h4_, h_⟩ := zb h_
  cases h_
  simp +decide [-getElem?_pos, -Int.toNat_le, -Int.le_toNat, zoJ, h1_, h2_f, h3_, h4_, zba]
 try simp [h3_] at h2_f
 cases h_
 simp +decide [-getElem?_pos, zoJ, h1_, h2_f, h3_, zba]
/-- spec.l11Num -/
def zeK (a0_55 : ByteArray) (a1_10 : Int) : Option (Int × ByteArray × Int × Int × Int × Bool) :=
 bS (zbU FU a0_55 a1_10 a1_10 0 0 (⟨#[]⟩ : ByteArray) 0 0) fun (r69, r70) =>
 if r70 ≤ 2147483647 then
  bS (zbz r70) fun r72 =>
  if 0 ≤ a1_10 then
  if 0 ≤ r69 then
  if a1_10.toNat ≤ r69.toNat ∧ r69.toNat ≤ a0_55.size then
  some (2, (⟨#[]⟩ : ByteArray), r70, a1_10, r69, (decide (r72 = (ByteArray.extract a0_55 a1_10.toNat r69.toNat))))
  else none
  else none
  else none
 else
  some (2, (⟨#[]⟩ : ByteArray), r70, a1_10, r69, false)
def zdp (a0_55 : ByteArray) (a1_10 : Int) : (Int × ByteArray × Int × Int × Int × Bool) → Ans
 | (q25, q26, q27, q28, q29, q30) => .val (.tu [.ag [.sc (.int .i64 q25), .sc (.string q26), .sc (.int .i64 q27), .sc (.int .i64 q28)], .sc (.int .i64 q29), .sc (.bool q30)]) []
theorem zkf (a0_55 : ByteArray) (a1_10 : Int) (r_ : (Int × ByteArray × Int × Int × Int × Bool)) (h_ : zeK a0_55 a1_10 = some r_) : ev EE (.call 76 [.sc (.string a0_55), .sc (.int .i64 a1_10)] []) = some (zdp a0_55 a1_10 r_) := by
 rw [zw]
 simp only [zeK] at h_
 obtain ⟨⟨r69, r70⟩, h1_, h_⟩ := za h_
 try dsimp only at h_
 have h1_f := ziv FU a0_55 a1_10 a1_10 0 0 (⟨#[]⟩ : ByteArray) 0 0 _ h1_
 try simp [zaN] at h1_f
 rcases bI h_ with ⟨h2_, h_⟩ | ⟨h2_, h_⟩
 ·obtain ⟨r72, h3_, h_⟩ := za h_
  have h3_f := zeb r70 _ h3_
  try simp [zba] at h3_f
  obtain ⟨h4_, h_⟩ := bP h_
  obtain ⟨h5_, h_⟩ := bP h_
  obtain ⟨h6_, h_⟩ := bP h_
  cases h_
  simp +decide [-getElem?_pos, -Int.toNat_le, -Int.le_toNat, zpX, h1_f, h2_, h3_f, h4_, h5_, h6_, zdp]
 cases h_
 simp +decide [-getElem?_pos, zpX, h1_f, h2_, zdp]
def Ls_l11Text_0 : Nat → ByteArray → Int → Int → Int → ByteArray → Int → Int → Option Int
 | 0, _, _, _, _, _, _, _ => none
 | n_ + 1, t0_7, t1_7, t7_5, x0_33, x0_34, x0_35, x0_36 =>
 if t7_5 < (t0_7.size : Int) then
  bS (zen t0_7 t7_5) fun b5 =>
  if (b5.toNat : Int) = 34 then
   some t7_5
  else
  if 32 ≤ (b5.toNat : Int) then
   if (b5.toNat : Int) ≤ 126 then
    Ls_l11Text_0 n_ t0_7 t1_7 (IntKind.i64.wrap (t7_5 + 1)) x0_33 x0_34 x0_35 x0_36
   else
    some t7_5
  else
   some t7_5
 else
  some t7_5
def zaA (t0_7 : ByteArray) (t1_7 : Int) (t7_5 : Int) (x0_33 : Int) (x0_34 : ByteArray) (x0_35 : Int) (x0_36 : Int) : Int → Ans
 | t7_6 => .out (.exit 0) { np := 0, tm := [(0, .sc (.string t0_7)), (1, .sc (.int .i64 t1_7)), (4, .bx 0 0), (7, .sc (.int .i64 t7_6))], ar := [], bx := [(0, .b [.sc (.int .i64 x0_33), .sc (.string x0_34), .sc (.int .i64 x0_35), .sc (.int .i64 x0_36)])] }
theorem zh9 : ∀ (n_ : Nat) (t0_7 : ByteArray) (t1_7 : Int) (t7_5 : Int) (x0_33 : Int) (x0_34 : ByteArray) (x0_35 : Int) (x0_36 : Int) (r_ : Int), Ls_l11Text_0 n_ t0_7 t1_7 t7_5 x0_33 x0_34 x0_35 x0_36 = some r_ → ev EE (.loop zmV [0, 1, 4, 7] [0, 1, 4, 5, 6, 7] { np := 0, tm := [(0, .sc (.string t0_7)), (1, .sc (.int .i64 t1_7)), (4, .bx 0 0), (7, .sc (.int .i64 t7_5))], ar := [], bx := [(0, .b [.sc (.int .i64 x0_33), .sc (.string x0_34), .sc (.int .i64 x0_35), .sc (.int .i64 x0_36)])] }) = some (zaA t0_7 t1_7 t7_5 x0_33 x0_34 x0_35 x0_36 r_) := by
 intro n_
 induction n_ with
 | zero => intro t0_7 t1_7 t7_5 x0_33 x0_34 x0_35 x0_36 r_ h_; simp only [Ls_l11Text_0] at h_; cases h_
 | succ n_ ih_ =>
  intro t0_7 t1_7 t7_5 x0_33 x0_34 x0_35 x0_36 r_ h_
  rw [zW EE zmV.eq_1]
  simp only [Ls_l11Text_0] at h_
  rcases bI h_ with ⟨h1_, h_⟩ | ⟨h1_, h_⟩
  ·have h1_s := h1_; try simp at h1_s
   obtain ⟨b5, h3_, h_⟩ := za h_
   obtain ⟨h3_a, h3_b, h3_c, h3_d⟩ := zaM h3_
   try simp [-getElem?_pos] at h3_d
   rcases bI h_ with ⟨h7_, h_⟩ | ⟨h7_, h_⟩
   ·have h7_s := h7_; try simp at h7_s
    cases h_
    simp +decide [-getElem?_pos, -Int.toNat_le, -Int.le_toNat, h1_, h1_s, h3_a, h3_b, h3_c, h3_d, eq_true h7_, eq_true h7_s, zaA]
   have h7_s := h7_; try simp at h7_s
   rcases bI h_ with ⟨h9_, h_⟩ | ⟨h9_, h_⟩
   ·have h9_s := h9_; try simp at h9_s
    rcases bI h_ with ⟨h11_, h_⟩ | ⟨h11_, h_⟩
    ·have h11_s := h11_; try simp at h11_s
     have q_ := ih_ t0_7 t1_7 (IntKind.i64.wrap (t7_5 + 1)) x0_33 x0_34 x0_35 x0_36 _ h_
     rcases r_ with t7_6
     all_goals (try simp [zaA] at q_)
     all_goals simp +decide [-getElem?_pos, -Int.toNat_le, -Int.le_toNat, h1_, h1_s, h3_a, h3_b, h3_c, h3_d, h7_, h7_s, h9_, h9_s, h11_, h11_s, q_, zaA]
    have h11_s := h11_; try simp at h11_s
    cases h_
    simp +decide [-getElem?_pos, -Int.toNat_le, -Int.le_toNat, h1_, h1_s, h3_a, h3_b, h3_c, h3_d, h7_, h7_s, h9_, h9_s, h11_, h11_s, zaA]
   have h9_s := h9_; try simp at h9_s
   cases h_
   simp +decide [-getElem?_pos, h1_, h1_s, h3_a, h3_b, h3_c, h3_d, h7_, h7_s, h9_, h9_s, zaA]
  have h1_s := h1_; try simp at h1_s
  cases h_
  simp +decide [-getElem?_pos, h1_, h1_s, zaA]
end Go.Pv
