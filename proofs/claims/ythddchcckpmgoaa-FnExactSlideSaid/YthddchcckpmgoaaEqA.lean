/- Proof: what the functions evaluate to, first part. No condition. -/
import Derived.Test.YthddchcckpmgoaaIm
set_option autoImplicit true
set_option relaxedAutoImplicit true
set_option linter.unusedSimpArgs false
set_option linter.unusedVariables false
namespace Go.Pv
set_option maxRecDepth 8000
set_option linter.unusedSimpArgs false
@[simp] theorem e38 (n : Int) : ev EE (.call 38 [.sc (.int .i64 n)] []) = some (.val (int (n / 8)) []) := by rw [ev_eq]; simp [ir38]
@[simp] theorem e37 (n : Int) : ev EE (.call 37 [.sc (.int .i64 n)] []) = some (.val (int (n % 8)) []) := by rw [ev_eq]; simp [ir37, ]
@[simp] theorem e80 (n : Int) : ev EE (.call 80 [.sc (.int .i64 n)] []) = some (.val (int (n / 8)) []) := by rw [ev_eq]; simp [ir80]
@[simp] theorem e77 (n : Int) : ev EE (.call 77 [.sc (.int .i64 n)] []) = some (.val (int (n % 8)) []) := by rw [ev_eq]; simp [ir77, ]
@[simp] theorem e81 (n : Int) : ev EE (.call 81 [.sc (.int .i64 n)] []) = some (.val (int (n / 8)) []) := by rw [ev_eq]; simp [ir81]
@[simp] theorem e84 (n : Int) : ev EE (.call 84 [.sc (.int .i64 n)] []) = some (.val (int (n % 8)) []) := by rw [ev_eq]; simp [ir84, ]
@[simp] theorem e95 (n a b : Int) : ev EE (.call 95 [.sc (.int .i64 n), .sc (.int .i64 a), .sc (.int .i64 b)] []) = some (.val (bool (decide (a ≤ n ∧ n ≤ b))) []) := by
  rw [ev_eq]
  by_cases h : a ≤ n
  · simp [ir95, h]
  · simp [ir95, h]
@[simp] theorem e100 (n a b : Int) : ev EE (.call 100 [.sc (.int .i64 n), .sc (.int .i64 a), .sc (.int .i64 b)] []) = some (.val (bool (decide (a ≤ n ∧ n ≤ b))) []) := by
  rw [ev_eq]
  by_cases h : a ≤ n
  · simp [ir100, h]
  · simp [ir100, h]
def vOk (v : Int) : Bool := if v % 8 = 0 ∨ v % 8 = 1 then decide (v / 8 = 0) else if v % 8 = 2 then decide (0 ≤ v / 8 ∧ v / 8 ≤ 1) else if v % 8 = 3 then decide (-2147483648 ≤ v / 8 ∧ v / 8 ≤ 2147483647) else decide (0 ≤ v / 8 ∧ v / 8 ≤ 1999)
@[simp] theorem e76 (v : Int) : ev EE (.call 76 [.sc (.int .i64 v)] []) = some (.val (bool (vOk v)) []) := by
  rw [ev_eq]
  unfold vOk
  by_cases h0 : v % 8 = 0
  · simp [ir76, h0]
  by_cases h1 : v % 8 = 1
  · simp [ir76, h0, h1]
  by_cases h2 : v % 8 = 2
  · simp [ir76, h0, h1, h2]
  by_cases h3 : v % 8 = 3
  · simp [ir76, h0, h1, h2, h3]
  simp [ir76, h0, h1, h2, h3]
@[simp] theorem e113 (v : Int) : ev EE (.call 113 [.sc (.int .i64 v)] []) = some (.val (bool (vOk v)) []) := by
  rw [ev_eq]
  unfold vOk
  by_cases h0 : v % 8 = 0
  · simp [ir113, h0]
  by_cases h1 : v % 8 = 1
  · simp [ir113, h0, h1]
  by_cases h2 : v % 8 = 2
  · simp [ir113, h0, h1, h2]
  by_cases h3 : v % 8 = 3
  · simp [ir113, h0, h1, h2, h3]
  simp [ir113, h0, h1, h2, h3]
def refOf (k a : Int) : Int := if 4 ≤ k ∧ k ≤ 7 ∧ 0 ≤ a ∧ a ≤ 1999 then 8 * a + k else 0
@[simp] theorem e83 (k a : Int) : ev EE (.call 83 [.sc (.int .i64 k), .sc (.int .i64 a)] []) = some (.val (int (refOf k a)) []) := by
  rw [ev_eq]
  unfold refOf
  by_cases h0 : 4 ≤ k ∧ k ≤ 7
  · by_cases h1 : 0 ≤ a ∧ a ≤ 1999
    · have h2 : IntKind.i64.wrap (8 * a) = 8 * a := wrap64_id _ (by omega) (by omega)
      have h3 : IntKind.i64.wrap (8 * a + k) = 8 * a + k := wrap64_id _ (by omega) (by omega)
      simp [ir83, h0, h1, h2, h3]
    · have : ¬ (4 ≤ k ∧ k ≤ 7 ∧ 0 ≤ a ∧ a ≤ 1999) := by omega
      simp [ir83, h0, h1, this]
  · have : ¬ (4 ≤ k ∧ k ≤ 7 ∧ 0 ≤ a ∧ a ≤ 1999) := by omega
    simp [ir83, h0, this]
end Go.Pv

namespace Go.Pv
set_option maxRecDepth 8000
set_option maxHeartbeats 1000000
set_option linter.unusedSimpArgs false
set_option linter.unusedVariables false
def walk (ws : List Int) : Nat → Int → Option (List Int)
  | 0, a => if a < ws.length then none else some []
  | n + 1, a => if a < ws.length then (if 2 ≤ wI ws a / 8 ∧ wI ws a / 8 ≤ ws.length - a ∧ wI ws a % 8 ≤ 5 then (walk ws n (a + wI ws a / 8)).map (a :: ·) else none) else some []
def Chain (ws : List Int) : Int → List Int → Prop
  | a, [] => a = ws.length
  | a, x :: l => x = a ∧ a < ws.length ∧ 2 ≤ wI ws a / 8 ∧ wI ws a / 8 ≤ ws.length - a ∧ wI ws a % 8 ≤ 5 ∧ Chain ws (a + wI ws a / 8) l
theorem walk_chain (ws : List Int) : ∀ (n : Nat) (a : Int) (l : List Int), a ≤ ws.length → walk ws n a = some l → Chain ws a l
  | 0, a, l, h, hw => by
    unfold walk at hw
    split at hw
    · cases hw
    · injection hw with hw; subst hw; unfold Chain; omega
  | n + 1, a, l, h, hw => by
    unfold walk at hw
    split at hw
    · split at hw
      · rename_i h1 h2
        obtain ⟨l', e1, rfl⟩ := Option.map_eq_some_iff.1 hw
        exact ⟨rfl, h1, h2.1, h2.2.1, h2.2.2, walk_chain ws n _ _ (by omega) e1⟩
      · cases hw
    · injection hw with hw; subst hw; unfold Chain; omega
theorem lp70 (ws : List Int) (hw : ws.length ≤ 1048576) : ∀ (n : Nat) (a : Int), 0 ≤ a → ws.length - a ≤ n →
    ev EE (.loop lp70_0 [1, 3] [1, 2] { np := 0, tm := [(1, .bx 0 0), (3, int a)], ar := [], bx := [(0, .b [IS ws])] }) =
    if (walk ws n a).isSome then some (.out (.exit 0) { np := 0, tm := [(1, .bx 0 0)], ar := [], bx := [(0, .b [IS ws])] }) else some (.out .ret { np := 0, tm := [(1, .bx 0 0), (2, bool false)], ar := [], bx := [(0, .b [IS ws])] })
  | 0, a, h0, h1 => by
    rw [ev_loop EE lp70_0.eq_1]
    have : ¬ (a < ws.length) := by omega
    simp [this, walk]
  | n + 1, a, h0, h1 => by
    rw [ev_loop EE lp70_0.eq_1]
    by_cases h2 : a < ws.length
    · have g1 := ints_getI ws a h0 h2
      have w1 := wrap64_id (ws.length - a) (by omega) (by omega)
      by_cases h3 : 2 ≤ wI ws a / 8 ∧ wI ws a / 8 ≤ ws.length - a
      · by_cases h4 : wI ws a % 8 ≤ 5
        · have ih := lp70 ws hw n (a + wI ws a / 8) (by omega) (by omega)
          simp only [int, bool] at ih
          have w2 := wrap64_id (a + wI ws a / 8) (by omega) (by omega)
          have h5 : ¬ (5 < wI ws a % 8) := by omega
          by_cases hc : (walk ws n (a + wI ws a / 8)).isSome
          · simp [h0, h2, h3, h4, h5, walk, g1, w1, w2, ih, hc]
          · simp [h0, h2, h3, h4, h5, walk, g1, w1, w2, ih, hc]
        · have h5 : 5 < wI ws a % 8 := by omega
          simp [h0, h2, h3, h4, h5, walk, g1, w1]
      · have h5 : ¬ (2 ≤ wI ws a / 8 ∧ wI ws a / 8 ≤ ws.length - a ∧ wI ws a % 8 ≤ 5) := by omega
        simp [h0, h2, h3, h5, walk, g1, w1]
    · simp [h2, walk]
theorem e70 (ws : List Int) (hw : ws.length ≤ 1048576) : ev EE (.call 70 [SL ws] []) = some (.val (bool (decide (ws.length ≤ 2000) && (walk ws ws.length 0).isSome)) []) := by
  rw [ev_eq]
  have h := lp70 ws hw ws.length 0 (by omega) (by omega)
  simp only [int, bool] at h
  cases hx : (walk ws ws.length 0).isSome
  · simp [hx] at h
    simp [ir70, h]
  · simp [hx] at h
    simp [ir70, h]
    omega
/-! rows that grow -/
def rowV (acc : List Int) : V := if acc = [] then .ls true [] else .rf 0 0 acc.length
def rowA (acc : List Int) : List (Nat × Cell) := if acc = [] then [] else [(0, .a false (ints acc))]
@[simp] theorem rowV_nil : rowV [] = .ls true [] := rfl
@[simp] theorem rowA_nil : rowA [] = [] := rfl
@[simp] theorem rowV_cons (x : Int) (l : List Int) : rowV (x :: l) = .rf 0 0 (l.length + 1) := by simp [rowV]
@[simp] theorem rowA_cons (x : Int) (l : List Int) : rowA (x :: l) = [(0, .a false (ints (x :: l)))] := by simp [rowA]
@[simp] theorem rowV_snoc (x : Int) (l : List Int) : rowV (l ++ [x]) = .rf 0 0 (l.length + 1) := by simp [rowV]
@[simp] theorem rowA_snoc (x : Int) (l : List Int) : rowA (l ++ [x]) = [(0, .a false (ints (l ++ [x])))] := by simp [rowA]
theorem lp47 (ws : List Int) (hw : ws.length ≤ 1048576) : ∀ (l : List Int) (a : Int) (acc : List Int), Chain ws a l → 0 ≤ a → (acc.length : Int) ≤ a →
    ev EE (.loop lp47_0 [1, 3, 4] [2, 3] { np := 0, tm := [(1, .bx 0 0), (3, rowV acc), (4, int a)], ar := rowA acc, bx := [(0, .b [IS ws])] }) =
    some (.out (.exit 0) { np := 0, tm := [(3, rowV (acc ++ l))], ar := rowA (acc ++ l), bx := [] })
  | [], a, acc, hc, h0, h1 => by
    rw [ev_loop EE lp47_0.eq_1]
    unfold Chain at hc
    have : ¬ (a < ws.length) := by omega
    cases acc with
    | nil => simp [this]
    | cons x acc => simp [this]
  | x :: l, a, acc, hc, h0, h1 => by
    rw [ev_loop EE lp47_0.eq_1]
    obtain ⟨rfl, h2, h3, h4, h5, h6⟩ := hc
    have g1 := ints_getI ws x h0 h2
    have w2 := wrap64_id (x + wI ws x / 8) (by omega) (by omega)
    have ih := lp47 ws hw l (x + wI ws x / 8) (acc ++ [x]) h6 (by omega) (by simp; omega)
    simp only [int] at ih
    cases acc with
    | nil =>
      simp at ih
      simp [h0, h2, g1, w2, rowX, rowY, cloLs, cloL, clo1, setEls, lim, maxB, ih]
    | cons y acc =>
      simp at ih h1
      have hl : (acc.length + 1 + 1) * 8 ≤ 140737488351232 := by omega
      simp [hl, h0, h2, g1, w2, rowX, rowY, cloLs, cloL, clo1, setEls, lim, maxB, ih]
theorem e47 (ws : List Int) (hw : ws.length ≤ 1048576) (l : List Int) (hc : Chain ws 0 l) : ev EE (.call 47 [SL ws] []) = some (.val (.ls true (ints l)) []) := by
  rw [ev_eq]
  have h := lp47 ws hw l 0 [] hc (by omega) (by simp)
  simp only [int, rowV_nil, rowA_nil, List.nil_append] at h
  cases l with
  | nil => simp [ir47, h]; rfl
  | cons x l => simp [ir47, h]
/-- the places of all blocks -/
def blks (ws : List Int) : Option (List Int) := if ws.length ≤ 2000 then walk ws ws.length 0 else none
theorem blks_chain {ws l : List Int} (h : blks ws = some l) : ws.length ≤ 2000 ∧ Chain ws 0 l := by
  unfold blks at h
  split at h
  · exact ⟨‹_›, walk_chain ws _ _ _ (by omega) h⟩
  · cases h
@[simp] theorem e70' (ws : List Int) (hw : ws.length ≤ 1048576) : ev EE (.call 70 [SL ws] []) = some (.val (bool (blks ws).isSome) []) := by
  rw [e70 ws hw]
  unfold blks
  by_cases h : ws.length ≤ 2000 <;> simp [h]
theorem e35 (ws : List Int) (hw : ws.length ≤ 1048576) : ev EE (.call 35 [SL ws] []) = some (.val (.ls true (ints ((blks ws).getD []))) []) := by
  rw [ev_eq]
  have h := e70' ws hw
  simp only [bool] at h
  cases hb : blks ws with
  | none => simp [ir35, h, hb]; rfl
  | some l =>
    have h2 := e47 ws hw l (blks_chain hb).2
    simp [ir35, h, hb, h2]
theorem Chain.mem {ws : List Int} : ∀ {l : List Int} {a x : Int}, Chain ws a l → x ∈ l → a ≤ x ∧ x < ws.length ∧ 2 ≤ wI ws x / 8 ∧ wI ws x / 8 ≤ ws.length - x ∧ wI ws x % 8 ≤ 5
  | [], a, x, _, h => by cases h
  | y :: l, a, x, hc, h => by
    obtain ⟨rfl, h2, h3, h4, h5, h6⟩ := hc
    rcases List.mem_cons.1 h with rfl | h
    · exact ⟨by omega, h2, h3, h4, h5⟩
    · have := h6.mem h
      exact ⟨by omega, this.2⟩
/-- the first place from one on -/
def ge1 (ws : List Int) (l : List Int) (x : Int) : Int := (l.find? fun k => decide (x ≤ k)).getD ws.length
theorem lp108 (ws : List Int) (hw : ws.length ≤ 1048576) (x : Int) : ∀ (l : List Int) (a : Int), Chain ws a l → 0 ≤ a → 
    ev EE (.loop lp108_0 [1, 2, 5] [1, 2, 4, 5] { np := 0, tm := [(1, int x), (2, .bx 0 0), (5, int a)], ar := [], bx := [(0, .b [IS ws])] }) =
    some (.out (.exit 0) { np := 0, tm := [(1, int x), (2, .bx 0 0), (5, int (ge1 ws l x))], ar := [], bx := [(0, .b [IS ws])] })
  | [], a, hc, h0 => by
    rw [ev_loop EE lp108_0.eq_1]
    unfold Chain at hc
    have : ¬ (a < ws.length) := by omega
    subst hc
    simp [this, ge1]
  | y :: l, a, hc, h0 => by
    rw [ev_loop EE lp108_0.eq_1]
    obtain ⟨rfl, h2, h3, h4, h5, h6⟩ := hc
    have g1 := ints_getI ws y h0 h2
    have w2 := wrap64_id (y + wI ws y / 8) (by omega) (by omega)
    have ih := lp108 ws hw x l (y + wI ws y / 8) h6 (by omega)
    simp only [int] at ih
    by_cases hy : y < x
    · have h7 : ¬ (x ≤ y) := by omega
      have h8 : ge1 ws (y :: l) x = ge1 ws l x := by simp [ge1, h7]
      simp [h0, h2, g1, w2, hy, ih, h8]
    · have h7 : x ≤ y := by omega
      have h8 : ge1 ws (y :: l) x = y := by simp [ge1, h7]
      simp [h0, h2, g1, hy, h8]
theorem ge1_mem (ws : List Int) : ∀ (l : List Int) (a x : Int), Chain ws a l → (ge1 ws l x = x ∧ x < ws.length ↔ x ∈ l)
  | [], a, x, hc => by simp [ge1]; omega
  | y :: l, a, x, hc => by
    have hc' := hc
    obtain ⟨rfl, h2, h3, h4, h5, h6⟩ := hc
    by_cases h7 : x ≤ y
    · have h8 : ge1 ws (y :: l) x = y := by simp [ge1, h7]
      rw [h8]
      constructor
      · rintro ⟨rfl, _⟩; simp
      · intro h
        have := hc'.mem h
        exact ⟨by omega, by omega⟩
    · have h8 : ge1 ws (y :: l) x = ge1 ws l x := by simp [ge1, h7]
      rw [h8, ge1_mem ws l _ x h6, List.mem_cons]
      constructor
      · exact .inr
      · rintro (rfl | h)
        · omega
        · exact h
theorem e108 (ws : List Int) (hw : ws.length ≤ 1048576) (l : List Int) (hc : Chain ws 0 l) (x : Int) : ev EE (.call 108 [SL ws, int x] []) = some (.val (bool (decide (x ∈ l))) []) := by
  rw [ev_eq]
  have h := lp108 ws hw x l 0 hc (by omega)
  have h2 : decide (x ∈ l) = decide (ge1 ws l x = x ∧ x < ws.length) := decide_eq_decide.2 (ge1_mem ws l 0 x hc).symm
  simp only [int] at h
  rw [h2]
  by_cases h3 : ge1 ws l x = x
  · simp [ir108, h, h3]
  · simp [ir108, h, h3]
/-- where a block goes -/
def toOf (ws : List Int) : List Int → Int → Int
  | [], _ => 0
  | k :: l, x => if k < x then (if wI ws k % 8 = 0 then 0 else wI ws k / 8) + toOf ws l x else 0
theorem lp79 (ws : List Int) (hw : ws.length ≤ 1048576) (x : Int) (hx : x < ws.length) : ∀ (l : List Int) (a t : Int), Chain ws a l → 0 ≤ a → 0 ≤ t → t ≤ a →
    ev EE (.loop lp79_0 [1, 2, 5, 6] [4, 5] { np := 0, tm := [(1, int x), (2, .bx 0 0), (5, int t), (6, int a)], ar := [], bx := [(0, .b [IS ws])] }) =
    some (.out (.exit 0) { np := 0, tm := [(5, int (t + toOf ws l x))], ar := [], bx := [] })
  | [], a, t, hc, h0, h1, h2 => by
    rw [ev_loop EE lp79_0.eq_1]
    unfold Chain at hc
    have : ¬ (a < x) := by omega
    simp [this, toOf]
  | y :: l, a, t, hc, h0, h1, h7 => by
    rw [ev_loop EE lp79_0.eq_1]
    obtain ⟨rfl, h2, h3, h4, h5, h6⟩ := hc
    have g1 := ints_getI ws y h0 h2
    have w2 := wrap64_id (y + wI ws y / 8) (by omega) (by omega)
    have w3 := wrap64_id (t + wI ws y / 8) (by omega) (by omega)
    by_cases hy : y < x
    · by_cases hk : wI ws y % 8 = 0
      · have ih := lp79 ws hw x hx l (y + wI ws y / 8) t h6 (by omega) h1 (by omega)
        simp only [int] at ih
        simp [h0, h2, g1, w2, hy, ih, hk, toOf]
      · have ih := lp79 ws hw x hx l (y + wI ws y / 8) (t + wI ws y / 8) h6 (by omega) (by omega) (by omega)
        simp only [int] at ih
        simp [h0, h2, g1, w2, w3, hy, ih, hk, toOf, Int.add_assoc]
    · simp [h0, h2, g1, hy, toOf]
theorem e79 (ws : List Int) (hw : ws.length ≤ 1048576) (l : List Int) (hc : Chain ws 0 l) (x : Int) (hx : x < ws.length) : ev EE (.call 79 [SL ws, int x] []) = some (.val (int (toOf ws l x)) []) := by
  rw [ev_eq]
  have h := lp79 ws hw x hx l 0 0 hc (by omega) (by omega) (by omega)
  simp only [int, Int.zero_add] at h
  simp [ir79, h]
end Go.Pv

namespace Go.Pv
set_option maxRecDepth 8000
set_option maxHeartbeats 1000000
set_option linter.unusedSimpArgs false
set_option linter.unusedVariables false
/-- does a value lead to a block of a kind? -/
def toB (ws l : List Int) (v k : Int) : Bool := decide (v / 8 ∈ l) && decide (wI ws (v / 8) % 8 = k)
def leadS (ws l : List Int) (v inner : Int) : Bool :=
  vOk v && (if v % 8 = 4 then toB ws l v 1 else if v % 8 = 5 then toB ws l v 2 else if v % 8 = 6 then toB ws l v 4 else if v % 8 = 7 then toB ws l v inner else true)
theorem e78 (ws : List Int) (hw : ws.length ≤ 1048576) (l : List Int) (hc : Chain ws 0 l) (v i : Int) : ev EE (.call 78 [SL ws, int v, int i] []) = some (.val (bool (leadS ws l v i)) []) := by
  rw [ev_eq]
  have hb := e108 ws hw l hc (v / 8)
  simp only [int, bool] at hb
  unfold leadS toB
  by_cases ho : vOk v
  · by_cases hm : v / 8 ∈ l
    · obtain ⟨h0, h2, _⟩ := hc.mem hm
      have g1 := ints_getI ws (v / 8) h0 h2
      by_cases h4 : v % 8 = 4
      · simp [ir78, ho, hb, hm, h0, h2, g1, h4]
      · by_cases h5 : v % 8 = 5
        · simp [ir78, ho, hb, hm, h0, h2, g1, h5]
        · by_cases h6 : v % 8 = 6
          · simp [ir78, ho, hb, hm, h0, h2, g1, h6]
          · by_cases h7 : v % 8 = 7
            · simp [ir78, ho, hb, hm, h0, h2, g1, h7]
            · simp [ir78, ho, hb, hm, h0, h2, g1, h4, h5, h6, h7]
    · by_cases h4 : v % 8 = 4
      · simp [ir78, ho, hb, hm, h4]
      · by_cases h5 : v % 8 = 5
        · simp [ir78, ho, hb, hm, h5]
        · by_cases h6 : v % 8 = 6
          · simp [ir78, ho, hb, hm, h6]
          · by_cases h7 : v % 8 = 7
            · simp [ir78, ho, hb, hm, h7]
            · simp [ir78, ho, hb, hm, h4, h5, h6, h7]
  · simp [ir78, ho]
/-- words that are 0 -/
def zeroR (ws : List Int) : Nat → Int → Bool
  | 0, _ => true
  | n + 1, i => decide (wI ws i = 0) && zeroR ws n (i + 1)
theorem lp98 (ws : List Int) (hw : ws.length ≤ 1048576) (to : Int) (h2 : to ≤ ws.length) : ∀ (n : Nat) (i : Int), 0 ≤ i → i ≤ to → to - i = n →
    ev EE (.loop lp98_0 [2, 3, 7] [6] { np := 0, tm := [(2, int to), (3, .bx 0 0), (7, int i)], ar := [], bx := [(0, .b [IS ws])] }) =
    if zeroR ws n i then some (.out (.exit 0) { np := 0, tm := [], ar := [], bx := [] }) else some (.out .ret { np := 0, tm := [(6, bool false)], ar := [], bx := [] })
  | 0, i, h0, h1, h3 => by
    rw [ev_loop EE lp98_0.eq_1]
    have : ¬ (i < to) := by omega
    simp [this, zeroR]
  | n + 1, i, h0, h1, h3 => by
    rw [ev_loop EE lp98_0.eq_1]
    have h4 : i < to := by omega
    have h5 : i < ws.length := by omega
    have g1 := ints_getI ws i h0 h5
    have w1 := wrap64_id (i + 1) (by omega) (by omega)
    have ih := lp98 ws hw to h2 n (i + 1) (by omega) (by omega) (by omega)
    simp only [int, bool] at ih
    by_cases h6 : wI ws i = 0
    · by_cases h7 : zeroR ws n (i + 1) = true
      · simp [h4, h0, h5, g1, w1, ih, h6, zeroR, h7]
      · simp [h4, h0, h5, g1, w1, ih, h6, zeroR, h7]
    · simp [h4, h0, h5, g1, w1, h6, zeroR]
theorem e98 (ws : List Int) (hw : ws.length ≤ 1048576) (i to : Int) (h0 : 0 ≤ i) (h1 : i ≤ to) (h2 : to ≤ ws.length) : ev EE (.call 98 [SL ws, int i, int to] []) = some (.val (bool (zeroR ws (to - i).toNat i)) []) := by
  rw [ev_eq]
  have h := lp98 ws hw to h2 (to - i).toNat i h0 (by omega) (by omega)
  simp only [int, bool] at h
  by_cases hz : zeroR ws (to - i).toNat i
  · simp [ir98, h, hz]
  · simp [ir98, h, hz]
/-- words that are bytes -/
def byteR (ws : List Int) : Nat → Int → Bool
  | 0, _ => true
  | n + 1, i => decide (0 ≤ wI ws i ∧ wI ws i ≤ 255) && byteR ws n (i + 1)
theorem lp96 (ws : List Int) (hw : ws.length ≤ 1048576) (a m : Int) (h0 : 0 ≤ a) (h2 : a + 2 + m ≤ ws.length) : ∀ (n : Nat) (i : Int), 0 ≤ i → i ≤ m → m - i = n →
    ev EE (.loop lp96_0 [1, 3, 7, 8] [6] { np := 0, tm := [(1, int a), (3, .bx 0 0), (7, int m), (8, int i)], ar := [], bx := [(0, .b [IS ws])] }) =
    if byteR ws n (a + 2 + i) then some (.out (.exit 0) { np := 0, tm := [], ar := [], bx := [] }) else some (.out .ret { np := 0, tm := [(6, bool false)], ar := [], bx := [] })
  | 0, i, h3, h4, h5 => by
    rw [ev_loop EE lp96_0.eq_1]
    have : ¬ (i < m) := by omega
    simp [this, byteR]
  | n + 1, i, h3, h4, h5 => by
    rw [ev_loop EE lp96_0.eq_1]
    have h6 : i < m := by omega
    have g1 := ints_getI ws (a + 2 + i) (by omega) (by omega)
    have w1 := wrap64_id (i + 1) (by omega) (by omega)
    have w2 := wrap64_id (a + 2) (by omega) (by omega)
    have w3 := wrap64_id (a + 2 + i) (by omega) (by omega)
    have b1 : 0 ≤ a + 2 + i := by omega
    have b2 : a + 2 + i < ws.length := by omega
    have ih := lp96 ws hw a m h0 h2 n (i + 1) (by omega) (by omega) (by omega)
    rw [show a + 2 + (i + 1) = a + 2 + i + 1 by omega] at ih
    simp only [int, bool] at ih
    by_cases h7 : 0 ≤ wI ws (a + 2 + i) ∧ wI ws (a + 2 + i) ≤ 255
    · by_cases h8 : byteR ws n (a + 2 + i + 1) = true
      · simp [h6, g1, w1, w2, w3, b1, b2, ih, h7, h8, byteR]
      · simp [h6, g1, w1, w2, w3, b1, b2, ih, h7, h8, byteR]
    · simp [h6, g1, w1, w2, w3, b1, b2, h7, byteR]
def textS (ws : List Int) (a n : Int) : Bool :=
  decide (0 ≤ wI ws (a + 1) ∧ wI ws (a + 1) ≤ n - 2) && zeroR ws (n - 2 - wI ws (a + 1)).toNat (a + 2 + wI ws (a + 1)) && byteR ws (wI ws (a + 1)).toNat (a + 2)
theorem e96 (ws : List Int) (hw : ws.length ≤ 1048576) (a n : Int) (h0 : 0 ≤ a) (h1 : 2 ≤ n) (h2 : a + n ≤ ws.length) : ev EE (.call 96 [SL ws, int a, int n] []) = some (.val (bool (textS ws a n)) []) := by
  rw [ev_eq]
  have g1 := ints_getI ws (a + 1) (by omega) (by omega)
  have b1 : 0 ≤ a + 1 := by omega
  have b2 : a + 1 < ws.length := by omega
  have w1 := wrap64_id (a + 1) (by omega) (by omega)
  have w2 := wrap64_id (a + 2) (by omega) (by omega)
  have w3 := wrap64_id (n - 2) (by omega) (by omega)
  have w4 := wrap64_id (a + n) (by omega) (by omega)
  unfold textS
  by_cases hm : 0 ≤ wI ws (a + 1) ∧ wI ws (a + 1) ≤ n - 2
  · have w5 := wrap64_id (a + 2 + wI ws (a + 1)) (by omega) (by omega)
    have hz := e98 ws hw (a + 2 + wI ws (a + 1)) (a + n) (by omega) (by omega) h2
    have hb := lp96 ws hw a (wI ws (a + 1)) h0 (by omega) (wI ws (a + 1)).toNat 0 (by omega) (by omega) (by omega)
    rw [show a + n - (a + 2 + wI ws (a + 1)) = n - 2 - wI ws (a + 1) by omega] at hz
    simp only [int, bool, Int.add_zero] at hz hb
    by_cases hz1 : zeroR ws (n - 2 - wI ws (a + 1)).toNat (a + 2 + wI ws (a + 1)) = true
    · by_cases hb1 : byteR ws (wI ws (a + 1)).toNat (a + 2) = true
      · simp [ir96, g1, b1, b2, w1, w2, w3, w4, w5, hm, hz, hz1, hb, hb1]
      · simp [ir96, g1, b1, b2, w1, w2, w3, w4, w5, hm, hz, hz1, hb, hb1]
    · simp [ir96, g1, b1, b2, w1, w2, w3, w4, w5, hm, hz, hz1]
  · simp [ir96, g1, b1, b2, w1, w2, w3, w4, hm]
def nextS (ws l : List Int) (v i : Int) : Bool := decide (v = 0) || (decide (v % 8 = 7) && leadS ws l v i)
theorem e97 (ws : List Int) (hw : ws.length ≤ 1048576) (l : List Int) (hc : Chain ws 0 l) (v i : Int) : ev EE (.call 97 [SL ws, int v, int i] []) = some (.val (bool (nextS ws l v i)) []) := by
  rw [ev_eq]
  have hb := e78 ws hw l hc v i
  simp only [int, bool] at hb
  unfold nextS
  by_cases h0 : v = 0
  · simp [ir97, h0]
  · by_cases h7 : v % 8 = 7
    · simp [ir97, h0, h7, hb]
    · simp [ir97, h0, h7]
def plainS (ws l : List Int) (v : Int) : Bool := decide (v % 8 ≠ 7) && leadS ws l v 0
theorem e99 (ws : List Int) (hw : ws.length ≤ 1048576) (l : List Int) (hc : Chain ws 0 l) (v : Int) : ev EE (.call 99 [SL ws, int v] []) = some (.val (bool (plainS ws l v)) []) := by
  rw [ev_eq]
  have hb := e78 ws hw l hc v 0
  simp only [int, bool] at hb
  unfold plainS
  by_cases h7 : v % 8 = 7
  · simp [ir99, h7]
  · simp [ir99, h7, hb]
end Go.Pv
