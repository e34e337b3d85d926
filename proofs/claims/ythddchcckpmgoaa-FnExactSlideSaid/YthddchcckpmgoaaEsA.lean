/- Proof: what Slide of the model evaluates to. No condition. -/
import Derived.Test.YthddchcckpmgoaaEqG
import Derived.Test.YthddchcckpmgoaaPvG
set_option autoImplicit true
set_option relaxedAutoImplicit true
set_option linter.unusedSimpArgs false
set_option linter.unusedVariables false
namespace Go.Pv
set_option maxRecDepth 8000
set_option maxHeartbeats 4000000
set_option linter.unusedSimpArgs false
set_option linter.unusedVariables false
attribute [simp high] ro_mn ro_mx ro_copy ro_build ro_mget
attribute [simp] copyR_rf fillQ_nil fillQ_cons
attribute [simp high] lenP_rf'
/-- places one behind the other -/
def seqI : Int → Nat → List Int
  | _, 0 => []
  | a, n + 1 => a :: seqI (a + 1) n
theorem seqI_len : ∀ (n : Nat) (a : Int), (seqI a n).length = n
  | 0, _ => rfl
  | n + 1, a => by simp [seqI, seqI_len n]
theorem seqI_mem : ∀ (n : Nat) (a x : Int), x ∈ seqI a n ↔ a ≤ x ∧ x < a + n
  | 0, a, x => by simp [seqI]
  | n + 1, a, x => by
    simp only [seqI, List.mem_cons, seqI_mem n]
    omega
theorem lp85 (a p q : Int) (ha : 0 ≤ a) (hb : a ≤ 4000000) (hq : q ≤ 1048576) : ∀ (n : Nat) (i : Int) (acc : List Int), 0 ≤ i → (acc.length : Int) ≤ i → (n : Int) = (if p ≤ q then p else q) - i ∨ (n = 0 ∧ (if p ≤ q then p else q) ≤ i) →
    ev EE (.loop lp85_0 [0, 1, 2, 7, 8] [6, 7] { np := 0, tm := [(0, int a), (1, int p), (2, int q), (7, rowV acc), (8, int i)], ar := rowA acc, bx := [] }) =
    some (.out (.exit 0) { np := 0, tm := [(7, rowV (acc ++ seqI (a + i) n))], ar := rowA (acc ++ seqI (a + i) n), bx := [] })
  | 0, i, acc, h0, h1, h2 => by
    rw [ev_loop EE lp85_0.eq_1]
    have h3 : ¬ (i < p ∧ i < q) := by split at h2 <;> omega
    by_cases h4 : i < p
    · have h5 : ¬ (i < q) := fun h => h3 ⟨h4, h⟩
      cases acc with
      | nil => simp (decide := true) [h4, h5, seqI]
      | cons x acc => simp (decide := true) [h4, h5, seqI]
    · cases acc with
      | nil => simp (decide := true) [h4, seqI]
      | cons x acc => simp (decide := true) [h4, seqI]
  | n + 1, i, acc, h0, h1, h2 => by
    rw [ev_loop EE lp85_0.eq_1]
    have h4 : i < p := by split at h2 <;> omega
    have h5 : i < q := by split at h2 <;> omega
    have w1 := wrap64_id (i + 1) (by omega) (by omega)
    have w2 := wrap64_id (a + i) (by omega) (by omega)
    have ih := lp85 a p q ha hb hq n (i + 1) (acc ++ [a + i]) (by omega) (by simp; omega) (by omega)
    rw [show a + (i + 1) = a + i + 1 by omega] at ih
    simp only [int] at ih
    cases acc with
    | nil =>
      simp at ih
      simp (decide := true) [h4, h5, w1, w2, ih, lim, maxB, seqI]
    | cons x acc =>
      simp at ih h1
      have hl : (acc.length + 1 + 1) * 8 ≤ 140737488351232 := by omega
      simp (decide := true) [h4, h5, w1, w2, ih, hl, lim, maxB, seqI]
theorem e85 (a p q : Int) (ha : 0 ≤ a) (hb : a ≤ 4000000) (hp : 0 ≤ p) (hq0 : 0 ≤ q) (hq : q ≤ 1048576) : ev EE (.call 85 [int a, int p, int q] []) = some (.val (.ls true (ints (seqI a (if p ≤ q then p else q).toNat))) []) := by
  rw [ev_eq]
  have h := lp85 a p q ha hb hq (if p ≤ q then p else q).toNat 0 [] (by omega) (by simp) (by left; split <;> omega)
  simp only [int, rowV_nil, rowA_nil, List.nil_append, Int.add_zero] at h
  cases hs : seqI a (if p ≤ q then p else q).toNat with
  | nil =>
    rw [hs] at h
    simp at h
    simp (decide := true) [ir85, h]
  | cons x xs =>
    rw [hs] at h
    simp at h
    simp (decide := true) [ir85, h]
/-- the slots of a block -/
def slotF (ws : List Int) (a : Int) : Int := if wI ws a % 8 = 4 then a + 2 else a + 1
def slotC (ws : List Int) (a : Int) : Nat :=
  (if wI ws a % 8 = 2 then (if 2 ≤ wI ws a / 8 - 1 then 2 else wI ws a / 8 - 1)
  else if wI ws a % 8 = 3 then (if 3 ≤ wI ws a / 8 - 1 then 3 else wI ws a / 8 - 1)
  else if wI ws a % 8 = 4 then (if 1 ≤ wI ws a / 8 - 2 then 1 else wI ws a / 8 - 2)
  else if wI ws a % 8 = 5 then wI ws a / 8 - 1 else 0).toNat
def slotL (ws : List Int) (a : Int) : List Int := seqI (slotF ws a) (slotC ws a)
theorem e48 (ws : List Int) (hw : ws.length ≤ 1048576) (l : List Int) (hc : Chain ws 0 l) (a : Int) (ha : a ∈ l) : ev EE (.call 48 [SL ws, int a] []) = some (.val (.ls true (ints (slotL ws a))) []) := by
  rw [ev_eq]
  obtain ⟨h0, h2, h3, h4, h5⟩ := hc.mem ha
  have g0 := ints_getI ws a h0 h2
  have w1 := wrap64_id (a + 1) (by omega) (by omega)
  have w2 := wrap64_id (a + 2) (by omega) (by omega)
  have w3 := wrap64_id (wI ws a / 8 - 1) (by omega) (by omega)
  have w4 := wrap64_id (wI ws a / 8 - 2) (by omega) (by omega)
  unfold slotL slotF slotC
  by_cases k2 : wI ws a % 8 = 2
  · have h := e85 (a + 1) 2 (wI ws a / 8 - 1) (by omega) (by omega) (by omega) (by omega) (by omega)
    have k4 : ¬ (wI ws a % 8 = 4) := by omega
    rw [if_neg k4, if_pos k2]
    generalize seqI (a + 1) (if 2 ≤ wI ws a / 8 - 1 then (2 : Int) else wI ws a / 8 - 1).toNat = L at *
    simp only [int] at h
    simp (decide := true) [ir48, h0, h2, g0, k2, w1, w3, h]
  by_cases k3 : wI ws a % 8 = 3
  · have h := e85 (a + 1) 3 (wI ws a / 8 - 1) (by omega) (by omega) (by omega) (by omega) (by omega)
    have k4 : ¬ (wI ws a % 8 = 4) := by omega
    rw [if_neg k4, if_neg k2, if_pos k3]
    generalize seqI (a + 1) (if 3 ≤ wI ws a / 8 - 1 then (3 : Int) else wI ws a / 8 - 1).toNat = L at *
    simp only [int] at h
    simp (decide := true) [ir48, h0, h2, g0, k3, w1, w3, h]
  by_cases k4 : wI ws a % 8 = 4
  · have h := e85 (a + 2) 1 (wI ws a / 8 - 2) (by omega) (by omega) (by omega) (by omega) (by omega)
    rw [if_pos k4, if_neg k2, if_neg k3, if_pos k4]
    generalize seqI (a + 2) (if 1 ≤ wI ws a / 8 - 2 then (1 : Int) else wI ws a / 8 - 2).toNat = L at *
    simp only [int] at h
    simp (decide := true) [ir48, h0, h2, g0, k4, w2, w4, h]
  by_cases k5 : wI ws a % 8 = 5
  · have h := e85 (a + 1) (wI ws a / 8 - 1) (wI ws a / 8 - 1) (by omega) (by omega) (by omega) (by omega) (by omega)
    rw [if_neg k4, if_neg k2, if_neg k3, if_neg k4, if_pos k5]
    rw [if_pos (Int.le_refl _)] at h
    generalize seqI (a + 1) (wI ws a / 8 - 1).toNat = L at *
    simp only [int] at h
    simp (decide := true) [ir48, h0, h2, g0, k5, w1, w3, h]
  · rw [if_neg k4, if_neg k2, if_neg k3, if_neg k4, if_neg k5]
    simp (decide := true) [ir48, h0, h2, g0, k2, k3, k4, k5, seqI]
def inR (xs : List Int) (x : Int) : Nat → Int → Bool
  | 0, _ => false
  | m + 1, i => decide (wI xs i = x) || inR xs x m (i + 1)
theorem inR_mem (xs : List Int) (x : Int) : ∀ (m : Nat) (i : Int), 0 ≤ i → i + m = xs.length → inR xs x m i = decide (x ∈ xs.drop i.toNat)
  | 0, i, h0, h1 => by
    rw [List.drop_eq_nil_of_le (by omega)]
    simp [inR]
  | m + 1, i, h0, h1 => by
    rw [drop_wI h0 (by omega)]
    simp only [inR, inR_mem xs x m (i + 1) (by omega) (by omega)]
    by_cases h : wI xs i = x
    · simp [h]
    · have h' : ¬ (x = wI xs i) := fun e => h e.symm
      simp [h, h']
theorem lp49 (xs : List Int) (hx : xs.length ≤ 1048576) (x : Int) : ∀ (m : Nat) (i : Int), 0 ≤ i → i + m = xs.length →
    ev EE (.loop lp49_0 [0, 1, 5] [4] { np := 0, tm := [(0, IS xs), (1, int x), (5, int i)], ar := [], bx := [] }) =
    if inR xs x m i then some (.out .ret { np := 0, tm := [(4, bool true)], ar := [], bx := [] }) else some (.out (.exit 0) { np := 0, tm := [], ar := [], bx := [] })
  | 0, i, h0, h1 => by
    rw [ev_loop EE lp49_0.eq_1]
    have : ¬ (i < xs.length) := by omega
    simp [this, inR]
  | m + 1, i, h0, h1 => by
    rw [ev_loop EE lp49_0.eq_1]
    have h2 : i < xs.length := by omega
    have g1 := ints_getI xs i h0 h2
    have w1 := wrap64_id (i + 1) (by omega) (by omega)
    have ih := lp49 xs hx x m (i + 1) (by omega) (by omega)
    simp only [int, bool] at ih
    by_cases h3 : wI xs i = x
    · simp (decide := true) [h0, h2, g1, h3, inR]
    · by_cases h4 : inR xs x m (i + 1) = true
      · simp (decide := true) [h0, h2, g1, w1, h3, ih, h4, inR]
      · simp (decide := true) [h0, h2, g1, w1, h3, ih, h4, inR]
theorem e49 (xs : List Int) (hx : xs.length ≤ 1048576) (x : Int) : ev EE (.call 49 [IS xs, int x] []) = some (.val (bool (decide (x ∈ xs))) []) := by
  rw [ev_eq]
  have h := lp49 xs hx x xs.length 0 (by omega) (by omega)
  rw [inR_mem xs x _ _ (by omega) (by omega)] at h
  simp only [int, bool, show (0 : Int).toNat = 0 from rfl, List.drop_zero] at h
  by_cases h2 : x ∈ xs
  · simp [h2] at h
    simp (decide := true) [ir49, h, h2]
  · simp [h2] at h
    simp (decide := true) [ir49, h, h2]
/-! roots -/
def rootS (ws l : List Int) (v : Int) : Bool := leadS ws l v 5
def rootsS (ws rs : List Int) : Bool := heapS ws && rs.all (fun v => rootS ws ((blks ws).getD []) v)
theorem lp46 (ws : List Int) (hw : ws.length ≤ 1048576) (l : List Int) (hc : Chain ws 0 l) (rs : List Int) (hr : rs.length ≤ 1048576) : ∀ (m : Nat) (i : Int), 0 ≤ i → i + m = rs.length →
    ev EE (.loop lp46_0 [1, 2, 5] [4] { np := 0, tm := [(1, IS rs), (2, .bx 0 0), (5, int i)], ar := [], bx := [(0, .b [IS ws])] }) =
    if allR (fun v => rootS ws l v) rs m i then some (.out (.exit 0) { np := 0, tm := [], ar := [], bx := [] }) else some (.out .ret { np := 0, tm := [(4, bool false)], ar := [], bx := [] })
  | 0, i, h0, h1 => by
    rw [ev_loop EE lp46_0.eq_1]
    have : ¬ (i < rs.length) := by omega
    simp [this, allR]
  | m + 1, i, h0, h1 => by
    rw [ev_loop EE lp46_0.eq_1]
    have h2 : i < rs.length := by omega
    have g1 := ints_getI rs i h0 h2
    have w1 := wrap64_id (i + 1) (by omega) (by omega)
    have hq := e78 ws hw l hc (wI rs i) 5
    have ih := lp46 ws hw l hc rs hr m (i + 1) (by omega) (by omega)
    simp only [int, bool] at ih hq
    simp only [allR, rootS] at ih ⊢
    by_cases k : leadS ws l (wI rs i) 5 = true
    · by_cases k2 : allR (fun v => leadS ws l v 5) rs m (i + 1) = true
      · simp (decide := true) [h0, h2, g1, w1, hq, ih, k, k2]
      · simp (decide := true) [h0, h2, g1, w1, hq, ih, k, k2]
    · simp (decide := true) [h0, h2, g1, hq, k]
theorem e46 (ws rs : List Int) (hw : ws.length ≤ 1048576) (hr : rs.length ≤ 1048576) : ev EE (.call 46 [SL ws, IS rs] []) = some (.val (bool (rootsS ws rs)) []) := by
  rw [ev_eq]
  have h36 := e36 ws hw
  simp only [bool] at h36
  unfold rootsS
  cases hs : heapS ws with
  | false =>
    rw [hs] at h36
    simp (decide := true) [ir46, h36]
  | true =>
    rw [hs] at h36
    have hs' := hs
    unfold heapS at hs'
    cases hb : blks ws with
    | none => rw [hb] at hs'; cases hs'
    | some l =>
      have hc := (blks_chain hb).2
      have h := lp46 ws hw l hc rs hr rs.length 0 (by omega) (by omega)
      rw [allR_all] at h
      simp only [int, bool] at h
      simp only [Option.getD_some, Bool.true_and]
      by_cases hq : (rs.all fun v => rootS ws l v) = true
      · rw [if_pos hq] at h
        rw [hq]
        simp (decide := true) [ir46, h36, h]
      · rw [if_neg hq] at h
        rw [Bool.not_eq_true] at hq
        rw [hq]
        simp (decide := true) [ir46, h36, h]
end Go.Pv

namespace Go.Pv
set_option maxRecDepth 8000
set_option maxHeartbeats 4000000
set_option linter.unusedSimpArgs false
set_option linter.unusedVariables false
theorem lp51 (a n t : Int) (h00 : 0 ≤ a) (h01 : 0 ≤ n) (h02 : a + n ≤ 1048576) (h03 : t ≤ 2097152) : ∀ (m : Nat) (i : Int) (acc : List Int), 0 ≤ i → (acc.length : Int) ≤ i → (m : Int) = (if a + n < t then a + n else t) - i ∨ (m = 0 ∧ (if a + n < t then a + n else t) ≤ i) →
    ev EE (.loop lp51_0 [1, 5, 7, 8, 9] [4, 8] { np := 0, tm := [(1, int a), (5, int n), (7, int t), (8, rowV acc), (9, int i)], ar := rowA acc, bx := [] }) =
    some (.out (.exit 1) { np := 0, tm := [(8, rowV (acc ++ seqI i m))], ar := rowA (acc ++ seqI i m), bx := [] })
  | 0, i, acc, h0, h1, h2 => by
    rw [ev_loop EE lp51_0.eq_1]
    have w1 := wrap64_id (a + n) (by omega) (by omega)
    by_cases h4 : a + n < t
    · rw [if_pos h4] at h2
      have h5 : ¬ (i < a + n) := by omega
      cases acc with
      | nil => simp (decide := true) [h4, h5, w1, seqI]
      | cons x acc => simp (decide := true) [h4, h5, w1, seqI]
    · rw [if_neg h4] at h2
      have h5 : ¬ (i < t) := by omega
      cases acc with
      | nil => simp (decide := true) [h4, h5, w1, seqI]
      | cons x acc => simp (decide := true) [h4, h5, w1, seqI]
  | m + 1, i, acc, h0, h1, h2 => by
    rw [ev_loop EE lp51_0.eq_1]
    have w1 := wrap64_id (a + n) (by omega) (by omega)
    have w2 := wrap64_id (i + 1) (by split at h2 <;> omega) (by split at h2 <;> omega)
    have ih := lp51 a n t h00 h01 h02 h03 m (i + 1) (acc ++ [i]) (by omega) (by simp; omega) (by omega)
    simp only [int] at ih
    have hl : (acc.length + 1) * 8 ≤ 140737488351232 := by split at h2 <;> omega
    by_cases h4 : a + n < t
    · rw [if_pos h4] at h2
      have h5 : i < a + n := by omega
      cases acc with
      | nil =>
        simp at ih
        simp (decide := true) [h4, h5, w1, w2, ih, lim, maxB, seqI]
      | cons x acc =>
        simp at ih hl
        simp (decide := true) [h4, h5, w1, w2, ih, hl, lim, maxB, seqI]
    · rw [if_neg h4] at h2
      have h5 : i < t := by omega
      cases acc with
      | nil =>
        simp at ih
        simp (decide := true) [h4, h5, w1, w2, ih, lim, maxB, seqI]
      | cons x acc =>
        simp at ih hl
        simp (decide := true) [h4, h5, w1, w2, ih, hl, lim, maxB, seqI]
theorem e51 (ws : List Int) (hw : ws.length ≤ 1048576) (l : List Int) (hc : Chain ws 0 l) (a : Int) (ha : a ∈ l) : ev EE (.call 51 [SL ws, int a] []) = some (.val (.ls true (ints (slotL ws a))) []) := by
  rw [ev_eq]
  obtain ⟨h0, h2, h3, h4, h5⟩ := hc.mem ha
  have g0 := ints_getI ws a h0 h2
  have w1 := wrap64_id (a + 1) (by omega) (by omega)
  have w2 := wrap64_id (a + 2) (by omega) (by omega)
  have w3 := wrap64_id (a + 3) (by omega) (by omega)
  have w4 := wrap64_id (a + 4) (by omega) (by omega)
  have w5 := wrap64_id (a + wI ws a / 8) (by omega) (by omega)
  have key : ∀ (f t : Int), f = slotF ws a → 0 ≤ f → t ≤ 2097152 → (slotC ws a : Int) = (if a + wI ws a / 8 < t then a + wI ws a / 8 else t) - f → 
      ev EE (.loop lp51_0 [1, 5, 7, 8, 9] [4, 8] { np := 0, tm := [(1, int a), (5, int (wI ws a / 8)), (7, int t), (8, .ls true []), (9, int f)], ar := [], bx := [] }) =
      some (.out (.exit 1) { np := 0, tm := [(8, rowV (slotL ws a))], ar := rowA (slotL ws a), bx := [] }) := by
    intro f t hf hf0 ht hm
    have := lp51 a (wI ws a / 8) t h0 (by omega) (by omega) ht (slotC ws a) f [] hf0 (by simp; omega) (.inl hm)
    simp only [rowV_nil, rowA_nil, List.nil_append] at this
    rw [this, hf]
    rfl
  simp only [int] at key
  by_cases k2 : wI ws a % 8 = 2
  · have h := key (a + 1) (a + 3) (by simp only [slotF]; rw [if_neg (by omega)]) (by omega) (by omega) (by simp only [slotC]; rw [if_pos k2]; split <;> split <;> omega)
    generalize slotL ws a = L at *
    clear key
    cases L with
    | nil => simp at h; simp (decide := true) [ir51, h0, h2, g0, k2, w1, w3, h]
    | cons x L => simp at h; simp (decide := true) [ir51, h0, h2, g0, k2, w1, w3, h]
  by_cases k3 : wI ws a % 8 = 3
  · have h := key (a + 1) (a + 4) (by simp only [slotF]; rw [if_neg (by omega)]) (by omega) (by omega) (by simp only [slotC]; rw [if_neg k2, if_pos k3]; split <;> split <;> omega)
    generalize slotL ws a = L at *
    clear key
    cases L with
    | nil => simp at h; simp (decide := true) [ir51, h0, h2, g0, k3, w1, w4, h]
    | cons x L => simp at h; simp (decide := true) [ir51, h0, h2, g0, k3, w1, w4, h]
  by_cases k4 : wI ws a % 8 = 4
  · have h := key (a + 2) (a + 3) (by simp only [slotF]; rw [if_pos k4]) (by omega) (by omega) (by simp only [slotC]; rw [if_neg k2, if_neg k3, if_pos k4]; split <;> split <;> omega)
    generalize slotL ws a = L at *
    clear key
    cases L with
    | nil => simp at h; simp (decide := true) [ir51, h0, h2, g0, k4, w1, w2, w3, h]
    | cons x L => simp at h; simp (decide := true) [ir51, h0, h2, g0, k4, w1, w2, w3, h]
  by_cases k5 : wI ws a % 8 = 5
  · have h := key (a + 1) (a + wI ws a / 8) (by simp only [slotF]; rw [if_neg k4]) (by omega) (by omega) (by simp only [slotC]; rw [if_neg k2, if_neg k3, if_neg k4, if_pos k5]; split <;> omega)
    generalize slotL ws a = L at *
    clear key
    cases L with
    | nil => simp at h; simp (decide := true) [ir51, h0, h2, g0, k5, w1, w5, h]
    | cons x L => simp at h; simp (decide := true) [ir51, h0, h2, g0, k5, w1, w5, h]
  · have h := key (a + 1) (a + 1) (by simp only [slotF]; rw [if_neg k4]) (by omega) (by omega) (by simp only [slotC]; rw [if_neg k2, if_neg k3, if_neg k4, if_neg k5]; split <;> omega)
    generalize slotL ws a = L at *
    clear key
    cases L with
    | nil => simp at h; simp (decide := true) [ir51, h0, h2, g0, k2, k3, k4, k5, w1, h]
    | cons x L => simp at h; simp (decide := true) [ir51, h0, h2, g0, k2, k3, k4, k5, w1, h]
def rootI (ws l : List Int) (v : Int) : Bool := plainI ws l v || (decide (v % 8 = 7) && toB ws l v 5)
theorem e87 (ws l all : List Int) (hw : ws.length ≤ 1048576) (hc : Chain ws 0 l) (hk : KindsOk ws l all) (v : Int) : ev EE (.call 87 [IS all, int v] []) = some (.val (bool (rootI ws l v)) []) := by
  rw [ev_eq]
  have h1 := e106 ws l all hw hc hk v
  have h2 := e104 ws l all hw hc hk v 7 5 (by omega)
  unfold rootI
  simp only [int, bool] at h1 h2
  by_cases k : plainI ws l v = true
  · rw [k] at h1
    simp (decide := true) [ir87, h1, k]
  · rw [Bool.not_eq_true] at k
    rw [k] at h1
    simp (decide := true) [ir87, h1, k, h2]
theorem e86 (ws l all : List Int) (hw : ws.length ≤ 1048576) (hc : Chain ws 0 l) (hk : KindsOk ws l all) (v : Int) : ev EE (.call 86 [int v, .bx 0 0] [.b [.ls true (ints all)]]) = some (.val (bool (!rootI ws l v)) [.b [.ls true (ints all)]]) := by
  rw [ev_eq]
  have h := e87 ws l all hw hc hk v
  simp only [int, bool] at h
  simp (decide := true) [ir86, h]
theorem lp101c (all : List Int) (xs : List Int) (hx : xs.length ≤ 1048576) (p : Int → Bool) (hp : ∀ v, ev EE (.call 86 [int v, .bx 0 0] [.b [.ls true (ints all)]]) = some (.val (bool (p v)) [.b [.ls true (ints all)]])) : ∀ (m : Nat) (i : Int), 0 ≤ i → i + m = xs.length →
    ev EE (.loop lp101_0 [0, 1, 7, 8] [4] { np := 1, tm := [(0, IS xs), (1, .fn 86 [.bx 0 0]), (7, int xs.length), (8, int i)], ar := [(0, .a false (ints all))], bx := [(0, .b [.rf 0 0 all.length])] }) =
    if 0 ≤ findR p xs m i then some (.out .ret { np := 1, tm := [(4, int (findR p xs m i))], ar := [(0, .a false (ints all))], bx := [(0, .b [.rf 0 0 all.length])] }) else some (.out (.exit 0) { np := 1, tm := [], ar := [(0, .a false (ints all))], bx := [(0, .b [.rf 0 0 all.length])] })
  | 0, i, h0, h1 => by
    rw [ev_loop EE lp101_0.eq_1]
    have : ¬ (i < xs.length) := by omega
    simp (decide := true) [this, findR]
  | m + 1, i, h0, h1 => by
    rw [ev_loop EE lp101_0.eq_1]
    have h2 : i < xs.length := by omega
    have g1 := ints_getI xs i h0 h2
    have w1 := wrap64_id (i + 1) (by omega) (by omega)
    have hq := hp (wI xs i)
    have ih := lp101c all xs hx p hp m (i + 1) (by omega) (by omega)
    simp only [int, bool] at ih hq
    by_cases k : p (wI xs i) = true
    · simp (decide := true) [h0, h2, g1, hq, k, findR]
    · by_cases k2 : 0 ≤ findR p xs m (i + 1)
      · simp (decide := true) [h0, h2, g1, hq, k, w1, ih, k2, findR]
      · simp (decide := true) [h0, h2, g1, hq, k, w1, ih, k2, findR]
theorem e73c (all : List Int) (xs : List Int) (hx : xs.length ≤ 1048576) (p : Int → Bool) (hp : ∀ v, ev EE (.call 86 [int v, .bx 0 0] [.b [.ls true (ints all)]]) = some (.val (bool (p v)) [.b [.ls true (ints all)]])) :
    ev EE (.call 73 [IS xs, .fn 86 [.bx 0 0]] [.b [.ls true (ints all)]]) = some (.val (bool (xs.any p)) [.b [.ls true (ints all)]]) := by
  have h101 : ev EE (.call 101 [IS xs, .fn 86 [.bx 0 0]] [.b [.ls true (ints all)]]) = some (.val (int (findR p xs xs.length 0)) [.b [.ls true (ints all)]]) := by
    rw [ev_eq]
    have h := lp101c all xs hx p hp xs.length 0 (by omega) (by omega)
    simp only [int, bool] at h
    by_cases k2 : 0 ≤ findR p xs xs.length 0
    · simp [k2] at h
      simp (decide := true) [ir101, h]
    · have k3 := findR_neg p xs _ _ (by omega) k2
      simp [k3] at h
      simp (decide := true) [ir101, h, k3]
  rw [ev_eq]
  have h2 := findR_any p xs xs.length 0 (by omega)
  rw [allR_all] at h2
  have h3 : (xs.any p) = decide (0 ≤ findR p xs xs.length 0) := by
    rw [h2, List.not_all_eq_any_not]
    simp
  simp only [int, bool] at h101
  rw [h3]
  simp (decide := true) [ir73, h101]
theorem root_eq {ws l : List Int} (hw : ws.length ≤ 2000) (hc : Chain ws 0 l) (v : Int) : rootI ws l v = rootS ws l v := by
  unfold rootI rootS
  by_cases h7 : v % 8 = 7
  · rw [lead7 hw hc h7]
    simp [plainI, h7]
  · rw [← plain_eq hw hc]
    simp only [h7, decide_false, Bool.false_and, Bool.or_false, plainS, leadS]
    simp [h7]
theorem e50 (ws rs : List Int) (hw : ws.length ≤ 1048576) (hr : rs.length ≤ 1048576) : ev EE (.call 50 [SL ws, IS rs] []) = some (.val (bool (rootsS ws rs)) []) := by
  rw [ev_eq]
  have h39 := e39 ws hw
  have h44 := e44 ws hw
  simp only [bool] at h39
  unfold rootsS
  cases hs : heapS ws with
  | false =>
    rw [hs] at h39
    simp (decide := true) [ir50, h39]
  | true =>
    rw [hs] at h39
    have hs' := hs
    unfold heapS at hs'
    cases hb : blks ws with
    | none => rw [hb] at hs'; cases hs'
    | some l =>
      obtain ⟨hw2, hc⟩ := blks_chain hb
      have h := e73c (kindsP ws) rs hr (fun v => !rootI ws l v) (fun v => e86 ws l (kindsP ws) hw hc (kindsP_ok hb) v)
      simp only [Option.getD_some, Bool.true_and]
      have hf : (!rs.any fun v => !rootI ws l v) = rs.all fun v => rootS ws l v := by
        rw [List.not_any_eq_all_not]
        congr 1
        funext v
        simp [root_eq hw2 hc]
      rw [← hf]
      simp only [bool] at h
      simp (decide := true) [ir50, h39, h44, h, one1]
end Go.Pv

namespace Go.Pv
set_option maxRecDepth 100000
set_option maxHeartbeats 4000000
set_option linter.unusedSimpArgs false
set_option linter.unusedVariables false
/-! what slides -/
def goodV (ws l : List Int) (v : Int) : Prop := v % 8 < 4 ∨ leadsI ws l v = true
theorem goodV.lt {ws l : List Int} (hc : Chain ws 0 l) {v : Int} (h : goodV ws l v) : v % 8 < 4 ∨ v / 8 < ws.length := by
  rcases h with h | h
  · exact .inl h
  · right
    unfold leadsI at h
    have : v / 8 ∈ l := by
      split at h
      · simp only [toB, Bool.and_eq_true, decide_eq_true_eq] at h; exact h.1
      · split at h
        · simp only [toB, Bool.and_eq_true, decide_eq_true_eq] at h; exact h.1
        · split at h
          · simp only [toB, Bool.and_eq_true, decide_eq_true_eq] at h; exact h.1
          · split at h
            · simp only [toB, Bool.and_eq_true, decide_eq_true_eq, Bool.or_eq_true] at h
              rcases h with h | h <;> exact h.1
            · cases h
    exact (hc.mem this).2.1
theorem e42g (ws : List Int) (hw : ws.length ≤ 1048576) (l : List Int) (hc : Chain ws 0 l) (v : Int) (hv : goodV ws l v) : ev EE (.call 42 [SL ws, int v] []) = some (.val (int (movedS ws l v)) []) := by
  rcases hv.lt hc with h | h
  · rw [ev_eq]
    unfold movedS
    simp (decide := true) [ir42, h]
  · exact e42 ws hw l hc v h
def wordS (ws l : List Int) (a j : Int) : Int := if a + j ∈ slotL ws a then movedS ws l (wI ws (a + j)) else wI ws (a + j)
def blkR (ws l : List Int) (a : Int) : Nat → Int → List Int
  | 0, _ => []
  | m + 1, j => wordS ws l a j :: blkR ws l a m (j + 1)
def rowVn (nm : Nat) (acc : List Int) : V := if acc = [] then .ls true [] else .rf nm 0 acc.length
def rowAn (nm : Nat) (acc : List Int) : List (Nat × Cell) := if acc = [] then [] else [(nm, .a false (ints acc))]
@[simp] theorem rowVn_nil (n : Nat) : rowVn n [] = .ls true [] := rfl
@[simp] theorem rowAn_nil (n : Nat) : rowAn n [] = [] := rfl
@[simp] theorem rowVn_cons (n : Nat) (x : Int) (l : List Int) : rowVn n (x :: l) = .rf n 0 (l.length + 1) := by simp [rowVn]
@[simp] theorem rowAn_cons (n : Nat) (x : Int) (l : List Int) : rowAn n (x :: l) = [(n, .a false (ints (x :: l)))] := by simp [rowAn]
@[simp] theorem rowVn_snoc (n : Nat) (x : Int) (l : List Int) : rowVn n (l ++ [x]) = .rf n 0 (l.length + 1) := by simp [rowVn]
@[simp] theorem rowAn_snoc (n : Nat) (x : Int) (l : List Int) : rowAn n (l ++ [x]) = [(n, .a false (ints (l ++ [x])))] := by simp [rowAn]
theorem slotL_len (ws : List Int) (a : Int) (h : 2 ≤ wI ws a / 8) : ((slotL ws a).length : Int) ≤ wI ws a / 8 := by
  simp only [slotL, seqI_len, slotC]
  split
  · split <;> omega
  · split
    · split <;> omega
    · split
      · split <;> omega
      · split <;> omega
theorem lp19_2' (ws : List Int) (hw : ws.length ≤ 1048576) (l : List Int) (hc : Chain ws 0 l) (rs : List Int) (a : Int) (ha : a ∈ l) (hg : ∀ k ∈ slotL ws a, goodV ws l (wI ws k)) (i : Int) : ∀ (m : Nat) (j : Int) (acc : List Int), 0 ≤ j → j + m = wI ws a / 8 → (acc.length : Int) + m ≤ 2097152 →
    ev EE (.loop lp19_2 [1, 2, 4, 6, 7, 8, 9, 10, 11, 12] [1, 2, 4, 5, 6, 7, 8] { np := 0, tm := [(1, IS rs), (2, .bx 0 0), (4, .bx 1 0), (6, .bx 2 0), (7, .rf 0 0 l.length), (8, int i), (9, int a), (10, int (wI ws a / 8)), (11, .rf 1 0 (slotL ws a).length), (12, int j)], ar := [(0, .a false (ints l)), (1, .a false (ints (slotL ws a)))] ++ rowAn 2 acc, bx := [(0, .b [IS ws]), (1, .b [.ls true []]), (2, .b [rowVn 2 acc])] }) =
    some (.out (.exit 2) { np := 0, tm := [(1, IS rs), (2, .bx 0 0), (4, .bx 1 0), (6, .bx 2 0), (7, .rf 0 0 l.length), (8, int i)], ar := [(0, .a false (ints l))] ++ rowAn 1 (acc ++ blkR ws l a m j), bx := [(0, .b [IS ws]), (1, .b [.ls true []]), (2, .b [rowVn 1 (acc ++ blkR ws l a m j)])] }) := by
  intro m
  induction m with
  | zero =>
    intro j acc h0 h1 h2
    rw [ev_loop EE lp19_2.eq_1]
    have h3 : ¬ (j < wI ws a / 8) := by omega
    cases acc with
    | nil => simp (decide := true) [h3, blkR]
    | cons x acc => simp (decide := true) [h3, blkR]
  | succ m ihm =>
    intro j acc h0 h1 h2
    rw [ev_loop EE lp19_2.eq_1]
    obtain ⟨k0, k2, k3, k4, k5⟩ := hc.mem ha
    have h3 : j < wI ws a / 8 := by omega
    have b1 : 0 ≤ a + j := by omega
    have b2 : a + j < ws.length := by omega
    have g1 := ints_getI ws (a + j) b1 b2
    have w1 := wrap64_id (j + 1) (by omega) (by omega)
    have w2 := wrap64_id (a + j) (by omega) (by omega)
    have hsl := slotL_len ws a k3
    have h49 := e49 (slotL ws a) (by omega) (a + j)
    have ih := ihm (j + 1) (acc ++ [wordS ws l a j]) (by omega) (by omega) (by simp; omega)
    simp only [int, bool] at ih h49
    by_cases hin : a + j ∈ slotL ws a
    · have h42 := e42g ws hw l hc (wI ws (a + j)) (hg _ hin)
      have hws : wordS ws l a j = movedS ws l (wI ws (a + j)) := by simp [wordS, hin]
      rw [hws] at ih
      simp only [int] at h42
      cases acc with
      | nil =>
        simp at ih
        simp (decide := true) [h3, b1, b2, g1, w1, w2, h49, hin, h42, ih, lim, maxB, blkR, hws, one1]
      | cons x acc =>
        simp at ih h2
        have hl : (acc.length + 1 + 1) * 8 ≤ 140737488351232 := by omega
        simp (decide := true) [h3, b1, b2, g1, w1, w2, h49, hin, h42, ih, hl, lim, maxB, blkR, hws, one1]
    · have hws : wordS ws l a j = wI ws (a + j) := by simp [wordS, hin]
      rw [hws] at ih
      cases acc with
      | nil =>
        simp at ih
        simp (decide := true) [h3, b1, b2, g1, w1, w2, h49, hin, ih, lim, maxB, blkR, hws, one1]
      | cons x acc =>
        simp at ih h2
        have hl : (acc.length + 1 + 1) * 8 ≤ 140737488351232 := by omega
        simp (decide := true) [h3, b1, b2, g1, w1, w2, h49, hin, ih, hl, lim, maxB, blkR, hws, one1]
end Go.Pv

namespace Go.Pv
set_option maxRecDepth 100000
set_option maxHeartbeats 4000000
set_option linter.unusedSimpArgs false
set_option linter.unusedVariables false
@[simp] theorem cloLs_ints {α : Type} : ∀ (xs : List Int) (k : List (List V) → M α), cloLs (ints xs) k = k (ints xs)
  | [], k => rfl
  | x :: xs, k => by
    have h : ints (x :: xs) = [V.sc (.int .i64 x)] :: ints xs := rfl
    rw [h]
    simp only [cloLs, cloL, expL, exp, List.all_cons, List.all_nil, clo1, Bool.and_self, chk, if_true]
    rw [cloLs_ints xs]
@[simp] theorem ints_one_len (xs : List Int) : (∀ (x : List V), x ∈ ints xs → x.length = 1) ↔ True := by
  simp only [iff_true]
  intro x hx
  simp only [ints, List.mem_map] at hx
  obtain ⟨y, _, rfl⟩ := hx
  rfl
def outS (ws l : List Int) : List Int → List Int
  | [] => []
  | k :: r => if wI ws k % 8 = 0 then outS ws l r else blkR ws l k (wI ws k / 8).toNat 0 ++ outS ws l r
theorem blkR_len (ws l : List Int) (a : Int) : ∀ (m : Nat) (j : Int), (blkR ws l a m j).length = m
  | 0, _ => rfl
  | m + 1, j => by simp [blkR, blkR_len ws l a m]
theorem outS_len {ws l : List Int} : ∀ {r : List Int} {a : Int}, Chain ws a r → ((outS ws l r).length : Int) ≤ ws.length - a
  | [], a, hc => by unfold Chain at hc; simp [outS]; omega
  | k :: r, a, hc => by
    obtain ⟨rfl, h2, h3, h4, h5, h6⟩ := hc
    have := outS_len (l := l) h6
    simp only [outS]
    split
    · omega
    · rw [List.length_append, blkR_len]
      omega
def gdS (ws l : List Int) : Prop := ∀ a ∈ l, ∀ k ∈ slotL ws a, goodV ws l (wI ws k)
theorem Chain.drop {ws : List Int} : ∀ {l : List Int} {a : Int} (n : Nat), Chain ws a l → n < l.length → Chain ws (wI l n) (l.drop n)
  | [], a, n, _, h => by simp at h
  | x :: l, a, 0, hc, h => by
    have hx := hc.1
    subst hx
    simpa [wI] using hc
  | x :: l, a, n + 1, hc, h => by
    obtain ⟨rfl, h2, h3, h4, h5, h6⟩ := hc
    have := h6.drop n (by simpa using h)
    have e : wI (x :: l) ((n + 1 : Nat) : Int) = wI l (n : Int) := by
      have e1 : (((n + 1 : Nat) : Int)).toNat = n + 1 := by omega
      have e2 : ((n : Int)).toNat = n := by omega
      simp only [wI, e1, e2]
      simp
    rw [e]
    simpa using this
theorem lp19_3' (ws : List Int) (hw : ws.length ≤ 1048576) (l : List Int) (hc : Chain ws 0 l) (hg : gdS ws l) (rs : List Int) : ∀ (m : Nat) (i : Int) (acc : List Int), 0 ≤ i → i + m = l.length → (m = 0 ∨ (acc.length : Int) ≤ wI l i) →
    ev EE (.loop lp19_3 [1, 2, 4, 6, 7, 8] [1, 2, 4, 5, 6] { np := 0, tm := [(1, IS rs), (2, .bx 0 0), (4, .bx 1 0), (6, .bx 2 0), (7, .rf 0 0 l.length), (8, int i)], ar := [(0, .a false (ints l))] ++ rowAn 1 acc, bx := [(0, .b [IS ws]), (1, .b [.ls true []]), (2, .b [rowVn 1 acc])] }) =
    some (.out (.exit 0) { np := 0, tm := [(1, IS rs), (2, .bx 0 0), (4, .bx 1 0), (6, .bx 2 0)], ar := rowAn 0 (acc ++ outS ws l (l.drop i.toNat)), bx := [(0, .b [IS ws]), (1, .b [.ls true []]), (2, .b [rowVn 0 (acc ++ outS ws l (l.drop i.toNat))])] })
  | 0, i, acc, h0, h1, h2 => by
    rw [ev_loop EE lp19_3.eq_1]
    have h3 : ¬ (i < l.length) := by omega
    have h6 : l.drop i.toNat = [] := List.drop_eq_nil_of_le (by omega)
    rw [h6]
    cases acc with
    | nil => simp (decide := true) [h3, outS]
    | cons x acc => simp (decide := true) [h3, outS]
  | m + 1, i, acc, h0, h1, h2 => by
    rw [ev_loop EE lp19_3.eq_1]
    have hi : i < l.length := by omega
    have ha := wI_mem h0 hi
    obtain ⟨k0, k2, k3, k4, k5⟩ := hc.mem ha
    have hln := hc.len (by omega)
    have g1 := ints_getI l i h0 hi
    have g2 := ints_getI ws (wI l i) k0 k2
    have w1 := wrap64_id (i + 1) (by omega) (by omega)
    have hnx : m = 0 ∨ wI l i + wI ws (wI l i) / 8 ≤ wI l (i + 1) := by
      by_cases hm0 : m = 0
      · exact .inl hm0
      · right
        have hs := hc.sub.drop (i := i.toNat)
        rw [drop_wI h0 hi, drop_wI (i := i + 1) (by omega) (by omega)] at hs
        exact (List.pairwise_cons.1 hs).1 _ (by simp)
    rw [drop_wI h0 hi]
    simp only [outS]
    by_cases hk : wI ws (wI l i) % 8 = 0
    · rw [if_pos hk]
      have ih := lp19_3' ws hw l hc hg rs m (i + 1) acc (by omega) (by omega) (by omega)
      simp only [int] at ih
      cases acc with
      | nil =>
        simp at ih
        simp (decide := true) [h0, hi, k0, k2, g1, g2, w1, hk, ih]
      | cons x acc =>
        simp at ih
        simp (decide := true) [h0, hi, k0, k2, g1, g2, w1, hk, ih]
    · rw [if_neg hk]
      have h48 := e48 ws hw l hc (wI l i) ha
      have hb := lp19_2' ws hw l hc rs (wI l i) ha (hg _ ha) i (wI ws (wI l i) / 8).toNat 0 acc (by omega) (by omega) (by omega)
      have hbl := blkR_len ws l (wI l i) (wI ws (wI l i) / 8).toNat 0
      have ih := lp19_3' ws hw l hc hg rs m (i + 1) (acc ++ blkR ws l (wI l i) (wI ws (wI l i) / 8).toNat 0) (by omega) (by omega) (by rw [List.length_append, hbl]; omega)
      rw [List.append_assoc] at ih
      generalize blkR ws l (wI l i) (wI ws (wI l i) / 8).toNat 0 = B at *
      have hB : ∃ y B', B = y :: B' := by
        cases B with
        | nil => simp at hbl; omega
        | cons y B' => exact ⟨y, B', rfl⟩
      obtain ⟨y, B', rfl⟩ := hB
      simp only [int] at ih hb h48
      cases acc with
      | nil =>
        simp at ih hb
        simp (decide := true) [h0, hi, k0, k2, g1, g2, w1, hk, h48, hb, ih]
      | cons x acc =>
        simp at ih hb
        simp (decide := true) [h0, hi, k0, k2, g1, g2, w1, hk, h48, hb, ih]
def tailR (rest : Int) : Nat → Int → List Int
  | 0, _ => []
  | m + 1, k => (if k = 0 then 8 * rest else 0) :: tailR rest m (k + 1)
theorem lp19_1' (ws : List Int) (rs : List Int) (rest : Int) (hr0 : rest ≤ 1048576) : ∀ (m : Nat) (k : Int) (acc : List Int), 0 ≤ k → k + m = rest ∨ (m = 0 ∧ rest ≤ k) → (acc.length : Int) + m ≤ 2097152 →
    ev EE (.loop lp19_1 [1, 2, 4, 6, 14, 15] [1, 2, 4, 5, 6] { np := 0, tm := [(1, IS rs), (2, .bx 0 0), (4, .bx 1 0), (6, .bx 2 0), (14, int rest), (15, int k)], ar := rowAn 0 acc, bx := [(0, .b [IS ws]), (1, .b [.ls true []]), (2, .b [rowVn 0 acc])] }) =
    some (.out (.exit 4) { np := 0, tm := [(1, IS rs), (2, .bx 0 0), (4, .bx 1 0), (6, .bx 2 0)], ar := rowAn 0 (acc ++ tailR rest m k), bx := [(0, .b [IS ws]), (1, .b [.ls true []]), (2, .b [rowVn 0 (acc ++ tailR rest m k)])] }) := by
  intro m
  induction m with
  | zero =>
    intro k acc h0 h1 h2
    rw [ev_loop EE lp19_1.eq_1]
    have h3 : ¬ (k < rest) := by omega
    cases acc with
    | nil => simp (decide := true) [h3, tailR]
    | cons x acc => simp (decide := true) [h3, tailR]
  | succ m ihm =>
    intro k acc h0 h1 h2
    rw [ev_loop EE lp19_1.eq_1]
    have h3 : k < rest := by omega
    have w1 := wrap64_id (k + 1) (by omega) (by omega)
    have w2 := wrap64_id (8 * rest) (by omega) (by omega)
    have w3 := wrap64_id 1 (by omega) (by omega)
    have ih := ihm (k + 1) (acc ++ [if k = 0 then 8 * rest else 0]) (by omega) (by omega) (by simp; omega)
    simp only [int] at ih
    by_cases hk : k = 0
    · subst hk
      rw [if_pos rfl] at ih
      cases acc with
      | nil =>
        simp at ih
        simp (decide := true) [h3, w1, w2, w3, ih, lim, maxB, one1, tailR]
      | cons x acc =>
        simp at ih h2
        have hl : (acc.length + 1 + 1) * 8 ≤ 140737488351232 := by omega
        simp (decide := true) [h3, w1, w2, w3, ih, hl, lim, maxB, one1, tailR]
    · rw [if_neg hk] at ih
      cases acc with
      | nil =>
        simp at ih
        simp (decide := true) [h3, w1, w2, hk, ih, lim, maxB, one1, tailR]
      | cons x acc =>
        simp at ih h2
        have hl : (acc.length + 1 + 1) * 8 ≤ 140737488351232 := by omega
        simp (decide := true) [h3, w1, w2, hk, ih, hl, lim, maxB, one1, tailR]
theorem lp19_0' (ws : List Int) (hw : ws.length ≤ 1048576) (l : List Int) (hc : Chain ws 0 l) (rs : List Int) (hr : rs.length ≤ 1048576) (hg : ∀ v ∈ rs, goodV ws l v) (out : List Int) : ∀ (m : Nat) (i : Int) (acc : List Int), 0 ≤ i → i + m = rs.length → (acc.length : Int) ≤ i →
    ev EE (.loop lp19_0 [1, 2, 4, 6, 17, 18] [4, 5, 6, 17] { np := 0, tm := [(1, IS rs), (2, .bx 0 0), (4, .bx 1 0), (6, .bx 2 0), (17, rowVn 0 acc), (18, int i)], ar := rowAn 0 acc ++ rowAn (nm1 acc) out, bx := [(0, .b [IS ws]), (1, .b [.ls true []]), (2, .b [rowVn (nm1 acc) out])] }) =
    some (.out (.exit 6) { np := 0, tm := [(4, .bx 0 0), (6, .bx 1 0), (17, rowVn 0 (acc ++ (rs.drop i.toNat).map (movedS ws l)))], ar := rowAn 0 (acc ++ (rs.drop i.toNat).map (movedS ws l)) ++ rowAn (nm1 (acc ++ (rs.drop i.toNat).map (movedS ws l))) out, bx := [(0, .b [.ls true []]), (1, .b [rowVn (nm1 (acc ++ (rs.drop i.toNat).map (movedS ws l))) out])] })
  | 0, i, acc, h0, h1, h2 => by
    rw [ev_loop EE lp19_0.eq_1]
    have h3 : ¬ (i < rs.length) := by omega
    have h6 : rs.drop i.toNat = [] := List.drop_eq_nil_of_le (by omega)
    rw [h6]
    cases acc with
    | nil => cases out with
      | nil => simp (decide := true) [h3]
      | cons y out => simp (decide := true) [h3]
    | cons x acc => cases out with
      | nil => simp (decide := true) [h3]
      | cons y out => simp (decide := true) [h3]
  | m + 1, i, acc, h0, h1, h2 => by
    rw [ev_loop EE lp19_0.eq_1]
    have hi : i < rs.length := by omega
    have g1 := ints_getI rs i h0 hi
    have w1 := wrap64_id (i + 1) (by omega) (by omega)
    have h42 := e42g ws hw l hc (wI rs i) (hg _ (wI_mem h0 hi))
    have ih := lp19_0' ws hw l hc rs hr hg out m (i + 1) (acc ++ [movedS ws l (wI rs i)]) (by omega) (by omega) (by simp; omega)
    rw [drop_wI h0 hi]
    simp only [int] at ih h42
    simp only [List.map_cons]
    generalize (rs.drop (i + 1).toNat).map (movedS ws l) = R at *
    cases acc with
    | nil => cases out with
      | nil =>
        simp at ih
        simp (decide := true) [h0, hi, g1, w1, h42, ih, lim, maxB]
      | cons y out =>
        simp at ih
        simp (decide := true) [h0, hi, g1, w1, h42, ih, lim, maxB]
    | cons x acc =>
      simp at h2
      have hl : (acc.length + 1 + 1) * 8 ≤ 140737488351232 := by omega
      cases out with
      | nil =>
        simp at ih
        simp (decide := true) [h0, hi, g1, w1, h42, ih, hl, lim, maxB]
      | cons y out =>
        simp at ih
        simp (decide := true) [h0, hi, g1, w1, h42, ih, hl, lim, maxB]
theorem lead_good {ws l : List Int} {v i : Int} (h : leadS ws l v i = true) (h7 : v % 8 = 7 → i = 3 ∨ i = 5) : goodV ws l v := by
  simp only [leadS, Bool.and_eq_true] at h
  obtain ⟨_, h⟩ := h
  by_cases k : v % 8 < 4
  · exact .inl k
  · right
    unfold leadsI
    by_cases k4 : v % 8 = 4
    · rw [if_pos k4] at h ⊢; exact h
    by_cases k5 : v % 8 = 5
    · rw [if_neg k4, if_pos k5] at h ⊢; exact h
    by_cases k6 : v % 8 = 6
    · rw [if_neg k4, if_neg k5, if_pos k6] at h ⊢; exact h
    · have k7 : v % 8 = 7 := by omega
      rw [if_neg k4, if_neg k5, if_neg k6, if_pos k7] at h ⊢
      rcases h7 k7 with rfl | rfl <;> simp [h]
theorem next_good {ws l : List Int} {v i : Int} (h : nextS ws l v i = true) (hi : i = 3 ∨ i = 5) : goodV ws l v := by
  simp only [nextS, Bool.or_eq_true, Bool.and_eq_true, decide_eq_true_eq] at h
  rcases h with rfl | ⟨_, h⟩
  · left; omega
  · exact lead_good h fun _ => hi
theorem plain_good {ws l : List Int} {v : Int} (h : plainS ws l v = true) : goodV ws l v := by
  simp only [plainS, Bool.and_eq_true, decide_eq_true_eq] at h
  exact lead_good h.2 fun h7 => absurd h7 h.1
theorem gd_of_heap {ws l : List Int} (hb : blks ws = some l) (hs : heapS ws = true) : gdS ws l := by
  intro a ha k hk
  have hc := (blks_chain hb).2
  obtain ⟨h0, h2, h3, h4, h5⟩ := hc.mem ha
  have hsh : shapeS ws l a = true := by
    unfold heapS at hs
    rw [hb] at hs
    exact List.all_eq_true.1 hs a ha
  rw [slotL, seqI_mem] at hk
  unfold shapeS at hsh
  by_cases k2 : wI ws a % 8 = 2
  · rw [if_neg (by omega), if_pos k2] at hsh
    simp only [Bool.and_eq_true, decide_eq_true_eq, Bool.or_eq_true] at hsh
    obtain ⟨⟨⟨hn, hw1⟩, hw2⟩, _⟩ := hsh
    simp only [slotF, slotC, k2] at hk
    have : k = a + 1 ∨ k = a + 2 := by
      rw [if_neg (by omega)] at hk
      simp only [if_true] at hk
      split at hk <;> omega
    rcases this with rfl | rfl
    · rcases hw1 with h | ⟨h, h'⟩
      · left; omega
      · exact lead_good h' fun h7 => by omega
    · exact next_good hw2 (.inl rfl)
  by_cases k3 : wI ws a % 8 = 3
  · rw [if_neg (by omega), if_neg k2, if_pos k3] at hsh
    simp only [Bool.and_eq_true, decide_eq_true_eq] at hsh
    obtain ⟨⟨⟨⟨⟨hn, hw1⟩, hw1'⟩, hw2⟩, hw3⟩, _⟩ := hsh
    simp only [slotF, slotC] at hk
    rw [if_neg (by omega : ¬ wI ws a % 8 = 4), if_neg k2, if_pos k3] at hk
    have : k = a + 1 ∨ k = a + 2 ∨ k = a + 3 := by split at hk <;> omega
    rcases this with rfl | rfl | rfl
    · exact lead_good hw1' fun h7 => by omega
    · exact plain_good hw2
    · exact next_good hw3 (.inl rfl)
  by_cases k4 : wI ws a % 8 = 4
  · rw [if_neg (by omega), if_neg k2, if_neg k3, if_pos k4] at hsh
    simp only [Bool.and_eq_true, decide_eq_true_eq] at hsh
    obtain ⟨⟨⟨⟨hn, _⟩, hw2⟩, hw2'⟩, _⟩ := hsh
    simp only [slotF, slotC] at hk
    rw [if_pos k4, if_neg k2, if_neg k3, if_pos k4] at hk
    have : k = a + 2 := by split at hk <;> omega
    subst this
    exact lead_good hw2' fun _ => .inr rfl
  by_cases k5 : wI ws a % 8 = 5
  · rw [if_neg (by omega), if_neg k2, if_neg k3, if_neg k4, if_pos k5] at hsh
    simp only [Bool.and_eq_true] at hsh
    simp only [slotF, slotC] at hk
    rw [if_neg k4, if_neg k2, if_neg k3, if_neg k4, if_pos k5] at hk
    by_cases hk1 : k = a + 1
    · subst hk1; exact next_good hsh.1 (.inr rfl)
    · exact plain_good ((plainR_iff ws l _ _).1 hsh.2 k (by omega) (by omega))
  · simp only [slotF, slotC] at hk
    rw [if_neg k4, if_neg k2, if_neg k3, if_neg k4, if_neg k5] at hk
    omega
theorem gd_of_roots {ws rs l : List Int} (hb : blks ws = some l) (hr : rootsS ws rs = true) : ∀ v ∈ rs, goodV ws l v := by
  intro v hv
  simp only [rootsS, Bool.and_eq_true, hb, Option.getD_some] at hr
  have := List.all_eq_true.1 hr.2 v hv
  exact lead_good this fun _ => .inr rfl
def restI (ws l : List Int) : Int := ws.length - (outS ws l l).length
def slideW (ws rs : List Int) : List Int := if rootsS ws rs then outS ws ((blks ws).getD []) ((blks ws).getD []) ++ tailR (restI ws ((blks ws).getD [])) (restI ws ((blks ws).getD [])).toNat 0 else []
def slideR (ws rs : List Int) : List Int := if rootsS ws rs then rs.map (movedS ws ((blks ws).getD [])) else []
theorem roots_blks {ws rs : List Int} (h : rootsS ws rs = true) : heapS ws = true ∧ ∃ l, blks ws = some l := by
  simp only [rootsS, Bool.and_eq_true] at h
  refine ⟨h.1, ?_⟩
  have hs := h.1
  unfold heapS at hs
  cases hb : blks ws with
  | none => rw [hb] at hs; cases hs
  | some l => exact ⟨l, rfl⟩
theorem e19 (ws rs : List Int) (hw : ws.length ≤ 1048576) (hr : rs.length ≤ 1048576) : ev EE (.call 19 [SL ws, IS rs] []) = some (.val (.tu [.ag [.ls true (ints (slideW ws rs))], .ls true (ints (slideR ws rs))]) []) := by
  rw [ev_eq]
  have h46 := e46 ws rs hw hr
  unfold slideW slideR
  cases hq : rootsS ws rs with
  | false =>
    rw [hq] at h46
    simp only [bool] at h46
    simp (decide := true) [ir19, h46, one1]
  | true =>
    rw [hq] at h46
    obtain ⟨hs, l, hb⟩ := roots_blks hq
    have hc := (blks_chain hb).2
    have h47 := e47 ws hw l hc
    have hm0 : l.length = 0 ∨ ((([] : List Int).length : Nat) : Int) ≤ wI l 0 := by
      by_cases hz : l.length = 0
      · exact .inl hz
      · right
        have := (hc.mem (wI_mem (by omega) (by omega : (0 : Int) < l.length))).1
        simpa using this
    have hol := outS_len (l := l) hc
    have h3 := lp19_3' ws hw l hc (gd_of_heap hb hs) rs l.length 0 [] (by omega) (by omega) hm0
    have h1 := lp19_1' ws rs (restI ws l) (by unfold restI; omega) (restI ws l).toNat 0 (outS ws l l) (by omega) (by left; unfold restI; omega) (by unfold restI; omega)
    have w1 := wrap64_id (ws.length - (outS ws l l).length) (by omega) (by omega)
    simp only [hb, Option.getD_some, if_true]
    simp only [show (0 : Int).toNat = 0 from rfl, List.drop_zero, List.nil_append, rowVn_nil, rowAn_nil, List.append_nil] at h3
    have h0 := lp19_0' ws hw l hc rs hr (gd_of_roots hb hq) (outS ws l l ++ tailR (restI ws l) (restI ws l).toNat 0) rs.length 0 [] (by omega) (by omega) (by simp)
    simp only [show (0 : Int).toNat = 0 from rfl, List.drop_zero, List.nil_append, rowVn_nil, rowAn_nil, nm1_nil] at h0
    change IntKind.i64.wrap (restI ws l) = restI ws l at w1
    have hrest : (ws.length : Int) - (outS ws l l).length = restI ws l := rfl
    generalize restI ws l = R at *
    generalize tailR R R.toNat 0 = T at *
    generalize rs.map (movedS ws l) = M at *
    generalize outS ws l l = O at *
    simp only [int, bool] at h46 h3 h1 h0
    cases O with
    | nil =>
      simp at h3 h1 h0 hrest
      cases T with
      | nil =>
        simp at h3 h1 h0
        cases M with
        | nil => simp at h0; simp (decide := true) [ir19, h46, h47, h3, h1, h0, w1, hrest, one1]
        | cons m M => simp at h0; simp (decide := true) [ir19, h46, h47, h3, h1, h0, w1, hrest, one1]
      | cons t T =>
        simp at h3 h1 h0
        cases M with
        | nil => simp at h0; simp (decide := true) [ir19, h46, h47, h3, h1, h0, w1, hrest, one1]
        | cons m M => simp at h0; simp (decide := true) [ir19, h46, h47, h3, h1, h0, w1, hrest, one1]
    | cons o O =>
      have htk : List.take (O.length + T.length) (O ++ T) = O ++ T := List.take_of_length_le (by simp)
      simp at h3 h1 h0 hrest
      cases M with
      | nil => simp at h0; simp (decide := true) [ir19, h46, h47, h3, h1, h0, w1, hrest, one1, htk]
      | cons m M => simp at h0; simp (decide := true) [ir19, h46, h47, h3, h1, h0, w1, hrest, one1, htk]
end Go.Pv
