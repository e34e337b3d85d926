/- Proof: the law Forward answers true. No condition. -/
import Derived.Test.YthddchcckpmgoaaEqE
set_option autoImplicit true
set_option relaxedAutoImplicit true
set_option linter.unusedSimpArgs false
set_option linter.unusedVariables false
namespace Go.Pv
set_option maxRecDepth 8000
set_option maxHeartbeats 4000000
set_option linter.unusedSimpArgs false
set_option linter.unusedVariables false
theorem e34 (ws : List Int) (k : Int) (h0 : 0 ≤ k) (h1 : k ≤ 1048576) (hw : (ws.length : Int) ≤ 9223372036854775807) : ev EE (.call 34 [IS ws, int k] []) = some (.val (int (if k - ws.length < 0 then -1 else k - ws.length)) []) := by
  rw [ev_eq]
  have w1 := wrap64_id (k - ws.length) (by omega) (by omega)
  by_cases h : k - ws.length < 0
  · simp (decide := true) [ir34, w1, h]
  · simp (decide := true) [ir34, w1, h]
theorem e8 (ws : List Int) (k : Int) (h0 : 0 ≤ k) (h1 : k ≤ 1048576) (hw : (ws.length : Int) ≤ 9223372036854775807) : ev EE (.call 8 [SL ws, int k] []) = some (.val (int (if k - ws.length < 0 then -1 else k - ws.length)) []) := by
  rw [ev_eq]
  have h := e34 ws k h0 h1 hw
  simp only [int] at h
  by_cases h2 : k - ws.length < 0
  · rw [if_pos h2] at h ⊢
    simp (decide := true) [ir8, h]
  · rw [if_neg h2] at h ⊢
    simp (decide := true) [ir8, h, h2]
theorem ext_wI {xs ys : List Int} (h : xs.length = ys.length) (h2 : ∀ j : Int, 0 ≤ j → j < xs.length → wI xs j = wI ys j) : xs = ys := by
  apply List.ext_getElem h
  intro i h3 h4
  have := h2 i (by omega) (by omega)
  simpa [wI, h3, h4] using this
def cpR (ws : List Int) : Nat → List Int → Int → List Int
  | 0, xs, _ => xs
  | m + 1, xs, i => cpR ws m (xs.set i.toNat (wI ws i)) (i + 1)
theorem cpR_len (ws : List Int) : ∀ (m : Nat) (xs : List Int) (i : Int), (cpR ws m xs i).length = xs.length
  | 0, xs, i => rfl
  | m + 1, xs, i => by simp [cpR, cpR_len ws m]
theorem cpR_wI (ws : List Int) : ∀ (m : Nat) (xs : List Int) (i j : Int), 0 ≤ i → i + m ≤ xs.length → 0 ≤ j → wI (cpR ws m xs i) j = if i ≤ j ∧ j < i + m then wI ws j else wI xs j
  | 0, xs, i, j, h0, h1, h2 => by
    rw [if_neg (by omega)]; rfl
  | m + 1, xs, i, j, h0, h1, h2 => by
    simp only [cpR]
    rw [cpR_wI ws m _ (i + 1) j (by omega) (by simp; omega) h2, wI_set xs i j _ h0 (by omega) h2]
    by_cases h3 : j = i
    · rw [if_neg (by omega), if_pos h3, if_pos (by omega), h3]
    · rw [if_neg h3]
      by_cases h4 : i + 1 ≤ j ∧ j < i + 1 + m
      · rw [if_pos h4, if_pos (by omega)]
      · rw [if_neg h4, if_neg (by omega)]
theorem cpR_all (ws : List Int) : cpR ws ws.length (List.replicate ws.length 0) 0 = ws := by
  apply ext_wI (by simp [cpR_len])
  intro j h0 h1
  simp [cpR_len] at h1
  rw [cpR_wI ws _ _ _ _ (by omega) (by simp) h0, if_pos (by omega)]
theorem lp20 (ws : List Int) (hw : ws.length ≤ 1048576) : ∀ (m : Nat) (xs : List Int) (i : Int), xs.length = ws.length → 0 ≤ i → i + m = ws.length →
    ev EE (.loop lp20_0 [0, 3, 4] [2, 3] { np := 0, tm := [(0, IS ws), (3, .rf 0 0 ws.length), (4, int i)], ar := [(0, .a false (ints xs))], bx := [] }) =
    some (.out (.exit 0) { np := 0, tm := [(3, .rf 0 0 ws.length)], ar := [(0, .a false (ints (cpR ws m xs i)))], bx := [] })
  | 0, xs, i, hx, h0, h1 => by
    rw [ev_loop EE lp20_0.eq_1]
    have : ¬ (i < ws.length) := by omega
    simp [this, cpR]
  | m + 1, xs, i, hx, h0, h1 => by
    rw [ev_loop EE lp20_0.eq_1]
    have h2 : i < ws.length := by omega
    have g1 := ints_getI ws i h0 h2
    have g3 := ints_getI xs i h0 (by omega)
    have w1 := wrap64_id (i + 1) (by omega) (by omega)
    have ih := lp20 ws hw m (xs.set i.toNat (wI ws i)) (i + 1) (by simp [hx]) (by omega) (by omega)
    simp only [int] at ih
    simp (decide := true) [h0, h2, hx, g1, g3, w1, ih, cpR]
theorem e20 (ws : List Int) (hw : ws.length ≤ 1048576) : ev EE (.call 20 [IS ws] []) = some (.val (.ls true (ints ws)) []) := by
  rw [ev_eq]
  have h := lp20 ws hw ws.length (List.replicate ws.length 0) 0 (by simp) (by omega) (by omega)
  rw [cpR_all] at h
  simp only [int] at h
  have b1 : ws.length * 8 ≤ 140737488351232 := by omega
  have b2 : (0 : Int) ≤ ws.length := by omega
  simp (decide := true) [ir20, h, lim, maxB, b1, b2, clo1]
theorem e10 (ws : List Int) (hw : ws.length ≤ 1048576) : ev EE (.call 10 [SL ws] []) = some (.val (.ag [.ls true (ints ws)]) []) := by
  rw [ev_eq]
  have h := e20 ws hw
  simp (decide := true) [ir10, h, one1]
def eqR (xs ys : List Int) : Nat → Int → Bool
  | 0, _ => true
  | m + 1, i => decide (wI xs i = wI ys i) && eqR xs ys m (i + 1)
theorem eqR_self (xs : List Int) : ∀ (m : Nat) (i : Int), eqR xs xs m i = true
  | 0, _ => rfl
  | m + 1, i => by simp [eqR, eqR_self xs m]
theorem lp12 (xs ys : List Int) (hx : xs.length ≤ 1048576) (hy : ys.length = xs.length) : ∀ (m : Nat) (i : Int), 0 ≤ i → i + m = xs.length →
    ev EE (.loop lp12_0 [0, 1, 5] [4] { np := 0, tm := [(0, IS xs), (1, IS ys), (5, int i)], ar := [], bx := [] }) =
    if eqR xs ys m i then some (.out (.exit 0) { np := 0, tm := [], ar := [], bx := [] }) else some (.out .ret { np := 0, tm := [(4, bool false)], ar := [], bx := [] })
  | 0, i, h0, h1 => by
    rw [ev_loop EE lp12_0.eq_1]
    have : ¬ (i < xs.length) := by omega
    simp [this, eqR]
  | m + 1, i, h0, h1 => by
    rw [ev_loop EE lp12_0.eq_1]
    have h2 : i < xs.length := by omega
    have g1 := ints_getI xs i h0 h2
    have g2 := ints_getI ys i h0 (by omega)
    have w1 := wrap64_id (i + 1) (by omega) (by omega)
    have ih := lp12 xs ys hx hy m (i + 1) (by omega) (by omega)
    simp only [int, bool] at ih
    by_cases h3 : wI xs i = wI ys i
    · by_cases h4 : eqR xs ys m (i + 1) = true
      · simp (decide := true) [h0, h2, hy, g1, g2, w1, ih, h3, h4, eqR]
      · simp (decide := true) [h0, h2, hy, g1, g2, w1, ih, h3, h4, eqR]
    · simp (decide := true) [h0, h2, hy, g1, g2, h3, eqR]
theorem e12 (xs : List Int) (hx : xs.length ≤ 1048576) : ev EE (.call 12 [IS xs, IS xs] []) = some (.val (bool true) []) := by
  rw [ev_eq]
  have h := lp12 xs xs hx rfl xs.length 0 (by omega) (by omega)
  rw [eqR_self] at h
  simp only [int, bool] at h
  simp (decide := true) [ir12, h]
theorem e13 (xs : List Int) (hx : xs.length ≤ 1048576) : ev EE (.call 13 [SL xs, SL xs] []) = some (.val (bool true) []) := by
  rw [ev_eq]
  have h := e12 xs hx
  simp only [bool] at h
  simp (decide := true) [ir13, h]
def markR : Nat → List Int → Int → Int → List Int
  | 0, xs, _, _ => xs
  | m + 1, xs, i, k => markR m (xs.set i.toNat k) (i + 1) (k + 1)
theorem markR_len : ∀ (m : Nat) (xs : List Int) (i k : Int), (markR m xs i k).length = xs.length
  | 0, xs, i, k => rfl
  | m + 1, xs, i, k => by simp [markR, markR_len m]
theorem markR_wI : ∀ (m : Nat) (xs : List Int) (i k j : Int), 0 ≤ i → i + m ≤ xs.length → 0 ≤ j → wI (markR m xs i k) j = if i ≤ j ∧ j < i + m then k + (j - i) else wI xs j
  | 0, xs, i, k, j, h0, h1, h2 => by
    rw [if_neg (by omega)]; rfl
  | m + 1, xs, i, k, j, h0, h1, h2 => by
    simp only [markR]
    rw [markR_wI m _ (i + 1) (k + 1) j (by omega) (by simp; omega) h2, wI_set xs i j _ h0 (by omega) h2]
    by_cases h3 : j = i
    · rw [if_neg (by omega), if_pos h3, if_pos (by omega), h3]; omega
    · rw [if_neg h3]
      by_cases h4 : i + 1 ≤ j ∧ j < i + 1 + m
      · rw [if_pos h4, if_pos (by omega)]; omega
      · rw [if_neg h4, if_neg (by omega)]
theorem lp15 (N : Nat) (hN : N ≤ 1048576) : ∀ (m : Nat) (xs : List Int) (i k : Int), xs.length = N → 0 ≤ i → i + m = N → 0 ≤ k → k ≤ 100000000 + i →
    ev EE (.loop lp15_0 [0, 1, 5] [0, 1, 4] { np := 0, tm := [(0, .rf 0 0 N), (1, int k), (5, int i)], ar := [(0, .a false (ints xs))], bx := [] }) =
    some (.out (.exit 0) { np := 0, tm := [(0, .rf 0 0 N), (1, int (k + m))], ar := [(0, .a false (ints (markR m xs i k)))], bx := [] })
  | 0, xs, i, k, hx, h0, h1, h5, h6 => by
    rw [ev_loop EE lp15_0.eq_1]
    have : ¬ (i < N) := by omega
    simp [this, markR]
  | m + 1, xs, i, k, hx, h0, h1, h5, h6 => by
    rw [ev_loop EE lp15_0.eq_1]
    have h2 : i < N := by omega
    have g3 := ints_getI xs i h0 (by omega)
    have w1 := wrap64_id (i + 1) (by omega) (by omega)
    have w2 := wrap64_id (k + 1) (by omega) (by omega)
    have ih := lp15 N hN m (xs.set i.toNat k) (i + 1) (k + 1) (by simp [hx]) (by omega) (by omega) (by omega) (by omega)
    rw [show k + 1 + (m : Int) = k + ((m + 1 : Nat) : Int) by omega] at ih
    simp only [int] at ih
    subst hx
    simp (decide := true) [h0, h2, g3, w1, w2, ih, markR]
theorem e15 (xs : List Int) (hx : xs.length ≤ 1048576) (k : Int) (h0 : 0 ≤ k) (h1 : k ≤ 100000000) : ev EE (.call 15 [.ls true (ints xs), int k] []) = some (.val (.tu [int (k + xs.length), .ls true (ints (markR xs.length xs 0 k))]) []) := by
  rw [ev_eq]
  have h := lp15 xs.length hx xs.length xs 0 k rfl (by omega) (by omega) h0 (by omega)
  simp only [int] at h
  simp (decide := true) [ir15, h, markR_len]
  rw [List.take_of_length_le (by simp [markR_len])]
theorem lp16 (ys : List Int) (hy : ys.length ≤ 1048576) (q : Int) (hq : 0 ≤ q) (hq2 : q ≤ 100000000) (hv : ∀ j : Int, 0 ≤ j → j < ys.length → wI ys j = q + j) : ∀ (m : Nat) (i : Int), 0 ≤ i → i + m = ys.length →
    ev EE (.loop lp16_0 [0, 1, 5] [1, 4] { np := 0, tm := [(0, IS ys), (1, int (q + i)), (5, int i)], ar := [], bx := [] }) =
    some (.out (.exit 0) { np := 0, tm := [(1, int (q + ys.length))], ar := [], bx := [] })
  | 0, i, h0, h1 => by
    rw [ev_loop EE lp16_0.eq_1]
    have : ¬ (i < ys.length) := by omega
    have hi : i = ys.length := by omega
    simp [this, hi]
  | m + 1, i, h0, h1 => by
    rw [ev_loop EE lp16_0.eq_1]
    have h2 : i < ys.length := by omega
    have g1 := ints_getI ys i h0 h2
    rw [hv i h0 h2] at g1
    have g2 : ∀ h : i.toNat < (ints ys).length, (ints ys)[i.toNat] = [.sc (.int .i64 (q + i))] := fun h => by rw [← hv i h0 h2]; exact ints_getE ys i h
    have w1 := wrap64_id (i + 1) (by omega) (by omega)
    have w2 := wrap64_id (q + i + 1) (by omega) (by omega)
    have ih := lp16 ys hy q hq hq2 hv m (i + 1) (by omega) (by omega)
    rw [show q + (i + 1) = q + i + 1 by omega] at ih
    simp only [int] at ih
    simp (decide := true) [h0, h2, g1, g2, w1, w2, ih]
theorem e16 (ys : List Int) (hy : ys.length ≤ 1048576) (q : Int) (hq : 0 ≤ q) (hq2 : q ≤ 100000000) (hv : ∀ j : Int, 0 ≤ j → j < ys.length → wI ys j = q + j) : ev EE (.call 16 [IS ys, int q] []) = some (.val (int (q + ys.length)) []) := by
  rw [ev_eq]
  have h := lp16 ys hy q hq hq2 hv ys.length 0 (by omega) (by omega)
  rw [Int.add_zero] at h
  simp only [int] at h
  simp (decide := true) [ir16, h]
@[simp] theorem ints_same (xs ys : List Int) : sameL (ints xs) (ints ys) = true := by
  simp only [sameL, ints, List.all_map, List.all_eq_true]
  intro x _
  simp [allLen]
theorem e14 (xs : List Int) (hx : xs.length ≤ 1048576) (k : Int) (h0 : 0 ≤ k) (h1 : k ≤ 100000000) : ev EE (.call 14 [.ag [.ls true (ints xs)], int k] []) = some (.val (int (k + xs.length)) []) := by
  rw [ev_eq]
  have h := e15 xs hx k h0 h1
  simp only [int] at h
  simp (decide := true) [ir14, h, markR_len]
theorem fwdL_len (ws : List Int) : ∀ (l : List Int) (t : Int), (fwdL ws l t).length ≤ l.length
  | [], t => by simp [fwdL]
  | k :: l, t => by
    simp only [fwdL]
    split
    · have := fwdL_len ws l t; simp; omega
    · have := fwdL_len ws l (t + wI ws k / 8); simp; omega
theorem fwdP_len (ws : List Int) (hw : ws.length ≤ 1048576) : (fwdP ws).length ≤ 1048576 := by
  unfold fwdP
  split
  · have h := fwdL_len ws ((blks ws).getD []) 0
    cases hb : blks ws with
    | none => rw [hb] at h; simp at h; simp [h]
    | some l =>
      have := (blks_chain hb).2.len (by omega)
      rw [hb] at h
      simp at h ⊢
      omega
  · simp
theorem e3 (ws : List Int) (hlen : (ws.length : Int) ≤ 9223372036854775807) : ev EE (.call 3 [SL ws] []) = some (.val (bool true) []) := by
  rw [ev_eq]
  have h8 := e8 ws 1048576 (by omega) (by omega) hlen
  by_cases hw : (1048576 : Int) - ws.length < 0
  · rw [if_pos hw] at h8
    simp only [int] at h8
    simp (decide := true) [ir3, h8]
  · rw [if_neg hw] at h8
    have hw' : ws.length ≤ 1048576 := by omega
    have h10 := e10 ws hw'
    have h9 := e9 ws hw'
    have h11 := e11 ws hw'
    have hfl := fwdP_len ws hw'
    generalize fwdP ws = F at *
    have h12 := e12 F hfl
    have h13 := e13 ws hw'
    have h14 := e14 ws hw' 1 (by omega) (by omega)
    have h15 := e15 F hfl 1 (by omega) (by omega)
    have hM : (markR F.length F 0 1).length = F.length := markR_len _ _ _ _
    have h16 := e16 (markR F.length F 0 1) (by omega) 1 (by omega) (by omega) (fun j q1 q2 => by
      rw [hM] at q2
      rw [markR_wI _ _ _ _ _ (by omega) (by omega) q1, if_pos (by omega)]
      omega)
    rw [hM] at h16
    generalize markR F.length F 0 1 = K at *
    have hT : List.take F.length K = K := List.take_of_length_le (by omega)
    have b1 : ¬ ((1 : Int) + ws.length < 0) := by omega
    have b2 : ¬ ((1 : Int) + F.length < 0) := by omega
    simp only [int, bool] at h8 h9 h10 h11 h12 h13 h14 h15 h16
    simp (decide := true) [ir3, h8, hw, h10, h9, h11, h12, h13, h14, h15, h16, hM, hT, b1, b2, one1]
end Go.Pv
