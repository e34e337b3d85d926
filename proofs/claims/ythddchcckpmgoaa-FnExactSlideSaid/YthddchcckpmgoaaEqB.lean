/- Proof: what the functions evaluate to: shapes of blocks, by the model. No condition. -/
import Derived.Test.YthddchcckpmgoaaEqA
set_option autoImplicit true
set_option relaxedAutoImplicit true
set_option linter.unusedSimpArgs false
set_option linter.unusedVariables false
namespace Go.Pv
set_option maxRecDepth 8000
set_option maxHeartbeats 2000000
set_option linter.unusedSimpArgs false
set_option linter.unusedVariables false
def plainR (ws l : List Int) : Nat → Int → Bool
  | 0, _ => true
  | n + 1, i => plainS ws l (wI ws i) && plainR ws l n (i + 1)
def shapeS (ws l : List Int) (a : Int) : Bool :=
  if wI ws a % 8 = 1 then textS ws a (wI ws a / 8)
  else if wI ws a % 8 = 2 then decide (3 ≤ wI ws a / 8 ∧ wI ws a / 8 ≤ 4) && (decide (wI ws (a + 1) = 1) || (decide (wI ws (a + 1) % 8 = 5) && leadS ws l (wI ws (a + 1)) 0)) && nextS ws l (wI ws (a + 2)) 3 && zeroR ws (wI ws a / 8 - 3).toNat (a + 3)
  else if wI ws a % 8 = 3 then decide (4 ≤ wI ws a / 8 ∧ wI ws a / 8 ≤ 5) && decide (wI ws (a + 1) % 8 = 4) && leadS ws l (wI ws (a + 1)) 0 && plainS ws l (wI ws (a + 2)) && nextS ws l (wI ws (a + 3)) 3 && zeroR ws (wI ws a / 8 - 4).toNat (a + 4)
  else if wI ws a % 8 = 4 then decide (3 ≤ wI ws a / 8 ∧ wI ws a / 8 ≤ 4) && decide (0 ≤ wI ws (a + 1) ∧ wI ws (a + 1) ≤ 99) && decide (wI ws (a + 2) % 8 = 7) && leadS ws l (wI ws (a + 2)) 5 && zeroR ws (wI ws a / 8 - 3).toNat (a + 3)
  else if wI ws a % 8 = 5 then nextS ws l (wI ws (a + 1)) 5 && plainR ws l (wI ws a / 8 - 2).toNat (a + 2)
  else true
theorem lp71 (ws : List Int) (hw : ws.length ≤ 1048576) (l : List Int) (hc : Chain ws 0 l) (a n : Int) (h0 : 0 ≤ a) (h2 : a + n ≤ ws.length) : ∀ (m : Nat) (i : Int) (b : Bool), 0 ≤ i → i ≤ n → n - i = m →
    ev EE (.loop lp71_0 [1, 2, 5, 6, 7, 8] [4, 7] { np := 0, tm := [(1, int a), (2, .bx 0 0), (5, int n), (6, IS ws), (7, bool b), (8, int i)], ar := [], bx := [(0, .b [IS ws])] }) =
    some (.out (.exit 1) { np := 0, tm := [(7, bool (b && plainR ws l m (a + i)))], ar := [], bx := [] })
  | 0, i, b, h3, h4, h5 => by
    rw [ev_loop EE lp71_0.eq_1]
    have : ¬ (i < n) := by omega
    simp [this, plainR]
  | m + 1, i, b, h3, h4, h5 => by
    rw [ev_loop EE lp71_0.eq_1]
    have h6 : i < n := by omega
    cases b with
    | false => simp [h6]
    | true =>
      have g1 := ints_getI ws (a + i) (by omega) (by omega)
      have w1 := wrap64_id (i + 1) (by omega) (by omega)
      have w2 := wrap64_id (a + i) (by omega) (by omega)
      have b1 : 0 ≤ a + i := by omega
      have b2 : a + i < ws.length := by omega
      have ih := lp71 ws hw l hc a n h0 h2 m (i + 1) (plainS ws l (wI ws (a + i))) (by omega) (by omega) (by omega)
      rw [show a + (i + 1) = a + i + 1 by omega] at ih
      have hp := e99 ws hw l hc (wI ws (a + i))
      simp only [int, bool] at ih hp
      simp (decide := true) [h6, g1, w1, w2, b1, b2, hp, ih, plainR]
theorem e71_1 (ws : List Int) (hw : ws.length ≤ 1048576) (l : List Int) (hc : Chain ws 0 l) (a : Int) (ha : a ∈ l) (k1 : wI ws a % 8 = 1) : ev EE (.call 71 [SL ws, int a] []) = some (.val (bool (shapeS ws l a)) []) := by
  rw [ev_eq]
  obtain ⟨h0, h2, h3, h4, h5⟩ := hc.mem ha
  have g0 := ints_getI ws a h0 h2
  have g1 := ints_getI ws (a + 1) (by omega) (by omega)
  have w1 := wrap64_id (a + 1) (by omega) (by omega)
  have b1 : 0 ≤ a + 1 := by omega
  have c1 : a + 1 < ws.length := by omega
  unfold shapeS
  have hx := e96 ws hw a (wI ws a / 8) h0 h3 (by omega)
  simp only [int, bool] at hx
  simp (decide := true) [ir71, h0, h2, g0, k1, hx]
theorem e71_5 (ws : List Int) (hw : ws.length ≤ 1048576) (l : List Int) (hc : Chain ws 0 l) (a : Int) (ha : a ∈ l) (k5 : wI ws a % 8 = 5) : ev EE (.call 71 [SL ws, int a] []) = some (.val (bool (shapeS ws l a)) []) := by
  rw [ev_eq]
  obtain ⟨h0, h2, h3, h4, h5⟩ := hc.mem ha
  have g0 := ints_getI ws a h0 h2
  have g1 := ints_getI ws (a + 1) (by omega) (by omega)
  have w1 := wrap64_id (a + 1) (by omega) (by omega)
  have b1 : 0 ≤ a + 1 := by omega
  have c1 : a + 1 < ws.length := by omega
  unfold shapeS
  have hx := e97 ws hw l hc (wI ws (a + 1)) 5
  have hl := lp71 ws hw l hc a (wI ws a / 8) h0 (by omega) (wI ws a / 8 - 2).toNat 2 (nextS ws l (wI ws (a + 1)) 5) (by omega) (by omega) (by omega)
  simp only [int, bool] at hx hl
  simp (decide := true) [ir71, h0, h2, g0, g1, w1, b1, c1, k5, hx, hl]
theorem e71_2 (ws : List Int) (hw : ws.length ≤ 1048576) (l : List Int) (hc : Chain ws 0 l) (a : Int) (ha : a ∈ l) (k2 : wI ws a % 8 = 2) : ev EE (.call 71 [SL ws, int a] []) = some (.val (bool (shapeS ws l a)) []) := by
  rw [ev_eq]
  obtain ⟨h0, h2, h3, h4, h5⟩ := hc.mem ha
  have g0 := ints_getI ws a h0 h2
  have g1 := ints_getI ws (a + 1) (by omega) (by omega)
  have w1 := wrap64_id (a + 1) (by omega) (by omega)
  have b1 : 0 ≤ a + 1 := by omega
  have c1 : a + 1 < ws.length := by omega
  unfold shapeS
  by_cases hn : 3 ≤ wI ws a / 8 ∧ wI ws a / 8 ≤ 4
  · have g2 := ints_getI ws (a + 2) (by omega) (by omega)
    have w2 := wrap64_id (a + 2) (by omega) (by omega)
    have w3 := wrap64_id (a + 3) (by omega) (by omega)
    have w4 := wrap64_id (a + wI ws a / 8) (by omega) (by omega)
    have b2 : 0 ≤ a + 2 := by omega
    have c2 : a + 2 < ws.length := by omega
    have hx := e78 ws hw l hc (wI ws (a + 1)) 0
    have hy := e97 ws hw l hc (wI ws (a + 2)) 3
    have hz := e98 ws hw (a + 3) (a + wI ws a / 8) (by omega) (by omega) (by omega)
    rw [show a + wI ws a / 8 - (a + 3) = wI ws a / 8 - 3 by omega] at hz
    simp only [int, bool] at hx hy hz
    by_cases hy1 : nextS ws l (wI ws (a + 2)) 3 = true
    · by_cases x1 : wI ws (a + 1) = 1
      · simp (decide := true) [ir71, h0, h2, g0, g1, w1, b1, c1, k2, hn, x1, w2, g2, b2, c2, hy, hy1, w3, w4, hz]
      · by_cases x2 : wI ws (a + 1) % 8 = 5
        · by_cases x3 : leadS ws l (wI ws (a + 1)) 0 = true
          · simp (decide := true) [ir71, h0, h2, g0, g1, w1, b1, c1, k2, hn, x1, x2, hx, x3, w2, g2, b2, c2, hy, hy1, w3, w4, hz]
          · simp (decide := true) [ir71, h0, h2, g0, g1, w1, b1, c1, k2, hn, x1, x2, hx, x3]
        · simp (decide := true) [ir71, h0, h2, g0, g1, w1, b1, c1, k2, hn, x1, x2]
    · by_cases x1 : wI ws (a + 1) = 1
      · simp (decide := true) [ir71, h0, h2, g0, g1, w1, b1, c1, k2, hn, x1, w2, g2, b2, c2, hy, hy1]
      · by_cases x2 : wI ws (a + 1) % 8 = 5
        · by_cases x3 : leadS ws l (wI ws (a + 1)) 0 = true
          · simp (decide := true) [ir71, h0, h2, g0, g1, w1, b1, c1, k2, hn, x1, x2, hx, x3, w2, g2, b2, c2, hy, hy1]
          · simp (decide := true) [ir71, h0, h2, g0, g1, w1, b1, c1, k2, hn, x1, x2, hx, x3]
        · simp (decide := true) [ir71, h0, h2, g0, g1, w1, b1, c1, k2, hn, x1, x2]
  · simp (decide := true) [ir71, h0, h2, g0, k2, hn]
theorem e71_4 (ws : List Int) (hw : ws.length ≤ 1048576) (l : List Int) (hc : Chain ws 0 l) (a : Int) (ha : a ∈ l) (k4 : wI ws a % 8 = 4) : ev EE (.call 71 [SL ws, int a] []) = some (.val (bool (shapeS ws l a)) []) := by
  rw [ev_eq]
  obtain ⟨h0, h2, h3, h4, h5⟩ := hc.mem ha
  have g0 := ints_getI ws a h0 h2
  have g1 := ints_getI ws (a + 1) (by omega) (by omega)
  have w1 := wrap64_id (a + 1) (by omega) (by omega)
  have b1 : 0 ≤ a + 1 := by omega
  have c1 : a + 1 < ws.length := by omega
  unfold shapeS
  by_cases hn : 3 ≤ wI ws a / 8 ∧ wI ws a / 8 ≤ 4
  · have g2 := ints_getI ws (a + 2) (by omega) (by omega)
    have w2 := wrap64_id (a + 2) (by omega) (by omega)
    have w3 := wrap64_id (a + 3) (by omega) (by omega)
    have w4 := wrap64_id (a + wI ws a / 8) (by omega) (by omega)
    have b2 : 0 ≤ a + 2 := by omega
    have c2 : a + 2 < ws.length := by omega
    have hx := e78 ws hw l hc (wI ws (a + 2)) 5
    have hz := e98 ws hw (a + 3) (a + wI ws a / 8) (by omega) (by omega) (by omega)
    rw [show a + wI ws a / 8 - (a + 3) = wI ws a / 8 - 3 by omega] at hz
    simp only [int, bool] at hx hz
    by_cases x1 : 0 ≤ wI ws (a + 1) ∧ wI ws (a + 1) ≤ 99
    · by_cases x2 : wI ws (a + 2) % 8 = 7
      · by_cases x3 : leadS ws l (wI ws (a + 2)) 5 = true
        · simp (decide := true) [ir71, h0, h2, g0, g1, w1, b1, c1, k4, hn, x1, x2, hx, x3, w2, g2, b2, c2, w3, w4, hz]
        · simp (decide := true) [ir71, h0, h2, g0, g1, w1, b1, c1, k4, hn, x1, x2, hx, x3, w2, g2, b2, c2]
      · simp (decide := true) [ir71, h0, h2, g0, g1, w1, b1, c1, k4, hn, x1, x2, w2, g2, b2, c2]
    · simp (decide := true) [ir71, h0, h2, g0, g1, w1, b1, c1, k4, hn, x1]
  · simp (decide := true) [ir71, h0, h2, g0, k4, hn]
theorem e71_3 (ws : List Int) (hw : ws.length ≤ 1048576) (l : List Int) (hc : Chain ws 0 l) (a : Int) (ha : a ∈ l) (k3 : wI ws a % 8 = 3) : ev EE (.call 71 [SL ws, int a] []) = some (.val (bool (shapeS ws l a)) []) := by
  rw [ev_eq]
  obtain ⟨h0, h2, h3, h4, h5⟩ := hc.mem ha
  have g0 := ints_getI ws a h0 h2
  have g1 := ints_getI ws (a + 1) (by omega) (by omega)
  have w1 := wrap64_id (a + 1) (by omega) (by omega)
  have b1 : 0 ≤ a + 1 := by omega
  have c1 : a + 1 < ws.length := by omega
  unfold shapeS
  by_cases hn : 4 ≤ wI ws a / 8 ∧ wI ws a / 8 ≤ 5
  · have g2 := ints_getI ws (a + 2) (by omega) (by omega)
    have g3 := ints_getI ws (a + 3) (by omega) (by omega)
    have w2 := wrap64_id (a + 2) (by omega) (by omega)
    have w3 := wrap64_id (a + 3) (by omega) (by omega)
    have w5 := wrap64_id (a + 4) (by omega) (by omega)
    have w4 := wrap64_id (a + wI ws a / 8) (by omega) (by omega)
    have b2 : 0 ≤ a + 2 := by omega
    have c2 : a + 2 < ws.length := by omega
    have b3 : 0 ≤ a + 3 := by omega
    have c3 : a + 3 < ws.length := by omega
    have hx := e78 ws hw l hc (wI ws (a + 1)) 0
    have hp := e99 ws hw l hc (wI ws (a + 2))
    have hy := e97 ws hw l hc (wI ws (a + 3)) 3
    have hz := e98 ws hw (a + 4) (a + wI ws a / 8) (by omega) (by omega) (by omega)
    rw [show a + wI ws a / 8 - (a + 4) = wI ws a / 8 - 4 by omega] at hz
    simp only [int, bool] at hx hy hz hp
    by_cases x1 : wI ws (a + 1) % 8 = 4
    · by_cases x3 : leadS ws l (wI ws (a + 1)) 0 = true
      · by_cases x4 : plainS ws l (wI ws (a + 2)) = true
        · by_cases x5 : nextS ws l (wI ws (a + 3)) 3 = true
          · simp (decide := true) [ir71, h0, h2, g0, g1, w1, b1, c1, k3, hn, x1, hx, x3, w2, g2, b2, c2, hp, x4, w3, g3, b3, c3, hy, x5, w4, w5, hz]
          · simp (decide := true) [ir71, h0, h2, g0, g1, w1, b1, c1, k3, hn, x1, hx, x3, w2, g2, b2, c2, hp, x4, w3, g3, b3, c3, hy, x5]
        · simp (decide := true) [ir71, h0, h2, g0, g1, w1, b1, c1, k3, hn, x1, hx, x3, w2, g2, b2, c2, hp, x4]
      · simp (decide := true) [ir71, h0, h2, g0, g1, w1, b1, c1, k3, hn, x1, hx, x3]
    · simp (decide := true) [ir71, h0, h2, g0, g1, w1, b1, c1, k3, hn, x1]
  · simp (decide := true) [ir71, h0, h2, g0, k3, hn]
theorem e71_z (ws : List Int) (hw : ws.length ≤ 1048576) (l : List Int) (hc : Chain ws 0 l) (a : Int) (ha : a ∈ l) (k1 : ¬ wI ws a % 8 = 1) (k2 : ¬ wI ws a % 8 = 2) (k3 : ¬ wI ws a % 8 = 3) (k4 : ¬ wI ws a % 8 = 4) (k5 : ¬ wI ws a % 8 = 5) : ev EE (.call 71 [SL ws, int a] []) = some (.val (bool (shapeS ws l a)) []) := by
  rw [ev_eq]
  obtain ⟨h0, h2, h3, h4, h5⟩ := hc.mem ha
  have g0 := ints_getI ws a h0 h2
  have g1 := ints_getI ws (a + 1) (by omega) (by omega)
  have w1 := wrap64_id (a + 1) (by omega) (by omega)
  have b1 : 0 ≤ a + 1 := by omega
  have c1 : a + 1 < ws.length := by omega
  unfold shapeS
  simp (decide := true) [ir71, h0, h2, g0, k1, k2, k3, k4, k5]
theorem e71 (ws : List Int) (hw : ws.length ≤ 1048576) (l : List Int) (hc : Chain ws 0 l) (a : Int) (ha : a ∈ l) : ev EE (.call 71 [SL ws, int a] []) = some (.val (bool (shapeS ws l a)) []) := by
  by_cases k1 : wI ws a % 8 = 1
  · exact e71_1 ws hw l hc a ha k1
  by_cases k5 : wI ws a % 8 = 5
  · exact e71_5 ws hw l hc a ha k5
  by_cases k2 : wI ws a % 8 = 2
  · exact e71_2 ws hw l hc a ha k2
  by_cases k4 : wI ws a % 8 = 4
  · exact e71_4 ws hw l hc a ha k4
  by_cases k3 : wI ws a % 8 = 3
  · exact e71_3 ws hw l hc a ha k3
  exact e71_z ws hw l hc a ha k1 k2 k3 k4 k5
end Go.Pv
