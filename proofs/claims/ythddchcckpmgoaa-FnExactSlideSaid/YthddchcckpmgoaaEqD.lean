/- Proof: what the functions evaluate to: shapes of blocks, by the program. No condition. -/
import Derived.Test.YthddchcckpmgoaaEqC
set_option autoImplicit true
set_option relaxedAutoImplicit true
set_option linter.unusedSimpArgs false
set_option linter.unusedVariables false
namespace Go.Pv
set_option maxRecDepth 8000
set_option maxHeartbeats 4000000
set_option linter.unusedSimpArgs false
set_option linter.unusedVariables false
def spareI (ws : List Int) (a m : Int) : Bool := decide (wI ws a / 8 = m) || (decide (wI ws a / 8 = m + 1) && decide (wI ws (a + m) = 0))
def shapeI (ws l : List Int) (a : Int) : Bool :=
  if wI ws a % 8 = 0 then true
  else if wI ws a % 8 = 1 then textI (subI ws a (wI ws a / 8))
  else if wI ws a % 8 = 2 then spareI ws a 3 && (decide (wI ws (a + 1) = 1) || (decide (wI ws (a + 1) % 8 = 5) && toB ws l (wI ws (a + 1)) 2)) && innerI ws l (wI ws (a + 2)) 3
  else if wI ws a % 8 = 3 then spareI ws a 4 && (decide (wI ws (a + 1) % 8 = 4) && toB ws l (wI ws (a + 1)) 1) && plainI ws l (wI ws (a + 2)) && innerI ws l (wI ws (a + 3)) 3
  else if wI ws a % 8 = 4 then spareI ws a 3 && decide (0 ≤ wI ws (a + 1) ∧ wI ws (a + 1) ≤ 99) && (decide (wI ws (a + 2) % 8 = 7) && toB ws l (wI ws (a + 2)) 5)
  else innerI ws l (wI ws (a + 1)) 5 && !((subI (subI ws a (wI ws a / 8)) 2 (wI ws a / 8 - 2)).any fun v => !plainI ws l v)
structure P75 (ws l all : List Int) (a : Int) (w : List Int) : Prop where
  h0 : 0 ≤ a
  h2 : a < ws.length
  h3 : 2 ≤ wI ws a / 8
  h4 : wI ws a / 8 ≤ ws.length - a
  g0 : (ints ws)[a.toNat]? = some [.sc (.int .i64 (wI ws a))]
  ga : (ints all)[a.toNat]? = some [.sc (.int .i64 (wI ws a % 8))]
  gb : ∀ h : a.toNat < (ints all).length, (ints all)[a.toNat]'h = [.sc (.int .i64 (wI ws a % 8))]
  b0 : a < all.length
  w1 : IntKind.i64.wrap (a + wI ws a / 8) = a + wI ws a / 8
  c1 : 0 ≤ a + wI ws a / 8
  c2 : (a + wI ws a / 8).toNat ≤ ws.length
  c3 : a ≤ a + wI ws a / 8
  c4 : a + wI ws a / 8 ≤ ws.length
  c5 : 0 ≤ wI ws a / 8
  c6 : a.toNat ≤ (a + wI ws a / 8).toNat
  hs : (ws.drop a.toNat).take ((a + wI ws a / 8).toNat - a.toNat) = w
  lw : (w.length : Int) = wI ws a / 8
  lw2 : 2 ≤ w.length
  lw3 : w.length ≤ 1048576
  wv : ∀ i : Int, 0 ≤ i → i < wI ws a / 8 → wI w i = wI ws (a + i)
theorem p75 (ws l all : List Int) (hw : ws.length ≤ 1048576) (hc : Chain ws 0 l) (hk : KindsOk ws l all) (a : Int) (ha : a ∈ l) : P75 ws l all a (subI ws a (wI ws a / 8)) := by
  obtain ⟨h0, h2, h3, h4, h5⟩ := hc.mem ha
  have hk2 := hk.2 a h0 h2
  rw [if_pos ha] at hk2
  have hkl := hk.1
  have ga := ints_getI all a h0 (by omega)
  rw [hk2] at ga
  have lw := subI_len ws a (wI ws a / 8) h0 (by omega) (by omega)
  exact { h0 := h0, h2 := h2, h3 := h3, h4 := h4, g0 := ints_getI ws a h0 h2, ga := ga, gb := fun h => by rw [ints_getE all a h, hk2], b0 := by omega, w1 := wrap64_id _ (by omega) (by omega), c1 := by omega, c2 := by omega, c3 := by omega, c4 := by omega, c5 := by omega, c6 := by omega, hs := by simp only [subI]; congr 1; omega, lw := lw, lw2 := by omega, lw3 := by omega, wv := fun i q1 q2 => subI_wI ws a _ i h0 q1 q2 (by omega) }
theorem e75_0 (ws l all : List Int) (hw : ws.length ≤ 1048576) (hc : Chain ws 0 l) (hk : KindsOk ws l all) (a : Int) (ha : a ∈ l) (k : wI ws a % 8 = 0) : ev EE (.call 75 [SL ws, IS all, int a] []) = some (.val (bool (shapeI ws l a)) []) := by
  have hq := p75 ws l all hw hc hk a ha
  obtain ⟨w, hwd⟩ : ∃ w, w = subI ws a (wI ws a / 8) := ⟨_, rfl⟩
  rw [← hwd] at hq
  obtain ⟨h0, h2, h3, h4, g0, ga, gb, b0, w1, c1, c2, c3, c4, c5, c6, hs, lw, lw2, lw3, wv⟩ := hq
  rw [ev_eq]
  simp (decide := true) [ir75, h0, h2, g0, ga, gb, b0, w1, c1, c2, c3, c4, c5, c6, hs, optN, natOf, one1, k, shapeI]
theorem e75_1 (ws l all : List Int) (hw : ws.length ≤ 1048576) (hc : Chain ws 0 l) (hk : KindsOk ws l all) (a : Int) (ha : a ∈ l) (k : wI ws a % 8 = 1) : ev EE (.call 75 [SL ws, IS all, int a] []) = some (.val (bool (shapeI ws l a)) []) := by
  have hq := p75 ws l all hw hc hk a ha
  obtain ⟨w, hwd⟩ : ∃ w, w = subI ws a (wI ws a / 8) := ⟨_, rfl⟩
  rw [← hwd] at hq
  obtain ⟨h0, h2, h3, h4, g0, ga, gb, b0, w1, c1, c2, c3, c4, c5, c6, hs, lw, lw2, lw3, wv⟩ := hq
  rw [ev_eq]
  have hx := e105 w lw2 lw3
  simp only [int, bool] at hx
  simp (decide := true) [ir75, h0, h2, g0, ga, gb, b0, w1, c1, c2, c3, c4, c5, c6, hs, optN, natOf, one1, k, shapeI, ← hwd, hx]
theorem e75_2 (ws l all : List Int) (hw : ws.length ≤ 1048576) (hc : Chain ws 0 l) (hk : KindsOk ws l all) (a : Int) (ha : a ∈ l) (k : wI ws a % 8 = 2) : ev EE (.call 75 [SL ws, IS all, int a] []) = some (.val (bool (shapeI ws l a)) []) := by
  have hq := p75 ws l all hw hc hk a ha
  obtain ⟨w, hwd⟩ : ∃ w, w = subI ws a (wI ws a / 8) := ⟨_, rfl⟩
  rw [← hwd] at hq
  obtain ⟨h0, h2, h3, h4, g0, ga, gb, b0, w1, c1, c2, c3, c4, c5, c6, hs, lw, lw2, lw3, wv⟩ := hq
  rw [ev_eq]
  have sp := e102 w lw3 3 (by omega) (by omega)
  have h3 : (decide ((w.length : Int) = 3) || (decide ((w.length : Int) = 3 + 1) && decide (wI w 3 = 0))) = spareI ws a 3 := by
    unfold spareI
    rw [lw]
    by_cases q1 : wI ws a / 8 = 3
    · simp [q1]
    · by_cases q2 : wI ws a / 8 = 3 + 1
      · rw [wv 3 (by omega) (by omega)]
      · rw [show decide (wI ws a / 8 = 3 + 1) = false from decide_eq_false q2]
        simp
  rw [h3] at sp
  simp only [int, bool] at sp
  have hx := e104 ws l all hw hc hk (wI ws (a + 1)) 5 2 (by omega)
  have hy := e103 ws l all hw hc hk (wI ws (a + 2)) 3 (by omega)
  simp only [int, bool] at hx hy
  by_cases s1 : spareI ws a 3 = true
  · skip
    have hn : 3 ≤ wI ws a / 8 := by
      simp only [spareI, Bool.or_eq_true, Bool.and_eq_true, decide_eq_true_eq] at s1
      omega
    have l1 : (1 : Int) < w.length := by omega
    have l1' : 1 < w.length := by omega
    have v1 : ∀ h : 1 < (ints w).length, (ints w)[1] = [.sc (.int .i64 (wI ws (a + 1)))] := fun h => by rw [← wv 1 (by omega) (by omega)]; exact ints_getE w 1 h
    have l2 : (2 : Int) < w.length := by omega
    have l2' : 2 < w.length := by omega
    have v2 : ∀ h : 2 < (ints w).length, (ints w)[2] = [.sc (.int .i64 (wI ws (a + 2)))] := fun h => by rw [← wv 2 (by omega) (by omega)]; exact ints_getE w 2 h
    by_cases x1 : wI ws (a + 1) = 1
    · simp (decide := true) [ir75, h0, h2, g0, ga, gb, b0, w1, c1, c2, c3, c4, c5, c6, hs, optN, natOf, one1, k, shapeI, sp, s1, l1, l1', v1, l2, l2', v2, x1, hy]
    · cases x2 : (decide (wI ws (a + 1) % 8 = 5) && toB ws l (wI ws (a + 1)) 2) with
      | true =>
        rw [x2] at hx
        simp only [Bool.and_eq_true, decide_eq_true_eq] at x2
        simp (decide := true) [ir75, h0, h2, g0, ga, gb, b0, w1, c1, c2, c3, c4, c5, c6, hs, optN, natOf, one1, k, shapeI, sp, s1, l1, l1', v1, l2, l2', v2, x1, hx, hy, x2]
      | false =>
        rw [x2] at hx
        have x3 : (wI ws (a + 1) % 8 = 5 → toB ws l (wI ws (a + 1)) 2 = false) := by simpa using x2
        simp (decide := true) [ir75, h0, h2, g0, ga, gb, b0, w1, c1, c2, c3, c4, c5, c6, hs, optN, natOf, one1, k, shapeI, sp, s1, l1, l1', v1, x1, hx]
        exact fun h1 h2 => absurd (x3 h1) (by simp [h2])
  · rw [Bool.not_eq_true] at s1
    rw [s1] at sp
    simp (decide := true) [ir75, h0, h2, g0, ga, gb, b0, w1, c1, c2, c3, c4, c5, c6, hs, optN, natOf, one1, k, shapeI, sp, s1]
theorem e75_4 (ws l all : List Int) (hw : ws.length ≤ 1048576) (hc : Chain ws 0 l) (hk : KindsOk ws l all) (a : Int) (ha : a ∈ l) (k : wI ws a % 8 = 4) : ev EE (.call 75 [SL ws, IS all, int a] []) = some (.val (bool (shapeI ws l a)) []) := by
  have hq := p75 ws l all hw hc hk a ha
  obtain ⟨w, hwd⟩ : ∃ w, w = subI ws a (wI ws a / 8) := ⟨_, rfl⟩
  rw [← hwd] at hq
  obtain ⟨h0, h2, h3, h4, g0, ga, gb, b0, w1, c1, c2, c3, c4, c5, c6, hs, lw, lw2, lw3, wv⟩ := hq
  rw [ev_eq]
  have sp := e102 w lw3 3 (by omega) (by omega)
  have h3 : (decide ((w.length : Int) = 3) || (decide ((w.length : Int) = 3 + 1) && decide (wI w 3 = 0))) = spareI ws a 3 := by
    unfold spareI
    rw [lw]
    by_cases q1 : wI ws a / 8 = 3
    · simp [q1]
    · by_cases q2 : wI ws a / 8 = 3 + 1
      · rw [wv 3 (by omega) (by omega)]
      · rw [show decide (wI ws a / 8 = 3 + 1) = false from decide_eq_false q2]
        simp
  rw [h3] at sp
  simp only [int, bool] at sp
  have hx := e104 ws l all hw hc hk (wI ws (a + 2)) 7 5 (by omega)
  simp only [int, bool] at hx
  by_cases s1 : spareI ws a 3 = true
  · skip
    have hn : 3 ≤ wI ws a / 8 := by
      simp only [spareI, Bool.or_eq_true, Bool.and_eq_true, decide_eq_true_eq] at s1
      omega
    have l1 : (1 : Int) < w.length := by omega
    have l1' : 1 < w.length := by omega
    have v1 : ∀ h : 1 < (ints w).length, (ints w)[1] = [.sc (.int .i64 (wI ws (a + 1)))] := fun h => by rw [← wv 1 (by omega) (by omega)]; exact ints_getE w 1 h
    have l2 : (2 : Int) < w.length := by omega
    have l2' : 2 < w.length := by omega
    have v2 : ∀ h : 2 < (ints w).length, (ints w)[2] = [.sc (.int .i64 (wI ws (a + 2)))] := fun h => by rw [← wv 2 (by omega) (by omega)]; exact ints_getE w 2 h
    by_cases x1 : 0 ≤ wI ws (a + 1) ∧ wI ws (a + 1) ≤ 99
    · simp (decide := true) [ir75, h0, h2, g0, ga, gb, b0, w1, c1, c2, c3, c4, c5, c6, hs, optN, natOf, one1, k, shapeI, sp, s1, l1, l1', v1, l2, l2', v2, x1, hx]
    · simp (decide := true) [ir75, h0, h2, g0, ga, gb, b0, w1, c1, c2, c3, c4, c5, c6, hs, optN, natOf, one1, k, shapeI, sp, s1, l1, l1', v1, x1]
  · rw [Bool.not_eq_true] at s1
    rw [s1] at sp
    simp (decide := true) [ir75, h0, h2, g0, ga, gb, b0, w1, c1, c2, c3, c4, c5, c6, hs, optN, natOf, one1, k, shapeI, sp, s1]
theorem e75_3 (ws l all : List Int) (hw : ws.length ≤ 1048576) (hc : Chain ws 0 l) (hk : KindsOk ws l all) (a : Int) (ha : a ∈ l) (k : wI ws a % 8 = 3) : ev EE (.call 75 [SL ws, IS all, int a] []) = some (.val (bool (shapeI ws l a)) []) := by
  have hq := p75 ws l all hw hc hk a ha
  obtain ⟨w, hwd⟩ : ∃ w, w = subI ws a (wI ws a / 8) := ⟨_, rfl⟩
  rw [← hwd] at hq
  obtain ⟨h0, h2, h3, h4, g0, ga, gb, b0, w1, c1, c2, c3, c4, c5, c6, hs, lw, lw2, lw3, wv⟩ := hq
  rw [ev_eq]
  have sp := e102 w lw3 4 (by omega) (by omega)
  have h4 : (decide ((w.length : Int) = 4) || (decide ((w.length : Int) = 4 + 1) && decide (wI w 4 = 0))) = spareI ws a 4 := by
    unfold spareI
    rw [lw]
    by_cases q1 : wI ws a / 8 = 4
    · simp [q1]
    · by_cases q2 : wI ws a / 8 = 4 + 1
      · rw [wv 4 (by omega) (by omega)]
      · rw [show decide (wI ws a / 8 = 4 + 1) = false from decide_eq_false q2]
        simp
  rw [h4] at sp
  simp only [int, bool] at sp
  have hx := e104 ws l all hw hc hk (wI ws (a + 1)) 4 1 (by omega)
  have hp := e106 ws l all hw hc hk (wI ws (a + 2))
  have hy := e103 ws l all hw hc hk (wI ws (a + 3)) 3 (by omega)
  simp only [int, bool] at hx hy hp
  by_cases s1 : spareI ws a 4 = true
  · skip
    have hn : 4 ≤ wI ws a / 8 := by
      simp only [spareI, Bool.or_eq_true, Bool.and_eq_true, decide_eq_true_eq] at s1
      omega
    have l1 : (1 : Int) < w.length := by omega
    have l1' : 1 < w.length := by omega
    have v1 : ∀ h : 1 < (ints w).length, (ints w)[1] = [.sc (.int .i64 (wI ws (a + 1)))] := fun h => by rw [← wv 1 (by omega) (by omega)]; exact ints_getE w 1 h
    have l2 : (2 : Int) < w.length := by omega
    have l2' : 2 < w.length := by omega
    have v2 : ∀ h : 2 < (ints w).length, (ints w)[2] = [.sc (.int .i64 (wI ws (a + 2)))] := fun h => by rw [← wv 2 (by omega) (by omega)]; exact ints_getE w 2 h
    have l3 : (3 : Int) < w.length := by omega
    have l3' : 3 < w.length := by omega
    have v3 : ∀ h : 3 < (ints w).length, (ints w)[3] = [.sc (.int .i64 (wI ws (a + 3)))] := fun h => by rw [← wv 3 (by omega) (by omega)]; exact ints_getE w 3 h
    cases x2 : (decide (wI ws (a + 1) % 8 = 4) && toB ws l (wI ws (a + 1)) 1) with
    | true =>
      rw [x2] at hx
      simp only [Bool.and_eq_true, decide_eq_true_eq] at x2
      by_cases x3 : plainI ws l (wI ws (a + 2)) = true
      · simp (decide := true) [ir75, h0, h2, g0, ga, gb, b0, w1, c1, c2, c3, c4, c5, c6, hs, optN, natOf, one1, k, shapeI, sp, s1, l1, l1', v1, l2, l2', v2, l3, l3', v3, hx, x2, hp, x3, hy]
      · rw [Bool.not_eq_true] at x3
        rw [x3] at hp
        simp (decide := true) [ir75, h0, h2, g0, ga, gb, b0, w1, c1, c2, c3, c4, c5, c6, hs, optN, natOf, one1, k, shapeI, sp, s1, l1, l1', v1, l2, l2', v2, hx, x2, hp, x3]
    | false =>
      rw [x2] at hx
      have x3 : (wI ws (a + 1) % 8 = 4 → toB ws l (wI ws (a + 1)) 1 = false) := by simpa using x2
      simp (decide := true) [ir75, h0, h2, g0, ga, gb, b0, w1, c1, c2, c3, c4, c5, c6, hs, optN, natOf, one1, k, shapeI, sp, s1, l1, l1', v1, hx]
      exact fun h1 h2 => absurd (x3 h1) (by simp [h2])
  · rw [Bool.not_eq_true] at s1
    rw [s1] at sp
    simp (decide := true) [ir75, h0, h2, g0, ga, gb, b0, w1, c1, c2, c3, c4, c5, c6, hs, optN, natOf, one1, k, shapeI, sp, s1]
theorem e75_5 (ws l all : List Int) (hw : ws.length ≤ 1048576) (hc : Chain ws 0 l) (hk : KindsOk ws l all) (a : Int) (ha : a ∈ l) (k : wI ws a % 8 = 5) : ev EE (.call 75 [SL ws, IS all, int a] []) = some (.val (bool (shapeI ws l a)) []) := by
  have hq := p75 ws l all hw hc hk a ha
  obtain ⟨w, hwd⟩ : ∃ w, w = subI ws a (wI ws a / 8) := ⟨_, rfl⟩
  rw [← hwd] at hq
  obtain ⟨h0, h2, h3, h4, g0, ga, gb, b0, w1, c1, c2, c3, c4, c5, c6, hs, lw, lw2, lw3, wv⟩ := hq
  rw [ev_eq]
  have hx := e103 ws l all hw hc hk (wI ws (a + 1)) 5 (by omega)
  have hl := subI_len w 2 (w.length - 2) (by omega) (by omega) (by omega)
  have hc7 := e73a all (subI w 2 (w.length - 2)) (by omega) (fun v => !plainI ws l v) (fun v => e107 ws l all hw hc hk v)
  have l1 : (1 : Int) < w.length := by omega
  have l1' : 1 < w.length := by omega
  have l2' : 2 ≤ w.length := by omega
  have v1 : ∀ h : 1 < (ints w).length, (ints w)[1] = [.sc (.int .i64 (wI ws (a + 1)))] := fun h => by rw [← wv 1 (by omega) (by omega)]; exact ints_getE w 1 h
  have hsw : (w.drop 2).take (w.length - 2) = subI w 2 (w.length - 2) := by
    simp only [subI]
    congr 1
    omega
  rw [lw] at hc7
  rw [lw] at hsw
  simp only [int, bool] at hx hc7
  by_cases x1 : innerI ws l (wI ws (a + 1)) 5 = true
  · simp (decide := true) [ir75, h0, h2, g0, ga, gb, b0, w1, c1, c2, c3, c4, c5, c6, hs, optN, natOf, one1, k, shapeI, hx, x1, l1, l1', l2', v1, hsw, hc7, ← hwd]
  · rw [Bool.not_eq_true] at x1
    rw [x1] at hx
    simp (decide := true) [ir75, h0, h2, g0, ga, gb, b0, w1, c1, c2, c3, c4, c5, c6, hs, optN, natOf, one1, k, shapeI, hx, x1, l1, l1', v1]
end Go.Pv
