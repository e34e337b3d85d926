/- Proof: where values go, and the law helpers. No condition. -/
import Derived.Test.YthddchcckpmgoaaEqE
import Derived.Test.YthddchcckpmgoaaPvG
set_option autoImplicit true
set_option relaxedAutoImplicit true
set_option linter.unusedSimpArgs false
set_option linter.unusedVariables false
namespace Go.Pv
set_option maxRecDepth 8000
set_option maxHeartbeats 4000000
set_option linter.unusedSimpArgs false
set_option linter.unusedVariables false
theorem lenP_rf' (a o n : Nat) : lenP (.rf a o n) = some (.sc (.int .i64 n)) := nr rfl
/-! the map of new places -/
def mapL : List (Int × Int) → Nat → List ((V × V) × Nat)
  | [], _ => []
  | p :: r, n => ((.sc (.int .i64 p.1), .sc (.int .i64 p.2)), n) :: mapL r (n + 1)
def findP (x : Int) : List (Int × Int) → Option Int
  | [] => none
  | p :: r => if x = p.1 then some p.2 else findP x r
theorem mfind_mapL (x : Int) : ∀ (ps : List (Int × Int)) (n : Nat), ∃ f : Int → Nat, mfind (.sc (.int .i64 x)) (mapL ps n) = some ((findP x ps).map fun t => (.sc (.int .i64 t), f t))
  | [], n => ⟨fun _ => 0, rfl⟩
  | p :: r, n => by
    obtain ⟨f, hf⟩ := mfind_mapL x r (n + 1)
    by_cases h : x = p.1
    · exact ⟨fun _ => n, by simp [mapL, mfind, eqKey, findP, h]⟩
    · exact ⟨f, by simp [mapL, mfind, eqKey, findP, h, hf]⟩
theorem mfind_none (x : Int) : ∀ (ps : List (Int × Int)) (n : Nat), (∀ p ∈ ps, p.1 ≠ x) → mfind (.sc (.int .i64 x)) (mapL ps n) = some none
  | [], n, _ => rfl
  | p :: r, n, h => by
    have h1 : ¬ (x = p.1) := fun e => h p (by simp) e.symm
    simp [mapL, mfind, eqKey, h1, mfind_none x r (n + 1) (fun q hq => h q (by simp [hq]))]
theorem mapL_len : ∀ (ps : List (Int × Int)) (n : Nat), (mapL ps n).length = ps.length
  | [], n => rfl
  | p :: r, n => by simp [mapL, mapL_len r]
theorem mborn_mapL (k z v : Int) : ∀ (ps : List (Int × Int)) (n : Nat), mborn ((n + ps.length : Nat) : Int) (.sc (.int .i64 v)) (mapL ps n ++ [((.sc (.int .i64 k), .sc (.int .i64 z)), n + ps.length)]) = some (mapL (ps ++ [(k, v)]) n)
  | [], n => by simp [mapL, mborn]
  | p :: r, n => by
    have h := mborn_mapL k z v r (n + 1)
    rw [show n + 1 + r.length = n + (p :: r).length by simp; omega] at h
    simp only [mapL, List.cons_append, mborn]
    rw [if_neg (by simp; omega), h]
    rfl
def pairsL (ws : List Int) : List Int → Int → List (Int × Int)
  | [], _ => []
  | k :: l, t => if wI ws k % 8 = 0 then pairsL ws l t else (k, t) :: pairsL ws l (t + wI ws k / 8)
theorem pairsL_fst (ws : List Int) : ∀ (l : List Int) (t : Int), ∀ p ∈ pairsL ws l t, p.1 ∈ l
  | [], t, p, h => by simp [pairsL] at h
  | k :: l, t, p, h => by
    simp only [pairsL] at h
    split at h
    · exact List.mem_cons_of_mem _ (pairsL_fst ws l _ p h)
    · rcases List.mem_cons.1 h with rfl | h
      · simp
      · exact List.mem_cons_of_mem _ (pairsL_fst ws l _ p h)
theorem lp45 (ws : List Int) (hw : ws.length ≤ 1048576) (l : List Int) (hc : Chain ws 0 l) (fl : List Int) : ∀ (m : Nat) (i t : Int) (ps : List (Int × Int)) (off len : Nat), 0 ≤ i → i + m = l.length → fl.drop off = fwdL ws (l.drop i.toNat) t → off + len = fl.length → (∀ p ∈ ps, ∀ y ∈ l.drop i.toNat, p.1 ≠ y) → ps.length ≤ i →
    ∃ off' len', ev EE (.loop lp45_0 [1, 3, 4, 11, 12, 13] [2, 3] { np := 0, tm := [(1, .bx 0 0), (3, .mp 1), (4, .rf 0 off len), (11, .rf 1 0 l.length), (12, int l.length), (13, int i)], ar := [(0, .a false (ints fl)), (1, .a false (ints l))], bx := [(0, .b [IS ws]), (1, .m (mapL ps 0, ps.length))] }) =
    some (.out (.exit 0) { np := 0, tm := [(3, .mp 0)], ar := [], bx := [(0, .m (mapL (ps ++ pairsL ws (l.drop i.toNat) t) 0, off'))] }) ∧ len' = 0
  | 0, i, t, ps, off, len, h0, h1, h2, h3, h4, h5 => by
    refine ⟨ps.length, 0, ?_, rfl⟩
    rw [ev_loop EE lp45_0.eq_1]
    have h6 : ¬ (i < l.length) := by omega
    have h7 : l.drop i.toNat = [] := List.drop_eq_nil_of_le (by omega)
    rw [h7]
    simp [h6, pairsL]
  | m + 1, i, t, ps, off, len, h0, h1, h2, h3, h4, h5 => by
    have hi : i < l.length := by omega
    have hm := hc.mem (wI_mem h0 hi)
    have hln := hc.len (by omega)
    have g1 := ints_getI l i h0 hi
    have g2 := ints_getI ws (wI l i) hm.1 hm.2.1
    have w1 := wrap64_id (i + 1) (by omega) (by omega)
    rw [drop_wI h0 hi] at h2 h4 ⊢
    simp only [fwdL, pairsL] at h2 ⊢
    have hfl : fl.length - off = len := by omega
    by_cases hk : wI ws (wI l i) % 8 = 0
    · rw [if_pos hk] at h2 ⊢
      obtain ⟨off', len', ih, he⟩ := lp45 ws hw l hc fl m (i + 1) t ps off len (by omega) (by omega) h2 h3 (fun p hp y hy => h4 p hp y (by simp [hy])) (by omega)
      refine ⟨off', len', ?_, he⟩
      rw [ev_loop EE lp45_0.eq_1]
      simp only [int] at ih
      by_cases hl : (0 : Int) < len
      · have hl' : 0 < len := by omega
        simp (decide := true) [-lenP_rf, lenP_rf', h0, hi, hm, g1, g2, w1, hk, ih, hl, hl']
      · have hl' : ¬ 0 < len := by omega
        simp (decide := true) [-lenP_rf, lenP_rf', h0, hi, hm, g1, g2, w1, hk, ih, hl, hl']
    · rw [if_neg hk] at h2 ⊢
      have hlen : 0 < len := by
        have := congrArg List.length h2
        simp at this
        omega
      have hx : fl[off]? = some t := by
        have := congrArg (fun l => l[0]?) h2
        simpa using this
      have hd : fl.drop (off + 1) = fwdL ws (l.drop (i + 1).toNat) (t + wI ws (wI l i) / 8) := by
        have := congrArg (List.drop 1) h2
        simpa [List.drop_drop, Nat.add_comm] using this
      have hwf : wI fl off = t := by
        have hlt : off < fl.length := by omega
        simp only [wI]
        rw [show ((off : Int)).toNat = off by omega, List.getD_eq_getElem?_getD, hx]
        rfl
      have g3 := ints_getI fl off (by omega) (by omega)
      rw [hwf, show ((off : Int)).toNat = off by omega] at g3
      have g3' : ∀ h : off < (ints fl).length, (ints fl)[off] = [.sc (.int .i64 t)] := by
        intro h
        have := List.getElem?_eq_getElem h
        rw [g3] at this
        exact (Option.some.inj this).symm
      have hl : (0 : Int) < len := by omega
      have e1 : 1 ≤ len := by omega
      have e2 : off + len ≤ fl.length := by omega
      have hnk := mfind_none (wI l i) ps 0 (fun p hp => h4 p hp _ (by simp))
      have hbn := mborn_mapL (wI l i) 0 t ps 0
      rw [Nat.zero_add] at hbn
      have hpos : off < fl.length := by omega
      obtain ⟨off', len', ih, he⟩ := lp45 ws hw l hc fl m (i + 1) (t + wI ws (wI l i) / 8) (ps ++ [(wI l i, t)]) (off + 1) (len - 1) (by omega) (by omega) hd (by omega) (by
        intro p hp y hy
        rcases List.mem_append.1 hp with hp | hp
        · exact h4 p hp y (by simp [hy])
        · simp at hp
          subst hp
          have hs := hc.sub.drop (i := i.toNat)
          rw [drop_wI h0 hi] at hs
          have := (List.pairwise_cons.1 hs).1 y hy
          simp only
          have h9 := hm.2.2.1
          omega) (by simp; omega)
      refine ⟨off', len', ?_, he⟩
      rw [ev_loop EE lp45_0.eq_1]
      simp only [int, List.length_append, List.length_singleton, List.append_assoc, List.singleton_append] at ih
      simp (decide := true) [-lenP_rf, lenP_rf', h0, hi, hm, g1, g2, g3, g3', w1, hk, ih, hl, hlen, e1, e2, hnk, hbn, hpos, keyOk, flat1]
end Go.Pv

namespace Go.Pv
set_option maxRecDepth 8000
set_option maxHeartbeats 4000000
set_option linter.unusedSimpArgs false
set_option linter.unusedVariables false
theorem e34 (ws : List Int) (k : Int) (h0 : 0 ≤ k) (h1 : k ≤ 1048576) (hw : (ws.length : Int) ≤ 9223372036854775807) : ev EE (.call 34 [IS ws, int k] []) = some (.val (int (if k - ws.length < 0 then -1 else k - ws.length)) []) := by
  rw [ev_eq]
  have w1 := wrap64_id (k - ws.length) (by omega) (by omega)
  by_cases h : k - ws.length < 0
  · simp (decide := true) [ir34, w1, h]
  · simp (decide := true) [ir34, w1, h]
theorem e8 (ws : List Int) (k : Int) (h0 : 0 ≤ k) (h1 : k ≤ 1048576) (hw : (ws.length : Int) ≤ 9223372036854775807) : ev EE (.call 8 [SL ws, int k] []) = some (.val (int (if k - ws.length < 0 then -1 else k - ws.length)) []) := by
  rw [ev_eq]
  have h := e34 ws k h0 h1 hw
  simp only [int] at h
  by_cases h2 : k - ws.length < 0
  · rw [if_pos h2] at h ⊢
    simp (decide := true) [ir8, h]
  · rw [if_neg h2] at h ⊢
    simp (decide := true) [ir8, h, h2]
theorem ext_wI {xs ys : List Int} (h : xs.length = ys.length) (h2 : ∀ j : Int, 0 ≤ j → j < xs.length → wI xs j = wI ys j) : xs = ys := by
  apply List.ext_getElem h
  intro i h3 h4
  have := h2 i (by omega) (by omega)
  simpa [wI, h3, h4] using this
def cpR (ws : List Int) : Nat → List Int → Int → List Int
  | 0, xs, _ => xs
  | m + 1, xs, i => cpR ws m (xs.set i.toNat (wI ws i)) (i + 1)
theorem cpR_len (ws : List Int) : ∀ (m : Nat) (xs : List Int) (i : Int), (cpR ws m xs i).length = xs.length
  | 0, xs, i => rfl
  | m + 1, xs, i => by simp [cpR, cpR_len ws m]
theorem cpR_wI (ws : List Int) : ∀ (m : Nat) (xs : List Int) (i j : Int), 0 ≤ i → i + m ≤ xs.length → 0 ≤ j → wI (cpR ws m xs i) j = if i ≤ j ∧ j < i + m then wI ws j else wI xs j
  | 0, xs, i, j, h0, h1, h2 => by
    rw [if_neg (by omega)]; rfl
  | m + 1, xs, i, j, h0, h1, h2 => by
    simp only [cpR]
    rw [cpR_wI ws m _ (i + 1) j (by omega) (by simp; omega) h2, wI_set xs i j _ h0 (by omega) h2]
    by_cases h3 : j = i
    · rw [if_neg (by omega), if_pos h3, if_pos (by omega), h3]
    · rw [if_neg h3]
      by_cases h4 : i + 1 ≤ j ∧ j < i + 1 + m
      · rw [if_pos h4, if_pos (by omega)]
      · rw [if_neg h4, if_neg (by omega)]
theorem cpR_all (ws : List Int) : cpR ws ws.length (List.replicate ws.length 0) 0 = ws := by
  apply ext_wI (by simp [cpR_len])
  intro j h0 h1
  simp [cpR_len] at h1
  rw [cpR_wI ws _ _ _ _ (by omega) (by simp) h0, if_pos (by omega)]
theorem lp20 (ws : List Int) (hw : ws.length ≤ 1048576) : ∀ (m : Nat) (xs : List Int) (i : Int), xs.length = ws.length → 0 ≤ i → i + m = ws.length →
    ev EE (.loop lp20_0 [0, 3, 4] [2, 3] { np := 0, tm := [(0, IS ws), (3, .rf 0 0 ws.length), (4, int i)], ar := [(0, .a false (ints xs))], bx := [] }) =
    some (.out (.exit 0) { np := 0, tm := [(3, .rf 0 0 ws.length)], ar := [(0, .a false (ints (cpR ws m xs i)))], bx := [] })
  | 0, xs, i, hx, h0, h1 => by
    rw [ev_loop EE lp20_0.eq_1]
    have : ¬ (i < ws.length) := by omega
    simp [this, cpR]
  | m + 1, xs, i, hx, h0, h1 => by
    rw [ev_loop EE lp20_0.eq_1]
    have h2 : i < ws.length := by omega
    have g1 := ints_getI ws i h0 h2
    have g3 := ints_getI xs i h0 (by omega)
    have w1 := wrap64_id (i + 1) (by omega) (by omega)
    have ih := lp20 ws hw m (xs.set i.toNat (wI ws i)) (i + 1) (by simp [hx]) (by omega) (by omega)
    simp only [int] at ih
    simp (decide := true) [h0, h2, hx, g1, g3, w1, ih, cpR]
theorem e20 (ws : List Int) (hw : ws.length ≤ 1048576) : ev EE (.call 20 [IS ws] []) = some (.val (.ls true (ints ws)) []) := by
  rw [ev_eq]
  have h := lp20 ws hw ws.length (List.replicate ws.length 0) 0 (by simp) (by omega) (by omega)
  rw [cpR_all] at h
  simp only [int] at h
  have b1 : ws.length * 8 ≤ 140737488351232 := by omega
  have b2 : (0 : Int) ≤ ws.length := by omega
  simp (decide := true) [ir20, h, lim, maxB, b1, b2, clo1]
theorem e10 (ws : List Int) (hw : ws.length ≤ 1048576) : ev EE (.call 10 [SL ws] []) = some (.val (.ag [.ls true (ints ws)]) []) := by
  rw [ev_eq]
  have h := e20 ws hw
  simp (decide := true) [ir10, h, one1]
def eqR (xs ys : List Int) : Nat → Int → Bool
  | 0, _ => true
  | m + 1, i => decide (wI xs i = wI ys i) && eqR xs ys m (i + 1)
theorem eqR_self (xs : List Int) : ∀ (m : Nat) (i : Int), eqR xs xs m i = true
  | 0, _ => rfl
  | m + 1, i => by simp [eqR, eqR_self xs m]
theorem lp12 (xs ys : List Int) (hx : xs.length ≤ 1048576) (hy : ys.length = xs.length) : ∀ (m : Nat) (i : Int), 0 ≤ i → i + m = xs.length →
    ev EE (.loop lp12_0 [0, 1, 5] [4] { np := 0, tm := [(0, IS xs), (1, IS ys), (5, int i)], ar := [], bx := [] }) =
    if eqR xs ys m i then some (.out (.exit 0) { np := 0, tm := [], ar := [], bx := [] }) else some (.out .ret { np := 0, tm := [(4, bool false)], ar := [], bx := [] })
  | 0, i, h0, h1 => by
    rw [ev_loop EE lp12_0.eq_1]
    have : ¬ (i < xs.length) := by omega
    simp [this, eqR]
  | m + 1, i, h0, h1 => by
    rw [ev_loop EE lp12_0.eq_1]
    have h2 : i < xs.length := by omega
    have g1 := ints_getI xs i h0 h2
    have g2 := ints_getI ys i h0 (by omega)
    have w1 := wrap64_id (i + 1) (by omega) (by omega)
    have ih := lp12 xs ys hx hy m (i + 1) (by omega) (by omega)
    simp only [int, bool] at ih
    by_cases h3 : wI xs i = wI ys i
    · by_cases h4 : eqR xs ys m (i + 1) = true
      · simp (decide := true) [h0, h2, hy, g1, g2, w1, ih, h3, h4, eqR]
      · simp (decide := true) [h0, h2, hy, g1, g2, w1, ih, h3, h4, eqR]
    · simp (decide := true) [h0, h2, hy, g1, g2, h3, eqR]
theorem e12 (xs : List Int) (hx : xs.length ≤ 1048576) : ev EE (.call 12 [IS xs, IS xs] []) = some (.val (bool true) []) := by
  rw [ev_eq]
  have h := lp12 xs xs hx rfl xs.length 0 (by omega) (by omega)
  rw [eqR_self] at h
  simp only [int, bool] at h
  simp (decide := true) [ir12, h]
theorem e13 (xs : List Int) (hx : xs.length ≤ 1048576) : ev EE (.call 13 [SL xs, SL xs] []) = some (.val (bool true) []) := by
  rw [ev_eq]
  have h := e12 xs hx
  simp only [bool] at h
  simp (decide := true) [ir13, h]
def markR : Nat → List Int → Int → Int → List Int
  | 0, xs, _, _ => xs
  | m + 1, xs, i, k => markR m (xs.set i.toNat k) (i + 1) (k + 1)
theorem markR_len : ∀ (m : Nat) (xs : List Int) (i k : Int), (markR m xs i k).length = xs.length
  | 0, xs, i, k => rfl
  | m + 1, xs, i, k => by simp [markR, markR_len m]
theorem markR_wI : ∀ (m : Nat) (xs : List Int) (i k j : Int), 0 ≤ i → i + m ≤ xs.length → 0 ≤ j → wI (markR m xs i k) j = if i ≤ j ∧ j < i + m then k + (j - i) else wI xs j
  | 0, xs, i, k, j, h0, h1, h2 => by
    rw [if_neg (by omega)]; rfl
  | m + 1, xs, i, k, j, h0, h1, h2 => by
    simp only [markR]
    rw [markR_wI m _ (i + 1) (k + 1) j (by omega) (by simp; omega) h2, wI_set xs i j _ h0 (by omega) h2]
    by_cases h3 : j = i
    · rw [if_neg (by omega), if_pos h3, if_pos (by omega), h3]; omega
    · rw [if_neg h3]
      by_cases h4 : i + 1 ≤ j ∧ j < i + 1 + m
      · rw [if_pos h4, if_pos (by omega)]; omega
      · rw [if_neg h4, if_neg (by omega)]
theorem lp15 (N : Nat) (hN : N ≤ 1048576) : ∀ (m : Nat) (xs : List Int) (i k : Int), xs.length = N → 0 ≤ i → i + m = N → 0 ≤ k → k ≤ 100000000 + i →
    ev EE (.loop lp15_0 [0, 1, 5] [0, 1, 4] { np := 0, tm := [(0, .rf 0 0 N), (1, int k), (5, int i)], ar := [(0, .a false (ints xs))], bx := [] }) =
    some (.out (.exit 0) { np := 0, tm := [(0, .rf 0 0 N), (1, int (k + m))], ar := [(0, .a false (ints (markR m xs i k)))], bx := [] })
  | 0, xs, i, k, hx, h0, h1, h5, h6 => by
    rw [ev_loop EE lp15_0.eq_1]
    have : ¬ (i < N) := by omega
    simp [this, markR]
  | m + 1, xs, i, k, hx, h0, h1, h5, h6 => by
    rw [ev_loop EE lp15_0.eq_1]
    have h2 : i < N := by omega
    have g3 := ints_getI xs i h0 (by omega)
    have w1 := wrap64_id (i + 1) (by omega) (by omega)
    have w2 := wrap64_id (k + 1) (by omega) (by omega)
    have ih := lp15 N hN m (xs.set i.toNat k) (i + 1) (k + 1) (by simp [hx]) (by omega) (by omega) (by omega) (by omega)
    rw [show k + 1 + (m : Int) = k + ((m + 1 : Nat) : Int) by omega] at ih
    simp only [int] at ih
    subst hx
    simp (decide := true) [h0, h2, g3, w1, w2, ih, markR]
theorem e15 (xs : List Int) (hx : xs.length ≤ 1048576) (k : Int) (h0 : 0 ≤ k) (h1 : k ≤ 100000000) : ev EE (.call 15 [.ls true (ints xs), int k] []) = some (.val (.tu [int (k + xs.length), .ls true (ints (markR xs.length xs 0 k))]) []) := by
  rw [ev_eq]
  have h := lp15 xs.length hx xs.length xs 0 k rfl (by omega) (by omega) h0 (by omega)
  simp only [int] at h
  simp (decide := true) [ir15, h, markR_len]
  rw [List.take_of_length_le (by simp [markR_len])]
theorem lp16 (ys : List Int) (hy : ys.length ≤ 1048576) (q : Int) (hq : 0 ≤ q) (hq2 : q ≤ 100000000) (hv : ∀ j : Int, 0 ≤ j → j < ys.length → wI ys j = q + j) : ∀ (m : Nat) (i : Int), 0 ≤ i → i + m = ys.length →
    ev EE (.loop lp16_0 [0, 1, 5] [1, 4] { np := 0, tm := [(0, IS ys), (1, int (q + i)), (5, int i)], ar := [], bx := [] }) =
    some (.out (.exit 0) { np := 0, tm := [(1, int (q + ys.length))], ar := [], bx := [] })
  | 0, i, h0, h1 => by
    rw [ev_loop EE lp16_0.eq_1]
    have : ¬ (i < ys.length) := by omega
    have hi : i = ys.length := by omega
    simp [this, hi]
  | m + 1, i, h0, h1 => by
    rw [ev_loop EE lp16_0.eq_1]
    have h2 : i < ys.length := by omega
    have g1 := ints_getI ys i h0 h2
    rw [hv i h0 h2] at g1
    have g2 : ∀ h : i.toNat < (ints ys).length, (ints ys)[i.toNat] = [.sc (.int .i64 (q + i))] := fun h => by rw [← hv i h0 h2]; exact ints_getE ys i h
    have w1 := wrap64_id (i + 1) (by omega) (by omega)
    have w2 := wrap64_id (q + i + 1) (by omega) (by omega)
    have ih := lp16 ys hy q hq hq2 hv m (i + 1) (by omega) (by omega)
    rw [show q + (i + 1) = q + i + 1 by omega] at ih
    simp only [int] at ih
    simp (decide := true) [h0, h2, g1, g2, w1, w2, ih]
theorem e16 (ys : List Int) (hy : ys.length ≤ 1048576) (q : Int) (hq : 0 ≤ q) (hq2 : q ≤ 100000000) (hv : ∀ j : Int, 0 ≤ j → j < ys.length → wI ys j = q + j) : ev EE (.call 16 [IS ys, int q] []) = some (.val (int (q + ys.length)) []) := by
  rw [ev_eq]
  have h := lp16 ys hy q hq hq2 hv ys.length 0 (by omega) (by omega)
  rw [Int.add_zero] at h
  simp only [int] at h
  simp (decide := true) [ir16, h]
@[simp] theorem ints_same (xs ys : List Int) : sameL (ints xs) (ints ys) = true := by
  simp only [sameL, ints, List.all_map, List.all_eq_true]
  intro x _
  simp [allLen]
theorem e14 (xs : List Int) (hx : xs.length ≤ 1048576) (k : Int) (h0 : 0 ≤ k) (h1 : k ≤ 100000000) : ev EE (.call 14 [.ag [.ls true (ints xs)], int k] []) = some (.val (.tu [int (k + xs.length), .ag [.ls true (ints (markR xs.length xs 0 k))]]) []) := by
  rw [ev_eq]
  have h := e15 xs hx k h0 h1
  simp only [int] at h
  have hT : List.take xs.length (markR xs.length xs 0 k) = markR xs.length xs 0 k := List.take_of_length_le (by simp [markR_len])
  simp (decide := true) [ir14, h, markR_len, hT]
theorem e22 (ys : List Int) (hy : ys.length ≤ 1048576) (q : Int) (hq : 0 ≤ q) (hq2 : q ≤ 100000000) (hv : ∀ j : Int, 0 ≤ j → j < ys.length → wI ys j = q + j) : ev EE (.call 22 [SL ys, int q] []) = some (.val (int (q + ys.length)) []) := by
  rw [ev_eq]
  have h := e16 ys hy q hq hq2 hv
  have h2 : ¬ (q + (ys.length : Int) < 0) := by omega
  simp only [int] at h
  simp (decide := true) [ir22, h, h2]
end Go.Pv

namespace Go.Pv
set_option maxRecDepth 8000
set_option maxHeartbeats 4000000
set_option linter.unusedSimpArgs false
set_option linter.unusedVariables false
def pairsP (ws : List Int) : List (Int × Int) := if heapS ws then pairsL ws ((blks ws).getD []) 0 else []
theorem lp45z (ws : List Int) (hw : ws.length ≤ 1048576) (l : List Int) (hl : l.length ≤ 1048576) : ∀ (m : Nat) (i : Int), 0 ≤ i → i + m = l.length →
    ev EE (.loop lp45_0 [1, 3, 4, 11, 12, 13] [2, 3] { np := 0, tm := [(1, .bx 0 0), (3, .mp 1), (4, .rf 0 0 0), (11, .rf 1 0 l.length), (12, int l.length), (13, int i)], ar := [(0, .a false (ints [])), (1, .a false (ints l))], bx := [(0, .b [IS ws]), (1, .m ([], 0))] }) =
    some (.out (.exit 0) { np := 0, tm := [(3, .mp 0)], ar := [], bx := [(0, .m ([], 0))] })
  | 0, i, h0, h1 => by
    rw [ev_loop EE lp45_0.eq_1]
    have h6 : ¬ (i < l.length) := by omega
    simp [h6]
  | m + 1, i, h0, h1 => by
    rw [ev_loop EE lp45_0.eq_1]
    have hi : i < l.length := by omega
    have g1 := ints_getI l i h0 hi
    have w1 := wrap64_id (i + 1) (by omega) (by omega)
    have ih := lp45z ws hw l hl m (i + 1) (by omega) (by omega)
    simp only [int] at ih
    simp (decide := true) [-lenP_rf, lenP_rf', h0, hi, g1, w1, ih]
theorem e45 (ws : List Int) (hw : ws.length ≤ 1048576) : ∃ n, ev EE (.call 45 [SL ws] []) = some (.val (.mp 0) [.m (mapL (pairsP ws) 0, n)]) := by
  have h11 := e11 ws hw
  have h40 := e40 ws
  unfold pairsP
  cases hs : heapS ws with
  | false =>
    have hF : fwdP ws = [] := by simp [fwdP, hs]
    rw [hF] at h11
    have hl2 : ((blks ws).getD []).length ≤ 1048576 := by
      cases hb : blks ws with
      | none => simp
      | some l =>
        have := (blks_chain hb).2.len (by omega)
        simp; omega
    have h := lp45z ws hw ((blks ws).getD []) hl2 ((blks ws).getD []).length 0 (by omega) (by omega)
    generalize (blks ws).getD [] = l at *
    simp only [int] at h
    refine ⟨0, ?_⟩
    rw [ev_eq]
    simp (decide := true) [ir45, h11, h40, h, mapL]
  | true =>
    have hs' := hs
    unfold heapS at hs'
    cases hb : blks ws with
    | none => rw [hb] at hs'; cases hs'
    | some l =>
      have hc := (blks_chain hb).2
      have hF : fwdP ws = fwdL ws l 0 := by simp [fwdP, hs, hb]
      rw [hF] at h11
      rw [hb] at h40
      simp only [Option.getD_some] at h40
      obtain ⟨n, _, h, _⟩ := lp45 ws hw l hc (fwdL ws l 0) l.length 0 0 [] 0 (fwdL ws l 0).length (by omega) (by omega) (by simp) (by omega) (by simp) (by simp)
      simp only [int, mapL, List.length_nil, List.nil_append, show (0 : Int).toNat = 0 from rfl, List.drop_zero] at h
      refine ⟨n, ?_⟩
      rw [ev_eq]
      simp (decide := true) [ir45, h11, h40, h]
def movI (ws l : List Int) (ps : List (Int × Int)) (v : Int) : Int := match findP (v / 8) ps with | some t => if leadsI ws l v then refOf (v % 8) t else v | none => v
theorem e43 (ws l all : List Int) (hw : ws.length ≤ 1048576) (ps : List (Int × Int)) (hok : ps = [] ∨ (Chain ws 0 l ∧ KindsOk ws l all)) (n : Nat) (v : Int) : ev EE (.call 43 [IS all, .mp 0, int v] [.m (mapL ps 0, n)]) = some (.val (int (movI ws l ps v)) [.m (mapL ps 0, n)]) := by
  rw [ev_eq]
  obtain ⟨f, hf⟩ := mfind_mapL (v / 8) ps 0
  unfold movI
  cases hp : findP (v / 8) ps with
  | none =>
    rw [hp] at hf
    simp only [Option.map_none] at hf
    simp (decide := true) [ir43, hf, keyOk]
  | some t =>
    rw [hp] at hf
    simp only [Option.map_some] at hf
    rcases hok with h0 | ⟨hc, hk⟩
    · subst h0; simp [findP] at hp
    · have h82 := e82 ws l all hw hc hk v
      simp only [int, bool] at h82
      by_cases hl : leadsI ws l v = true
      · simp (decide := true) [ir43, hf, keyOk, h82, hl]
      · rw [Bool.not_eq_true] at hl
        rw [hl] at h82
        simp (decide := true) [ir43, hf, keyOk, h82, hl]
theorem toOf_lt (ws : List Int) : ∀ (l : List Int) (a x : Int), Chain ws a l → x ∈ l → toOf ws l x ≤ x - a
  | [], a, x, _, h => by cases h
  | k :: l, a, x, hc, h => by
    obtain ⟨rfl, h2, h3, h4, h5, h6⟩ := hc
    simp only [toOf]
    rcases List.mem_cons.1 h with rfl | h
    · rw [if_neg (by omega)]; omega
    · have h7 := h6.mem h
      rw [if_pos (by omega)]
      have h8 := toOf_lt ws l _ x h6 h
      split <;> omega
theorem findP_toOf (ws : List Int) : ∀ (l : List Int) (a t x : Int), Chain ws a l → x ∈ l → wI ws x % 8 ≠ 0 → findP x (pairsL ws l t) = some (t + toOf ws l x)
  | [], a, t, x, _, h, _ => by cases h
  | k :: l, a, t, x, hc, h, hk => by
    obtain ⟨rfl, h2, h3, h4, h5, h6⟩ := hc
    simp only [toOf, pairsL]
    rcases List.mem_cons.1 h with rfl | h
    · rw [if_neg hk, if_neg (by omega)]
      simp [findP]
    · have h7 := h6.mem h
      rw [if_pos (by omega : k < x)]
      by_cases hk0 : wI ws k % 8 = 0
      · rw [if_pos hk0, if_pos hk0, findP_toOf ws l _ t x h6 h hk]
        congr 1; omega
      · rw [if_neg hk0, if_neg hk0]
        simp only [findP]
        rw [if_neg (by omega), findP_toOf ws l _ _ x h6 h hk]
        congr 1; omega
theorem block_eq {ws l : List Int} (hw : ws.length ≤ 2000) (hc : Chain ws 0 l) (v : Int) : blockS ws l v = leadsI ws l v := by
  unfold blockS leadsI
  by_cases h4 : v % 8 = 4
  · rw [lead4 hw hc h4, lead4 hw hc h4, if_pos h4, Bool.or_self]
    cases hb : toB ws l v 1 with
    | false => simp
    | true => simp [toB_ok hw hc (by omega) hb, h4]
  by_cases h5 : v % 8 = 5
  · rw [lead5 hw hc h5, lead5 hw hc h5, if_neg h4, if_pos h5, Bool.or_self]
    cases hb : toB ws l v 2 with
    | false => simp
    | true => simp [toB_ok hw hc (by omega) hb, h5]
  by_cases h6 : v % 8 = 6
  · rw [lead6 hw hc h6, lead6 hw hc h6, if_neg h4, if_neg h5, if_pos h6, Bool.or_self]
    cases hb : toB ws l v 4 with
    | false => simp
    | true => simp [toB_ok hw hc (by omega) hb, h6]
  by_cases h7 : v % 8 = 7
  · rw [lead7 hw hc h7, lead7 hw hc h7, if_neg h4, if_neg h5, if_neg h6, if_pos h7]
    cases hb : toB ws l v 3 with
    | true => simp [toB_ok hw hc (by omega) hb, h7]
    | false =>
      cases hb5 : toB ws l v 5 with
      | true => simp [toB_ok hw hc (by omega) hb5, h7]
      | false => simp
  · have : ¬ (4 ≤ v % 8) := by omega
    simp [h4, h5, h6, h7, this]
theorem moved_eq (ws : List Int) (v : Int) : movI ws ((blks ws).getD []) (pairsP ws) v = movedP ws v := by
  unfold movI movedP
  cases hb : blks ws with
  | none =>
    have hs : heapS ws = false := by simp [heapS, hb]
    simp [pairsP, hs, findP]
  | some l =>
    obtain ⟨hw2, hc⟩ := blks_chain hb
    simp only [Option.getD_some]
    cases hs : heapS ws with
    | false => simp [pairsP, hs, findP]
    | true =>
      rw [block_eq hw2 hc]
      simp only [Bool.true_and]
      by_cases hl : leadsI ws l v = true
      · rw [if_pos hl]
        have hv : 4 ≤ v % 8 ∧ v / 8 ∈ l ∧ wI ws (v / 8) % 8 ≠ 0 := by
          unfold leadsI at hl
          split at hl
          · simp only [toB, Bool.and_eq_true, decide_eq_true_eq] at hl; exact ⟨by omega, hl.1, by omega⟩
          · split at hl
            · simp only [toB, Bool.and_eq_true, decide_eq_true_eq] at hl; exact ⟨by omega, hl.1, by omega⟩
            · split at hl
              · simp only [toB, Bool.and_eq_true, decide_eq_true_eq] at hl; exact ⟨by omega, hl.1, by omega⟩
              · split at hl
                · simp only [toB, Bool.and_eq_true, decide_eq_true_eq, Bool.or_eq_true] at hl
                  rcases hl with hl | hl
                  · exact ⟨by omega, hl.1, by omega⟩
                  · exact ⟨by omega, hl.1, by omega⟩
                · cases hl
        have hpp : pairsP ws = pairsL ws l 0 := by simp [pairsP, hs, hb]
        rw [hpp, findP_toOf ws l 0 0 _ hc hv.2.1 hv.2.2]
        simp only [hl, if_true, Int.zero_add]
        have h1 := toOf_lt ws l 0 _ hc hv.2.1
        have h2 := (toOf_le ws l 0 (v / 8) hc).1
        have h3 := (hc.mem hv.2.1).2.1
        unfold refOf movedS
        rw [if_pos (by omega), if_neg (by omega)]
      · rw [if_neg hl]
        split
        · rw [if_neg hl]
        · rfl
theorem e18 (ws : List Int) (hw : ws.length ≤ 1048576) (v : Int) : ev EE (.call 18 [SL ws, int v] []) = some (.val (int (movedP ws v)) []) := by
  rw [ev_eq]
  obtain ⟨n, h45⟩ := e45 ws hw
  have h44 := e44 ws hw
  have hok : pairsP ws = [] ∨ (Chain ws 0 ((blks ws).getD []) ∧ KindsOk ws ((blks ws).getD []) (kindsP ws)) := by
    cases hb : blks ws with
    | none => left; simp [pairsP, heapS, hb]
    | some l => right; simp only [Option.getD_some]; exact ⟨(blks_chain hb).2, kindsP_ok hb⟩
  have h43 := e43 ws ((blks ws).getD []) (kindsP ws) hw (pairsP ws) hok n v
  rw [moved_eq] at h43
  simp only [int] at h43
  simp (decide := true) [ir18, h44, h45, h43]
end Go.Pv
