/- Proof: what the functions evaluate to: heaps. No condition. -/
import Derived.Test.YthddchcckpmgoaaEqB
set_option autoImplicit true
set_option relaxedAutoImplicit true
set_option linter.unusedSimpArgs false
set_option linter.unusedVariables false
namespace Go.Pv
set_option maxRecDepth 8000
set_option maxHeartbeats 2000000
set_option linter.unusedSimpArgs false
set_option linter.unusedVariables false
def allR (p : Int → Bool) (l : List Int) : Nat → Int → Bool
  | 0, _ => true
  | n + 1, i => p (wI l i) && allR p l n (i + 1)
theorem wI_mem {l : List Int} {i : Int} (h0 : 0 ≤ i) (h1 : i < l.length) : wI l i ∈ l := by
  have : i.toNat < l.length := by omega
  simp [wI, this]
theorem allR_drop (p : Int → Bool) (l : List Int) : ∀ (n : Nat) (i : Int), 0 ≤ i → i + n = l.length → allR p l n i = (l.drop i.toNat).all p
  | 0, i, h0, h1 => by
    rw [List.drop_eq_nil_of_le (by omega)]
    rfl
  | n + 1, i, h0, h1 => by
    have h2 : i.toNat < l.length := by omega
    rw [List.drop_eq_getElem_cons h2, List.all_cons, show i.toNat + 1 = (i + 1).toNat by omega, ← allR_drop p l n (i + 1) (by omega) (by omega)]
    simp [allR, wI, h2]
theorem allR_all (p : Int → Bool) (l : List Int) : allR p l l.length 0 = l.all p := by
  rw [allR_drop p l l.length 0 (by omega) (by omega)]; rfl
theorem lp36 (ws : List Int) (hw : ws.length ≤ 1048576) (l : List Int) (hl : l.length ≤ 1048576) (p : Int → Bool) (hp : ∀ a ∈ l, ev EE (.call 71 [SL ws, int a] []) = some (.val (bool (p a)) [])) : ∀ (n : Nat) (i : Int), 0 ≤ i → i + n = l.length →
    ev EE (.loop lp36_0 [1, 3, 4] [1, 2] { np := 0, tm := [(1, .bx 0 0), (3, .rf 0 0 l.length), (4, int i)], ar := [(0, .a false (ints l))], bx := [(0, .b [IS ws])] }) =
    if allR p l n i then some (.out (.exit 0) { np := 0, tm := [(1, .bx 0 0)], ar := [], bx := [(0, .b [IS ws])] }) else some (.out .ret { np := 0, tm := [(1, .bx 0 0), (2, bool false)], ar := [], bx := [(0, .b [IS ws])] })
  | 0, i, h0, h1 => by
    rw [ev_loop EE lp36_0.eq_1]
    have : ¬ (i < l.length) := by omega
    simp [this, allR]
  | n + 1, i, h0, h1 => by
    rw [ev_loop EE lp36_0.eq_1]
    have h2 : i < l.length := by omega
    have g1 := ints_getI l i h0 h2
    have w1 := wrap64_id (i + 1) (by omega) (by omega)
    have hx := hp _ (wI_mem h0 h2)
    have ih := lp36 ws hw l hl p hp n (i + 1) (by omega) (by omega)
    simp only [int, bool] at ih hx
    by_cases hq : p (wI l i) = true
    · by_cases hr : allR p l n (i + 1) = true
      · simp (decide := true) [h0, h2, g1, w1, hx, ih, hq, hr, allR]
      · simp (decide := true) [h0, h2, g1, w1, hx, ih, hq, hr, allR]
    · simp (decide := true) [h0, h2, g1, w1, hx, hq, allR]
/-- is a heap right? -/
def heapS (ws : List Int) : Bool := match blks ws with | some l => l.all (shapeS ws l) | none => false
theorem Chain.len {ws : List Int} : ∀ {l : List Int} {a : Int}, Chain ws a l → 0 ≤ a → a + l.length ≤ ws.length
  | [], a, hc, _ => by unfold Chain at hc; simp; omega
  | x :: l, a, hc, h0 => by
    obtain ⟨rfl, h2, h3, h4, h5, h6⟩ := hc
    have := h6.len (by omega)
    simp only [List.length_cons]
    omega
@[simp] theorem e36 (ws : List Int) (hw : ws.length ≤ 1048576) : ev EE (.call 36 [SL ws] []) = some (.val (bool (heapS ws)) []) := by
  rw [ev_eq]
  have h := e70' ws hw
  have h35 := e35 ws hw
  simp only [bool] at h
  unfold heapS
  cases hb : blks ws with
  | none =>
    have hl := lp36 ws hw [] (by simp) (fun _ => true) (by simp) 0 0 (by omega) (by simp)
    simp only [int, bool] at hl
    simp [hb, allR] at hl h35
    simp [ir36, h, hb, h35, hl]
  | some l =>
    obtain ⟨h1, hc⟩ := blks_chain hb
    have := hc.len (by omega)
    have hl := lp36 ws hw l (by omega) (shapeS ws l) (fun a ha => e71 ws hw l hc a ha) l.length 0 (by omega) (by omega)
    rw [allR_all] at hl
    simp only [int, bool] at hl
    simp [hb] at h35
    show _ = some (Ans.val (bool (l.all (shapeS ws l))) [])
    by_cases hq : l.all (shapeS ws l) = true
    · rw [if_pos hq] at hl
      rw [hq]
      simp [ir36, h, hb, h35, hl]
    · rw [if_neg hq] at hl
      rw [Bool.not_eq_true] at hq
      rw [hq]
      simp [ir36, h, hb, h35, hl]
def blockS (ws l : List Int) (v : Int) : Bool := vOk v && decide (4 ≤ v % 8) && (leadS ws l v 5 || leadS ws l v 3)
theorem e41 (ws : List Int) (hw : ws.length ≤ 1048576) (l : List Int) (hc : Chain ws 0 l) (v : Int) : ev EE (.call 41 [SL ws, int v] []) = some (.val (bool (blockS ws l v)) []) := by
  rw [ev_eq]
  have h1 := e78 ws hw l hc v 5
  have h2 := e78 ws hw l hc v 3
  simp only [int, bool] at h1 h2
  unfold blockS
  by_cases k1 : vOk v = true
  · by_cases k2 : 4 ≤ v % 8
    · by_cases k3 : leadS ws l v 5 = true
      · simp (decide := true) [ir41, k1, k2, k3, h1]
      · simp (decide := true) [ir41, k1, k2, k3, h1, h2]
    · simp (decide := true) [ir41, k1, k2]
  · simp (decide := true) [ir41, k1]
def movedS (ws l : List Int) (v : Int) : Int := if v % 8 < 4 then v else 8 * toOf ws l (v / 8) + v % 8
theorem toOf_le (ws : List Int) : ∀ (l : List Int) (a x : Int), Chain ws a l → 0 ≤ toOf ws l x ∧ toOf ws l x ≤ ws.length - a
  | [], a, x, hc => by unfold Chain at hc; simp [toOf]; omega
  | y :: l, a, x, hc => by
    obtain ⟨rfl, h2, h3, h4, h5, h6⟩ := hc
    have := toOf_le ws l _ x h6
    simp only [toOf]
    split
    · split <;> omega
    · omega
theorem e42 (ws : List Int) (hw : ws.length ≤ 1048576) (l : List Int) (hc : Chain ws 0 l) (v : Int) (hv : v / 8 < ws.length) : ev EE (.call 42 [SL ws, int v] []) = some (.val (int (movedS ws l v)) []) := by
  rw [ev_eq]
  unfold movedS
  by_cases k : v % 8 < 4
  · simp (decide := true) [ir42, k]
  · have h1 := e79 ws hw l hc (v / 8) hv
    have h2 := toOf_le ws l 0 (v / 8) hc
    have w1 := wrap64_id (8 * toOf ws l (v / 8)) (by omega) (by omega)
    have w2 := wrap64_id (8 * toOf ws l (v / 8) + v % 8) (by omega) (by omega)
    simp only [int] at h1
    simp (decide := true) [ir42, k, h1, w1, w2]
/-- what spec.Moved gives -/
def movedP (ws : List Int) (v : Int) : Int := match blks ws with | some l => if heapS ws && blockS ws l v then movedS ws l v else v | none => v
theorem blockS_mem {ws l : List Int} {v : Int} (h : blockS ws l v = true) : v / 8 ∈ l := by
  simp only [blockS, leadS, toB, Bool.and_eq_true, decide_eq_true_eq, Bool.or_eq_true] at h
  obtain ⟨⟨h1, h2⟩, h3⟩ := h
  apply Classical.byContradiction
  intro hn
  have : v % 8 = 4 ∨ v % 8 = 5 ∨ v % 8 = 6 ∨ v % 8 = 7 := by omega
  rcases this with h4 | h4 | h4 | h4 <;> simp [h4, hn] at h3
@[simp] theorem e17 (ws : List Int) (hw : ws.length ≤ 1048576) (v : Int) : ev EE (.call 17 [SL ws, .sc (.int .i64 v)] []) = some (.val (int (movedP ws v)) []) := by
  rw [ev_eq]
  have h := e36 ws hw
  simp only [bool] at h
  unfold movedP
  cases hb : blks ws with
  | none =>
    have hs : heapS ws = false := by simp [heapS, hb]
    simp [ir17, h, hs]
  | some l =>
    obtain ⟨h1, hc⟩ := blks_chain hb
    cases hs : heapS ws with
    | false => simp [ir17, h, hs]
    | true =>
      have h41 := e41 ws hw l hc v
      simp only [int, bool] at h41
      cases hk : blockS ws l v with
      | false => simp [ir17, h, hs, h41, hk]
      | true =>
        have hm := hc.mem (blockS_mem hk)
        have h42 := e42 ws hw l hc v hm.2.1
        simp only [int] at h42
        simp [ir17, h, hs, h41, hk, h42]
end Go.Pv

namespace Go.Pv
set_option maxRecDepth 8000
set_option maxHeartbeats 2000000
set_option linter.unusedSimpArgs false
set_option linter.unusedVariables false
theorem lp72 (ws : List Int) (hw : ws.length ≤ 2000) : ∀ (n : Nat) (a : Int) (acc : List Int), 0 ≤ a → ws.length - a ≤ n → (acc.length : Int) ≤ a →
    match walk ws n a with
    | some l => ev EE (.loop lp72_0 [1, 4, 5] [2, 3, 4] { np := 0, tm := [(1, .bx 0 0), (4, rowV acc), (5, int a)], ar := rowA acc, bx := [(0, .b [IS ws])] }) =
      some (.out (.exit 0) { np := 0, tm := [(4, rowV (acc ++ l))], ar := rowA (acc ++ l), bx := [] })
    | none => ∃ acc', ev EE (.loop lp72_0 [1, 4, 5] [2, 3, 4] { np := 0, tm := [(1, .bx 0 0), (4, rowV acc), (5, int a)], ar := rowA acc, bx := [(0, .b [IS ws])] }) =
      some (.out .ret { np := 0, tm := [(2, .ls true []), (3, bool false), (4, rowV acc')], ar := rowA acc', bx := [] })
  | 0, a, acc, h0, h1, h2 => by
    have : ¬ (a < ws.length) := by omega
    simp only [walk, this, if_false]
    rw [ev_loop EE lp72_0.eq_1]
    cases acc with
    | nil => simp [this]
    | cons x acc => simp [this]
  | n + 1, a, acc, h0, h1, h2 => by
    rw [ev_loop EE lp72_0.eq_1]
    unfold walk
    by_cases h3 : a < ws.length
    · rw [if_pos h3]
      have g1 := ints_getI ws a h0 h3
      have w1 := wrap64_id (ws.length - a) (by omega) (by omega)
      by_cases h4 : 2 ≤ wI ws a / 8 ∧ wI ws a / 8 ≤ ws.length - a
      · by_cases h5 : wI ws a % 8 ≤ 5
        · rw [if_pos ⟨h4.1, h4.2, h5⟩]
          have h6 : ¬ (5 < wI ws a % 8) := by omega
          have w2 := wrap64_id (a + wI ws a / 8) (by omega) (by omega)
          have ih := lp72 ws hw n (a + wI ws a / 8) (acc ++ [a]) (by omega) (by omega) (by simp; omega)
          cases hk : walk ws n (a + wI ws a / 8) with
          | none =>
            rw [hk] at ih
            obtain ⟨acc', ih⟩ := ih
            refine ⟨acc', ?_⟩
            simp only [int, bool] at ih
            cases acc with
            | nil =>
              simp at ih
              simp (decide := true) [h0, h3, g1, w1, h4, h6, w2, ih, rowX, rowY, cloLs, cloL, clo1, setEls, lim, maxB]
            | cons y acc =>
              simp at ih h2
              have hl : (acc.length + 1 + 1) * 8 ≤ 140737488351232 := by omega
              simp (decide := true) [h0, h3, g1, w1, h4, h6, w2, ih, hl, rowX, rowY, cloLs, cloL, clo1, setEls, lim, maxB]
          | some l =>
            rw [hk] at ih
            simp only [int, bool] at ih
            simp only [Option.map_some]
            cases acc with
            | nil =>
              simp at ih
              simp (decide := true) [h0, h3, g1, w1, h4, h6, w2, ih, rowX, rowY, cloLs, cloL, clo1, setEls, lim, maxB]
            | cons y acc =>
              simp at ih h2
              have hl : (acc.length + 1 + 1) * 8 ≤ 140737488351232 := by omega
              simp (decide := true) [h0, h3, g1, w1, h4, h6, w2, ih, hl, rowX, rowY, cloLs, cloL, clo1, setEls, lim, maxB]
        · rw [if_neg (by omega)]
          have h6 : 5 < wI ws a % 8 := by omega
          refine ⟨acc, ?_⟩
          cases acc with
          | nil => simp (decide := true) [h0, h3, g1, w1, h4, h6]
          | cons y acc => simp (decide := true) [h0, h3, g1, w1, h4, h6]
      · rw [if_neg (by omega)]
        refine ⟨acc, ?_⟩
        cases acc with
        | nil => simp (decide := true) [h0, h3, g1, w1, h4]
        | cons y acc => simp (decide := true) [h0, h3, g1, w1, h4]
    · rw [if_neg h3]
      cases acc with
      | nil => simp [h3]
      | cons y acc => simp [h3]
end Go.Pv

namespace Go.Pv
set_option maxRecDepth 8000
set_option maxHeartbeats 2000000
set_option linter.unusedSimpArgs false
set_option linter.unusedVariables false
theorem e72 (ws : List Int) : ev EE (.call 72 [SL ws] []) = some (.val (match blks ws with | some l => .tu [.ls true (ints l), bool true] | none => .tu [.ls true [], bool false]) []) := by
  rw [ev_eq]
  unfold blks
  by_cases hw : ws.length ≤ 2000
  · have h1 : ¬ ((2000 : Int) < ws.length) := by omega
    have h := lp72 ws hw ws.length 0 [] (by omega) (by omega) (by simp)
    rw [if_pos hw]
    cases hk : walk ws ws.length 0 with
    | none =>
      rw [hk] at h
      obtain ⟨acc', h⟩ := h
      simp only [int, bool, rowV_nil, rowA_nil] at h
      simp [ir72, h1, h]
    | some l =>
      rw [hk] at h
      simp only [int, bool, rowV_nil, rowA_nil, List.nil_append] at h
      cases l with
      | nil =>
        simp [ir72, h1, h]
        rfl
      | cons x l => simp [ir72, h1, h]
  · have h1 : (2000 : Int) < ws.length := by omega
    simp [ir72, h1, hw]
theorem e40 (ws : List Int) : ev EE (.call 40 [SL ws] []) = some (.val (.ls true (ints ((blks ws).getD []))) []) := by
  rw [ev_eq]
  have h := e72 ws
  cases hb : blks ws with
  | none =>
    simp [hb] at h
    simp [ir40, h]
    rfl
  | some l =>
    simp [hb] at h
    simp [ir40, h]
/-! the kinds of all blocks -/
def fillN : Nat → List Int → Int → List Int
  | 0, xs, _ => xs
  | m + 1, xs, i => fillN m (xs.set i.toNat (-1)) (i + 1)
def fillK (ws l : List Int) : Nat → List Int → Int → List Int
  | 0, xs, _ => xs
  | m + 1, xs, i => fillK ws l m (xs.set (wI l i).toNat (wI ws (wI l i) % 8)) (i + 1)
theorem fillN_len : ∀ (m : Nat) (xs : List Int) (i : Int), (fillN m xs i).length = xs.length
  | 0, xs, i => rfl
  | m + 1, xs, i => by simp [fillN, fillN_len m]
theorem fillK_len (ws l : List Int) : ∀ (m : Nat) (xs : List Int) (i : Int), (fillK ws l m xs i).length = xs.length
  | 0, xs, i => rfl
  | m + 1, xs, i => by simp [fillK, fillK_len ws l m]
theorem wI_set (xs : List Int) (i j x : Int) (hi : 0 ≤ i) (hi2 : i < xs.length) (hj : 0 ≤ j) : wI (xs.set i.toNat x) j = if j = i then x else wI xs j := by
  unfold wI
  by_cases h : j = i
  · subst h
    simp [show j.toNat < xs.length by omega]
  · have : i.toNat ≠ j.toNat := by omega
    simp [h, this]
theorem fillN_wI : ∀ (m : Nat) (xs : List Int) (i j : Int), 0 ≤ i → i + m ≤ xs.length → 0 ≤ j → wI (fillN m xs i) j = if i ≤ j ∧ j < i + m then -1 else wI xs j
  | 0, xs, i, j, h0, h1, h2 => by
    have : ¬ (i ≤ j ∧ j < i + (0 : Nat)) := by omega
    simp only [fillN, this, if_false]
  | m + 1, xs, i, j, h0, h1, h2 => by
    simp only [fillN]
    rw [fillN_wI m _ (i + 1) j (by omega) (by simp; omega) h2, wI_set xs i j _ h0 (by omega) h2]
    by_cases h3 : j = i
    · have h4 : ¬ (i + 1 ≤ j ∧ j < i + 1 + m) := by omega
      have h5 : i ≤ j ∧ j < i + (m + 1 : Nat) := by omega
      rw [if_neg h4, if_pos h3, if_pos h5]
    · rw [if_neg h3]
      by_cases h4 : i + 1 ≤ j ∧ j < i + 1 + m
      · rw [if_pos h4, if_pos (by omega)]
      · rw [if_neg h4, if_neg (by omega)]
theorem fillK_wI (ws l : List Int) (N : Nat) (hl : ∀ x ∈ l, 0 ≤ x ∧ x < N) : ∀ (m : Nat) (xs : List Int) (i j : Int), xs.length = N → 0 ≤ i → i + m = l.length → 0 ≤ j → wI (fillK ws l m xs i) j = if j ∈ l.drop i.toNat then wI ws j % 8 else wI xs j
  | 0, xs, i, j, hx, h0, h1, h2 => by
    rw [List.drop_eq_nil_of_le (by omega)]
    simp [fillK]
  | m + 1, xs, i, j, hx, h0, h1, h2 => by
    have h3 : i.toNat < l.length := by omega
    have h4 : wI l i = l[i.toNat] := by simp [wI, h3]
    have hm := hl _ (wI_mem h0 (by omega : i < l.length))
    simp only [fillK]
    rw [fillK_wI ws l N hl m _ (i + 1) j (by simp [hx]) (by omega) (by omega) h2, wI_set xs _ j _ hm.1 (by omega) h2, show (i + 1).toNat = i.toNat + 1 by omega]
    have hmem : j ∈ l.drop i.toNat ↔ j = wI l i ∨ j ∈ l.drop (i.toNat + 1) := by rw [List.drop_eq_getElem_cons h3, List.mem_cons, h4]
    by_cases h5 : j ∈ l.drop (i.toNat + 1)
    · rw [if_pos h5, if_pos (hmem.2 (.inr h5))]
    · rw [if_neg h5]
      by_cases h6 : j = wI l i
      · rw [if_pos h6, if_pos (hmem.2 (.inl h6)), h6]
      · rw [if_neg h6, if_neg (by rw [hmem]; rintro (h7 | h7); exact h6 h7; exact h5 h7)]
def kindsP (ws : List Int) : List Int := fillK ws ((blks ws).getD []) ((blks ws).getD []).length (fillN ws.length (List.replicate ws.length 0) 0) 0
theorem lp44_1' (ws : List Int) (N : Nat) (hN : N ≤ 1048576) : ∀ (m : Nat) (xs : List Int) (i : Int), xs.length = N → 0 ≤ i → i + m = N →
    ev EE (.loop lp44_1 [1, 3, 12, 13] [1, 2, 3] { np := 0, tm := [(1, .bx 0 0), (3, .rf 0 0 N), (12, int N), (13, int i)], ar := [(0, .a false (ints xs))], bx := [(0, .b [IS ws])] }) =
    some (.out (.exit 0) { np := 0, tm := [(1, .bx 0 0), (3, .rf 0 0 N)], ar := [(0, .a false (ints (fillN m xs i)))], bx := [(0, .b [IS ws])] })
  | 0, xs, i, hx, h0, h1 => by
    rw [ev_loop EE lp44_1.eq_1]
    have : ¬ (i < N) := by omega
    simp [this, fillN]
  | m + 1, xs, i, hx, h0, h1 => by
    rw [ev_loop EE lp44_1.eq_1]
    have h2 : i < N := by omega
    have h3 : i < xs.length := by omega
    have g1 := ints_getI xs i h0 h3
    have w1 := wrap64_id (i + 1) (by omega) (by omega)
    have ih := lp44_1' ws N hN m (xs.set i.toNat (-1)) (i + 1) (by simp [hx]) (by omega) (by omega)
    simp only [int] at ih
    subst hx
    simp (decide := true) [h0, h2, g1, w1, ih, fillN, one1, clo1, cloL]
theorem lp44_0' (ws : List Int) (hw : ws.length ≤ 1048576) (l : List Int) (hl : ∀ x ∈ l, 0 ≤ x ∧ x < ws.length) (hl2 : l.length ≤ 1048576) : ∀ (m : Nat) (xs : List Int) (i : Int), xs.length = ws.length → 0 ≤ i → i + m = l.length →
    ev EE (.loop lp44_0 [1, 3, 21, 22, 23] [2, 3] { np := 0, tm := [(1, .bx 0 0), (3, .rf 0 0 ws.length), (21, .rf 1 0 l.length), (22, int l.length), (23, int i)], ar := [(0, .a false (ints xs)), (1, .a false (ints l))], bx := [(0, .b [IS ws])] }) =
    some (.out (.exit 2) { np := 0, tm := [(3, .rf 0 0 ws.length)], ar := [(0, .a false (ints (fillK ws l m xs i)))], bx := [] })
  | 0, xs, i, hx, h0, h1 => by
    rw [ev_loop EE lp44_0.eq_1]
    have : ¬ (i < l.length) := by omega
    simp [this, fillK]
  | m + 1, xs, i, hx, h0, h1 => by
    rw [ev_loop EE lp44_0.eq_1]
    have h2 : i < l.length := by omega
    have hm := hl _ (wI_mem h0 h2)
    have g1 := ints_getI l i h0 h2
    have g2 := ints_getI ws (wI l i) hm.1 hm.2
    have g3 := ints_getI xs (wI l i) hm.1 (by omega)
    have b3 : wI l i < xs.length := by omega
    have w1 := wrap64_id (i + 1) (by omega) (by omega)
    have ih := lp44_0' ws hw l hl hl2 m (xs.set (wI l i).toNat (wI ws (wI l i) % 8)) (i + 1) (by simp [hx]) (by omega) (by omega)
    simp only [int] at ih
    simp (decide := true) [h0, h2, hm, b3, hx, g1, g2, g3, w1, ih, fillK, one1, clo1, cloL]
theorem e44 (ws : List Int) (hw : ws.length ≤ 1048576) : ev EE (.call 44 [SL ws] []) = some (.val (.ls true (ints (kindsP ws))) []) := by
  rw [ev_eq]
  have h40 := e40 ws
  have hl : ∀ x ∈ (blks ws).getD [], 0 ≤ x ∧ x < ws.length := by
    intro x hx
    cases hb : blks ws with
    | none => rw [hb] at hx; simp at hx
    | some l =>
      rw [hb] at hx
      have := (blks_chain hb).2.mem hx
      exact ⟨this.1, this.2.1⟩
  have hl2 : ((blks ws).getD []).length ≤ 1048576 := by
    cases hb : blks ws with
    | none => simp
    | some l =>
      have := (blks_chain hb).2.len (by omega)
      simp; omega
  have h1 := lp44_1' ws ws.length (by omega) ws.length (List.replicate ws.length 0) 0 (by simp) (by omega) (by omega)
  have h2 := lp44_0' ws hw ((blks ws).getD []) hl hl2 ((blks ws).getD []).length (fillN ws.length (List.replicate ws.length 0) 0) 0 (by simp [fillN_len]) (by omega) (by omega)
  unfold kindsP
  generalize (blks ws).getD [] = l at *
  simp only [int] at h1 h2
  have b1 : ws.length * 8 ≤ 140737488351232 := by omega
  have b2 : (0 : Int) ≤ ws.length := by omega
  simp (decide := true) [ir44, h40, h1, h2, natOf, lim, maxB, b1, b2, clo1, fillN_len, fillK_len]
  rw [List.take_of_length_le (by simp [fillN_len, fillK_len])]
def KindsOk (ws l all : List Int) : Prop := all.length = ws.length ∧ ∀ j : Int, 0 ≤ j → j < ws.length → wI all j = if j ∈ l then wI ws j % 8 else -1
theorem kindsP_ok {ws l : List Int} (h : blks ws = some l) : KindsOk ws l (kindsP ws) := by
  unfold kindsP
  rw [h]
  simp only [Option.getD_some]
  have hc := (blks_chain h).2
  refine ⟨by simp [fillN_len, fillK_len], ?_⟩
  intro j h0 h1
  rw [fillK_wI ws l ws.length (fun x hx => by have := hc.mem hx; exact ⟨this.1, this.2.1⟩) _ _ _ _ (by simp [fillN_len]) (by omega) (by omega) h0]
  have : (0 : Int).toNat = 0 := rfl
  simp only [this, List.drop_zero]
  by_cases h2 : j ∈ l
  · rw [if_pos h2, if_pos h2]
  · rw [if_neg h2, if_neg h2, fillN_wI _ _ _ _ (by omega) (by simp) h0, if_pos (by omega)]
theorem KindsOk.at {ws l all : List Int} (h : KindsOk ws l all) {a : Int} (h0 : 0 ≤ a) (h1 : a < ws.length) {b : Int} (hb : 0 ≤ b) : decide (wI all a = b) = (decide (a ∈ l) && decide (wI ws a % 8 = b)) := by
  rw [h.2 a h0 h1]
  by_cases h2 : a ∈ l
  · simp [h2]
  · have : ¬ (-1 = b) := by omega
    simp [h2, this]
theorem e104 (ws l all : List Int) (hw : ws.length ≤ 1048576) (hc : Chain ws 0 l) (hk : KindsOk ws l all) (v k b : Int) (hb : 0 ≤ b) : ev EE (.call 104 [IS all, int v, int k, int b] []) = some (.val (bool (decide (v % 8 = k) && toB ws l v b)) []) := by
  rw [ev_eq]
  have hlen := hk.1
  have w1 := wrap64_id (ws.length - 1) (by omega) (by omega)
  unfold toB
  by_cases h1 : v % 8 = k
  · by_cases h2 : 0 ≤ v / 8 ∧ v / 8 < ws.length
    · have h3 : 0 ≤ v / 8 ∧ v / 8 ≤ (ws.length : Int) - 1 := by omega
      have g1 := ints_getI all (v / 8) h2.1 (by omega)
      have h4 := hk.at h2.1 h2.2 hb
      simp (decide := true) [ir104, h1, h2, h3, hlen, w1, g1, h4]
    · have h3 : ¬ (0 ≤ v / 8 ∧ v / 8 ≤ (ws.length : Int) - 1) := by omega
      have h4 : ¬ (v / 8 ∈ l) := by
        intro h5
        have := hc.mem h5
        omega
      simp (decide := true) [ir104, h1, h3, hlen, w1, h4]
  · simp (decide := true) [ir104, h1]
def plainI (ws l : List Int) (v : Int) : Bool :=
  if v % 8 = 4 then toB ws l v 1 else if v % 8 = 5 then toB ws l v 2 else if v % 8 = 6 then toB ws l v 4 else decide (v % 8 ≠ 7) && vOk v
theorem e106 (ws l all : List Int) (hw : ws.length ≤ 1048576) (hc : Chain ws 0 l) (hk : KindsOk ws l all) (v : Int) : ev EE (.call 106 [IS all, int v] []) = some (.val (bool (plainI ws l v)) []) := by
  rw [ev_eq]
  unfold plainI
  by_cases h4 : v % 8 = 4
  · have h := e104 ws l all hw hc hk v 4 1 (by omega)
    simp only [int, bool] at h
    simp (decide := true) [ir106, h4, h]
  by_cases h5 : v % 8 = 5
  · have h := e104 ws l all hw hc hk v 5 2 (by omega)
    simp only [int, bool] at h
    simp (decide := true) [ir106, h4, h5, h]
  by_cases h6 : v % 8 = 6
  · have h := e104 ws l all hw hc hk v 6 4 (by omega)
    simp only [int, bool] at h
    simp (decide := true) [ir106, h4, h5, h6, h]
  by_cases h7 : v % 8 = 7
  · simp (decide := true) [ir106, h4, h5, h6, h7]
  · simp (decide := true) [ir106, h4, h5, h6, h7]
def leadsI (ws l : List Int) (v : Int) : Bool :=
  if v % 8 = 4 then toB ws l v 1 else if v % 8 = 5 then toB ws l v 2 else if v % 8 = 6 then toB ws l v 4 else if v % 8 = 7 then toB ws l v 3 || toB ws l v 5 else false
theorem e82 (ws l all : List Int) (hw : ws.length ≤ 1048576) (hc : Chain ws 0 l) (hk : KindsOk ws l all) (v : Int) : ev EE (.call 82 [IS all, int v] []) = some (.val (bool (leadsI ws l v)) []) := by
  rw [ev_eq]
  unfold leadsI
  by_cases h4 : v % 8 = 4
  · have h := e104 ws l all hw hc hk v 4 1 (by omega)
    simp only [int, bool] at h
    simp (decide := true) [ir82, h4, h]
  by_cases h5 : v % 8 = 5
  · have h := e104 ws l all hw hc hk v 5 2 (by omega)
    simp only [int, bool] at h
    simp (decide := true) [ir82, h4, h5, h]
  by_cases h6 : v % 8 = 6
  · have h := e104 ws l all hw hc hk v 6 4 (by omega)
    simp only [int, bool] at h
    simp (decide := true) [ir82, h4, h5, h6, h]
  by_cases h7 : v % 8 = 7
  · have h := e104 ws l all hw hc hk v 7 3 (by omega)
    have h' := e104 ws l all hw hc hk v 7 5 (by omega)
    simp only [int, bool] at h h'
    by_cases hq : toB ws l v 3 = true
    · simp (decide := true) [ir82, h4, h5, h6, h7, h, hq]
    · simp (decide := true) [ir82, h4, h5, h6, h7, h, h', hq]
  · simp (decide := true) [ir82, h4, h5, h6, h7]
end Go.Pv

namespace Go.Pv
set_option maxRecDepth 8000
set_option maxHeartbeats 2000000
set_option linter.unusedSimpArgs false
set_option linter.unusedVariables false
/-- a part of the words -/
def subI (ws : List Int) (a n : Int) : List Int := (ws.drop a.toNat).take n.toNat
theorem subI_len (ws : List Int) (a n : Int) (h0 : 0 ≤ a) (h1 : 0 ≤ n) (h2 : a + n ≤ ws.length) : ((subI ws a n).length : Int) = n := by
  simp [subI]; omega
theorem subI_wI (ws : List Int) (a n i : Int) (h0 : 0 ≤ a) (h1 : 0 ≤ i) (h2 : i < n) (h3 : a + n ≤ ws.length) : wI (subI ws a n) i = wI ws (a + i) := by
  have e : (a + i).toNat = a.toNat + i.toNat := by omega
  have h4 : i.toNat < n.toNat := by omega
  have h5 : a.toNat + i.toNat < ws.length := by omega
  simp [subI, wI, e, h4, h5]
def textR (n : Int) (ys : List Int) : Nat → Int → Bool
  | 0, _ => true
  | m + 1, i => decide (0 ≤ wI ys i ∧ wI ys i ≤ 255) && (decide (i < n) || decide (wI ys i = 0)) && textR n ys m (i + 1)
theorem lp105 (ys : List Int) (hy : ys.length ≤ 1048576) (n : Int) : ∀ (m : Nat) (i : Int), 0 ≤ i → i + m = ys.length →
    ev EE (.loop lp105_0 [3, 16, 17, 18] [2] { np := 0, tm := [(3, int n), (16, IS ys), (17, int ys.length), (18, int i)], ar := [], bx := [] }) =
    if textR n ys m i then some (.out (.exit 0) { np := 0, tm := [], ar := [], bx := [] }) else some (.out .ret { np := 0, tm := [(2, bool false)], ar := [], bx := [] })
  | 0, i, h0, h1 => by
    rw [ev_loop EE lp105_0.eq_1]
    have : ¬ (i < ys.length) := by omega
    simp [this, textR]
  | m + 1, i, h0, h1 => by
    rw [ev_loop EE lp105_0.eq_1]
    have h2 : i < ys.length := by omega
    have g1 := ints_getI ys i h0 h2
    have w1 := wrap64_id (i + 1) (by omega) (by omega)
    have ih := lp105 ys hy n m (i + 1) (by omega) (by omega)
    simp only [int, bool] at ih
    by_cases k1 : 0 ≤ wI ys i ∧ wI ys i ≤ 255
    · by_cases k2 : i < n
      · have k3 : ¬ (n ≤ i) := by omega
        by_cases hr : textR n ys m (i + 1) = true
        · simp (decide := true) [h0, h2, g1, w1, k1, k2, k3, ih, hr, textR]
        · simp (decide := true) [h0, h2, g1, w1, k1, k2, k3, ih, hr, textR]
      · have k3 : n ≤ i := by omega
        by_cases k4 : wI ys i = 0
        · by_cases hr : textR n ys m (i + 1) = true
          · simp (decide := true) [h0, h2, g1, w1, k1, k2, k3, k4, ih, hr, textR]
          · simp (decide := true) [h0, h2, g1, w1, k1, k2, k3, k4, ih, hr, textR]
        · simp (decide := true) [h0, h2, g1, w1, k1, k2, k3, k4, textR]
    · simp (decide := true) [h0, h2, g1, w1, k1, textR]
def textI (w : List Int) : Bool := decide (0 ≤ wI w 1 ∧ wI w 1 ≤ w.length - 2) && textR (wI w 1) (subI w 2 (w.length - 2)) (w.length - 2) 0
theorem e105 (w : List Int) (h2 : 2 ≤ w.length) (hw : w.length ≤ 1048576) : ev EE (.call 105 [IS w] []) = some (.val (bool (textI w)) []) := by
  rw [ev_eq]
  have g1 := ints_getI w 1 (by omega) (by omega)
  have b1 : (1 : Int) < w.length := by omega
  have b1' : 1 < w.length := by omega
  have b2 : 2 ≤ w.length := by omega
  have w1 := wrap64_id (w.length - 2) (by omega) (by omega)
  have hl := subI_len w 2 (w.length - 2) (by omega) (by omega) (by omega)
  have h := lp105 (subI w 2 (w.length - 2)) (by omega) (wI w 1) (w.length - 2) 0 (by omega) (by omega)
  rw [hl] at h
  have hs : (w.drop 2).take (w.length - 2) = subI w 2 (w.length - 2) := by
    simp only [subI]
    congr 1
    omega
  have hl2 : min (w.length - 2) (w.length - 2) = w.length - 2 := by omega
  have hl3 : (subI w 2 (w.length - 2)).length = w.length - 2 := by omega
  have hl4 : ((w.length - 2 : Nat) : Int) = (w.length : Int) - 2 := by omega
  have g1' : ∀ h : 1 < (ints w).length, (ints w)[1] = [.sc (.int .i64 (wI w 1))] := fun h => ints_getE w 1 h
  simp only [int, bool] at h
  unfold textI
  by_cases k1 : 0 ≤ wI w 1 ∧ wI w 1 ≤ w.length - 2
  · by_cases hr : textR (wI w 1) (subI w 2 (w.length - 2)) (w.length - 2) 0 = true
    · simp [hr] at h
      simp (decide := true) [ir105, g1', b1, b1', b2, w1, k1, optN, natOf, hs, hl3, hl4, h, hr]
    · simp [hr] at h
      simp (decide := true) [ir105, g1', b1, b1', b2, w1, k1, optN, natOf, hs, hl3, hl4, h, hr]
  · simp (decide := true) [ir105, g1', b1, b1', w1, k1]
theorem e102 (w : List Int) (hw : w.length ≤ 1048576) (n : Int) (h0 : 0 ≤ n) (h1 : n ≤ 1048576) : ev EE (.call 102 [int n, .bx 0 0] [.b [IS w]]) = some (.val (bool (decide (w.length = n) || (decide (w.length = n + 1) && decide (wI w n = 0)))) [.b [IS w]]) := by
  rw [ev_eq]
  have w1 := wrap64_id (n + 1) (by omega) (by omega)
  by_cases k1 : (w.length : Int) = n
  · subst k1
    simp (decide := true) [ir102]
  · by_cases k2 : (w.length : Int) = n + 1
    · have b1 : n < w.length := by omega
      have g1 := ints_getI w n h0 b1
      obtain ⟨L, hL⟩ : ∃ L : Int, L = w.length := ⟨_, rfl⟩
      rw [← hL] at k1 k2 b1 ⊢
      have k3 : ¬ (n + 1 = n) := by omega
      subst k2
      simp (decide := true) [ir102, ← hL, k3, w1, h0, b1, g1]
    · simp (decide := true) [ir102, k1, k2, w1]
def innerI (ws l : List Int) (v b : Int) : Bool := decide (v = 0) || (decide (v % 8 = 7) && toB ws l v b)
theorem e103 (ws l all : List Int) (hw : ws.length ≤ 1048576) (hc : Chain ws 0 l) (hk : KindsOk ws l all) (v b : Int) (hb : 0 ≤ b) : ev EE (.call 103 [int v, int b, .bx 0 0] [.b [IS all]]) = some (.val (bool (innerI ws l v b)) [.b [IS all]]) := by
  rw [ev_eq]
  have h := e104 ws l all hw hc hk v 7 b hb
  simp only [int, bool] at h
  unfold innerI
  by_cases k1 : v = 0
  · simp (decide := true) [ir103, k1]
  · simp (decide := true) [ir103, k1, h]
theorem e107 (ws l all : List Int) (hw : ws.length ≤ 1048576) (hc : Chain ws 0 l) (hk : KindsOk ws l all) (v : Int) : ev EE (.call 107 [int v, .bx 0 0] [.b [IS all]]) = some (.val (bool (!plainI ws l v)) [.b [IS all]]) := by
  rw [ev_eq]
  have h := e106 ws l all hw hc hk v
  simp only [int, bool] at h
  simp (decide := true) [ir107, h]
/-- the first place where something holds -/
def findR (p : Int → Bool) (xs : List Int) : Nat → Int → Int
  | 0, _ => -1
  | m + 1, i => if p (wI xs i) then i else findR p xs m (i + 1)
theorem findR_any (p : Int → Bool) (xs : List Int) : ∀ (m : Nat) (i : Int), 0 ≤ i → decide (0 ≤ findR p xs m i) = !allR (fun x => !p x) xs m i
  | 0, i, h => by simp [findR, allR]
  | m + 1, i, h => by
    simp only [findR, allR]
    by_cases hp : p (wI xs i) = true
    · simp [h, hp]
    · simp [findR_any p xs m (i + 1) (by omega), hp]
theorem lp101a (all : List Int) (xs : List Int) (hx : xs.length ≤ 1048576) (p : Int → Bool) (hp : ∀ v, ev EE (.call 107 [int v, .bx 0 0] [.b [IS all]]) = some (.val (bool (p v)) [.b [IS all]])) : ∀ (m : Nat) (i : Int), 0 ≤ i → i + m = xs.length →
    ev EE (.loop lp101_0 [0, 1, 7, 8] [4] { np := 1, tm := [(0, IS xs), (1, .fn 107 [.bx 0 0]), (7, int xs.length), (8, int i)], ar := [], bx := [(0, .b [IS all])] }) =
    if 0 ≤ findR p xs m i then some (.out .ret { np := 1, tm := [(4, int (findR p xs m i))], ar := [], bx := [(0, .b [IS all])] }) else some (.out (.exit 0) { np := 1, tm := [], ar := [], bx := [(0, .b [IS all])] })
  | 0, i, h0, h1 => by
    rw [ev_loop EE lp101_0.eq_1]
    have : ¬ (i < xs.length) := by omega
    simp [this, findR]
  | m + 1, i, h0, h1 => by
    rw [ev_loop EE lp101_0.eq_1]
    have h2 : i < xs.length := by omega
    have g1 := ints_getI xs i h0 h2
    have w1 := wrap64_id (i + 1) (by omega) (by omega)
    have hq := hp (wI xs i)
    have ih := lp101a all xs hx p hp m (i + 1) (by omega) (by omega)
    simp only [int, bool] at ih hq
    by_cases k : p (wI xs i) = true
    · simp (decide := true) [h0, h2, g1, hq, k, findR]
    · by_cases k2 : 0 ≤ findR p xs m (i + 1)
      · simp (decide := true) [h0, h2, g1, hq, k, w1, ih, k2, findR]
      · simp (decide := true) [h0, h2, g1, hq, k, w1, ih, k2, findR]
theorem e101a (all : List Int) (xs : List Int) (hx : xs.length ≤ 1048576) (p : Int → Bool) (hp : ∀ v, ev EE (.call 107 [int v, .bx 0 0] [.b [IS all]]) = some (.val (bool (p v)) [.b [IS all]])) :
    ev EE (.call 101 [IS xs, .fn 107 [.bx 0 0]] [.b [IS all]]) = some (.val (int (findR p xs xs.length 0)) [.b [IS all]]) := by
  rw [ev_eq]
  have h := lp101a all xs hx p hp xs.length 0 (by omega) (by omega)
  simp only [int, bool] at h
  by_cases k2 : 0 ≤ findR p xs xs.length 0
  · simp [k2] at h
    simp (decide := true) [ir101, h]
  · have k3 : findR p xs xs.length 0 = -1 := by
      have : ∀ (m : Nat) (i : Int), 0 ≤ i → 0 ≤ findR p xs m i ∨ findR p xs m i = -1 := by
        intro m
        induction m with
        | zero => intro i _; exact .inr rfl
        | succ m ih =>
          intro i hi
          simp only [findR]
          split
          · exact .inl hi
          · exact ih _ (by omega)
      rcases this xs.length 0 (by omega) with h5 | h5
      · exact absurd h5 k2
      · exact h5
    simp [k3] at h
    simp (decide := true) [ir101, h, k3]
theorem e73a (all : List Int) (xs : List Int) (hx : xs.length ≤ 1048576) (p : Int → Bool) (hp : ∀ v, ev EE (.call 107 [int v, .bx 0 0] [.b [IS all]]) = some (.val (bool (p v)) [.b [IS all]])) :
    ev EE (.call 73 [IS xs, .fn 107 [.bx 0 0]] [.b [IS all]]) = some (.val (bool (xs.any p)) [.b [IS all]]) := by
  rw [ev_eq]
  have h := e101a all xs hx p hp
  have h2 := findR_any p xs xs.length 0 (by omega)
  rw [allR_all] at h2
  have h3 : (xs.any p) = decide (0 ≤ findR p xs xs.length 0) := by
    rw [h2, List.not_all_eq_any_not]
    simp
  simp only [int, bool] at h
  rw [h3]
  simp (decide := true) [ir73, h]
end Go.Pv
