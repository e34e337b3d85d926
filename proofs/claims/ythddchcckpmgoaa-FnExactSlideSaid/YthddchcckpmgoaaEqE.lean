/- Proof: what the functions evaluate to: where blocks go. No condition. -/
import Derived.Test.YthddchcckpmgoaaEqD
set_option autoImplicit true
set_option relaxedAutoImplicit true
set_option linter.unusedSimpArgs false
set_option linter.unusedVariables false
namespace Go.Pv
set_option maxRecDepth 8000
set_option maxHeartbeats 4000000
set_option linter.unusedSimpArgs false
set_option linter.unusedVariables false
theorem e75I (ws l all : List Int) (hw : ws.length ≤ 1048576) (hc : Chain ws 0 l) (hk : KindsOk ws l all) (a : Int) (ha : a ∈ l) : ev EE (.call 75 [SL ws, IS all, int a] []) = some (.val (bool (shapeI ws l a)) []) := by
  have h5 := (hc.mem ha).2.2.2.2
  have : wI ws a % 8 = 0 ∨ wI ws a % 8 = 1 ∨ wI ws a % 8 = 2 ∨ wI ws a % 8 = 3 ∨ wI ws a % 8 = 4 ∨ wI ws a % 8 = 5 := by omega
  rcases this with k | k | k | k | k | k
  · exact e75_0 ws l all hw hc hk a ha k
  · exact e75_1 ws l all hw hc hk a ha k
  · exact e75_2 ws l all hw hc hk a ha k
  · exact e75_3 ws l all hw hc hk a ha k
  · exact e75_4 ws l all hw hc hk a ha k
  · exact e75_5 ws l all hw hc hk a ha k
theorem zeroR_iff (ws : List Int) : ∀ (m : Nat) (i : Int), zeroR ws m i = true ↔ ∀ j, i ≤ j → j < i + m → wI ws j = 0
  | 0, i => by simp [zeroR]; omega
  | m + 1, i => by
    simp only [zeroR, Bool.and_eq_true, decide_eq_true_eq, zeroR_iff ws m (i + 1)]
    constructor
    · rintro ⟨h1, h2⟩ j h3 h4
      by_cases h : j = i
      · rw [h]; exact h1
      · exact h2 j (by omega) (by omega)
    · intro h
      exact ⟨h i (by omega) (by omega), fun j h3 h4 => h j (by omega) (by omega)⟩
theorem byteR_iff (ws : List Int) : ∀ (m : Nat) (i : Int), byteR ws m i = true ↔ ∀ j, i ≤ j → j < i + m → 0 ≤ wI ws j ∧ wI ws j ≤ 255
  | 0, i => by simp [byteR]; omega
  | m + 1, i => by
    simp only [byteR, Bool.and_eq_true, decide_eq_true_eq, byteR_iff ws m (i + 1)]
    constructor
    · rintro ⟨h1, h2⟩ j h3 h4
      by_cases h : j = i
      · rw [h]; exact h1
      · exact h2 j (by omega) (by omega)
    · intro h
      exact ⟨h i (by omega) (by omega), fun j h3 h4 => h j (by omega) (by omega)⟩
theorem textR_iff (n : Int) (ys : List Int) : ∀ (m : Nat) (i : Int), textR n ys m i = true ↔ ∀ j, i ≤ j → j < i + m → (0 ≤ wI ys j ∧ wI ys j ≤ 255) ∧ (j < n ∨ wI ys j = 0)
  | 0, i => by simp [textR]; omega
  | m + 1, i => by
    simp only [textR, Bool.and_eq_true, Bool.or_eq_true, decide_eq_true_eq, textR_iff n ys m (i + 1)]
    constructor
    · rintro ⟨h1, h2⟩ j h3 h4
      by_cases h : j = i
      · rw [h]; exact h1
      · exact h2 j (by omega) (by omega)
    · intro h
      exact ⟨h i (by omega) (by omega), fun j h3 h4 => h j (by omega) (by omega)⟩
theorem plainR_iff (ws l : List Int) : ∀ (m : Nat) (i : Int), plainR ws l m i = true ↔ ∀ j, i ≤ j → j < i + m → plainS ws l (wI ws j) = true
  | 0, i => by simp [plainR]; omega
  | m + 1, i => by
    simp only [plainR, Bool.and_eq_true, plainR_iff ws l m (i + 1)]
    constructor
    · rintro ⟨h1, h2⟩ j h3 h4
      by_cases h : j = i
      · rw [h]; exact h1
      · exact h2 j (by omega) (by omega)
    · intro h
      exact ⟨h i (by omega) (by omega), fun j h3 h4 => h j (by omega) (by omega)⟩
theorem allR_iff (p : Int → Bool) (xs : List Int) : ∀ (m : Nat) (i : Int), allR p xs m i = true ↔ ∀ j, i ≤ j → j < i + m → p (wI xs j) = true
  | 0, i => by simp [allR]; omega
  | m + 1, i => by
    simp only [allR, Bool.and_eq_true, allR_iff p xs m (i + 1)]
    constructor
    · rintro ⟨h1, h2⟩ j h3 h4
      by_cases h : j = i
      · rw [h]; exact h1
      · exact h2 j (by omega) (by omega)
    · intro h
      exact ⟨h i (by omega) (by omega), fun j h3 h4 => h j (by omega) (by omega)⟩
theorem toB_ok {ws l : List Int} (hw : ws.length ≤ 2000) (hc : Chain ws 0 l) {v b : Int} (hv : 4 ≤ v % 8) (h : toB ws l v b = true) : vOk v = true := by
  simp only [toB, Bool.and_eq_true, decide_eq_true_eq] at h
  have := hc.mem h.1
  unfold vOk
  rw [if_neg (by omega), if_neg (by omega), if_neg (by omega)]
  simp only [decide_eq_true_eq]
  omega
theorem and_ok {a b : Bool} (h : b = true → a = true) : (a && b) = b := by
  cases b with
  | false => simp
  | true => simp [h rfl]
theorem lead4 {ws l : List Int} (hw : ws.length ≤ 2000) (hc : Chain ws 0 l) {v i : Int} (h : v % 8 = 4) : leadS ws l v i = toB ws l v 1 := by
  simp only [leadS, h, if_true]
  exact and_ok (toB_ok hw hc (by omega))
theorem lead5 {ws l : List Int} (hw : ws.length ≤ 2000) (hc : Chain ws 0 l) {v i : Int} (h : v % 8 = 5) : leadS ws l v i = toB ws l v 2 := by
  have h1 : ¬ (v % 8 = 4) := by omega
  simp only [leadS, h1, h, if_true, if_false]
  exact and_ok (toB_ok hw hc (by omega))
theorem lead6 {ws l : List Int} (hw : ws.length ≤ 2000) (hc : Chain ws 0 l) {v i : Int} (h : v % 8 = 6) : leadS ws l v i = toB ws l v 4 := by
  have h1 : ¬ (v % 8 = 4) := by omega
  have h2 : ¬ (v % 8 = 5) := by omega
  simp only [leadS, h1, h2, h, if_true, if_false]
  exact and_ok (toB_ok hw hc (by omega))
theorem lead7 {ws l : List Int} (hw : ws.length ≤ 2000) (hc : Chain ws 0 l) {v i : Int} (h : v % 8 = 7) : leadS ws l v i = toB ws l v i := by
  have h1 : ¬ (v % 8 = 4) := by omega
  have h2 : ¬ (v % 8 = 5) := by omega
  have h3 : ¬ (v % 8 = 6) := by omega
  simp only [leadS, h1, h2, h3, h, if_true, if_false]
  exact and_ok (toB_ok hw hc (by omega))
theorem next_eq {ws l : List Int} (hw : ws.length ≤ 2000) (hc : Chain ws 0 l) (v i : Int) : nextS ws l v i = innerI ws l v i := by
  unfold nextS innerI
  by_cases h : v % 8 = 7
  · rw [lead7 hw hc h]
  · simp [h]
theorem plain_eq {ws l : List Int} (hw : ws.length ≤ 2000) (hc : Chain ws 0 l) (v : Int) : plainS ws l v = plainI ws l v := by
  unfold plainS plainI
  by_cases h4 : v % 8 = 4
  · rw [lead4 hw hc h4]; simp [h4]
  by_cases h5 : v % 8 = 5
  · rw [lead5 hw hc h5]; simp [h5]
  by_cases h6 : v % 8 = 6
  · rw [lead6 hw hc h6]; simp [h6]
  by_cases h7 : v % 8 = 7
  · simp [h7]
  · simp [leadS, h4, h5, h6, h7]
theorem spare_eq {ws : List Int} (a m : Int) : spareI ws a m = (decide (m ≤ wI ws a / 8 ∧ wI ws a / 8 ≤ m + 1) && zeroR ws (wI ws a / 8 - m).toNat (a + m)) := by
  unfold spareI
  by_cases h1 : wI ws a / 8 = m
  · rw [h1]
    have : (m - m).toNat = 0 := by omega
    rw [this]
    simp [zeroR]
    omega
  · by_cases h2 : wI ws a / 8 = m + 1
    · rw [h2]
      have : (m + 1 - m).toNat = 1 := by omega
      rw [this]
      have h3 : ¬ (m + 1 = m) := by omega
      have h4 : m ≤ m + 1 := by omega
      simp [zeroR, h3, h4]
    · have h3 : ¬ (m ≤ wI ws a / 8 ∧ wI ws a / 8 ≤ m + 1) := by omega
      rw [show decide (wI ws a / 8 = m) = false from decide_eq_false h1, show decide (wI ws a / 8 = m + 1) = false from decide_eq_false h2, show decide (m ≤ wI ws a / 8 ∧ wI ws a / 8 ≤ m + 1) = false from decide_eq_false h3]
      rfl
theorem text_eq {ws l : List Int} (hc : Chain ws 0 l) (a : Int) (ha : a ∈ l) : textI (subI ws a (wI ws a / 8)) = textS ws a (wI ws a / 8) := by
  obtain ⟨h0, h2, h3, h4, h5⟩ := hc.mem ha
  have lw := subI_len ws a (wI ws a / 8) h0 (by omega) (by omega)
  have wv := fun i q1 q2 => subI_wI ws a (wI ws a / 8) i h0 q1 q2 (by omega)
  have l2 := subI_len (subI ws a (wI ws a / 8)) 2 (wI ws a / 8 - 2) (by omega) (by omega) (by omega)
  have wv2 := fun i q1 q2 => subI_wI (subI ws a (wI ws a / 8)) 2 (wI ws a / 8 - 2) i (by omega) q1 q2 (by omega)
  unfold textI textS
  rw [lw, wv 1 (by omega) (by omega)]
  have hn : (subI ws a (wI ws a / 8)).length - 2 = (wI ws a / 8 - 2).toNat := by omega
  rw [hn]
  rw [Bool.eq_iff_iff]
  simp only [Bool.and_eq_true, decide_eq_true_eq, textR_iff, zeroR_iff, byteR_iff]
  constructor
  · rintro ⟨q1, q2⟩
    refine ⟨⟨q1, ?_⟩, ?_⟩
    · intro j h6 h7
      have := q2 (j - (a + 2)) (by omega) (by omega)
      rw [wv2 _ (by omega) (by omega), wv _ (by omega) (by omega), show a + (2 + (j - (a + 2))) = j by omega] at this
      rcases this.2 with h8 | h8
      · omega
      · exact h8
    · intro j h6 h7
      have := q2 (j - (a + 2)) (by omega) (by omega)
      rw [wv2 _ (by omega) (by omega), wv _ (by omega) (by omega), show a + (2 + (j - (a + 2))) = j by omega] at this
      exact this.1
  · rintro ⟨⟨q1, q2⟩, q3⟩
    refine ⟨q1, ?_⟩
    intro j h6 h7
    rw [wv2 _ (by omega) (by omega), wv _ (by omega) (by omega), show a + (2 + j) = a + 2 + j by omega]
    by_cases h8 : j < wI ws (a + 1)
    · exact ⟨q3 _ (by omega) (by omega), .inl h8⟩
    · have := q2 (a + 2 + j) (by omega) (by omega)
      exact ⟨by omega, .inr this⟩
theorem shape_eq {ws l : List Int} (hw : ws.length ≤ 2000) (hc : Chain ws 0 l) (a : Int) (ha : a ∈ l) : shapeI ws l a = shapeS ws l a := by
  obtain ⟨h0, h2, h3, h4, h5⟩ := hc.mem ha
  unfold shapeI shapeS
  by_cases k0 : wI ws a % 8 = 0
  · simp [k0]
  by_cases k1 : wI ws a % 8 = 1
  · rw [if_neg k0, if_pos k1, if_pos k1]
    exact text_eq hc a ha
  by_cases k2 : wI ws a % 8 = 2
  · rw [if_neg k0, if_neg k1, if_pos k2, if_neg k1, if_pos k2]
    rw [spare_eq, next_eq hw hc]
    by_cases x : wI ws (a + 1) % 8 = 5
    · rw [lead5 hw hc x]
      simp only [x, show (3 : Int) + 1 = 4 by omega]
      ac_rfl
    · simp only [x, show (3 : Int) + 1 = 4 by omega, decide_false, Bool.false_and]
      ac_rfl
  by_cases k3 : wI ws a % 8 = 3
  · rw [if_neg k0, if_neg k1, if_neg k2, if_pos k3, if_neg k1, if_neg k2, if_pos k3]
    rw [spare_eq, next_eq hw hc, plain_eq hw hc]
    by_cases x : wI ws (a + 1) % 8 = 4
    · rw [lead4 hw hc x]
      simp only [x, show (4 : Int) + 1 = 5 by omega]
      ac_rfl
    · simp [x]
  by_cases k4 : wI ws a % 8 = 4
  · rw [if_neg k0, if_neg k1, if_neg k2, if_neg k3, if_pos k4, if_neg k1, if_neg k2, if_neg k3, if_pos k4]
    rw [spare_eq]
    by_cases x : wI ws (a + 2) % 8 = 7
    · rw [lead7 hw hc x]
      simp only [x, show (3 : Int) + 1 = 4 by omega]
      ac_rfl
    · simp [x]
  · have k5 : wI ws a % 8 = 5 := by omega
    rw [if_neg k0, if_neg k1, if_neg k2, if_neg k3, if_neg k4, if_neg k1, if_neg k2, if_neg k3, if_neg k4, if_pos k5]
    rw [next_eq hw hc]
    congr 1
    have lw := subI_len ws a (wI ws a / 8) h0 (by omega) (by omega)
    have wv := fun i q1 q2 => subI_wI ws a (wI ws a / 8) i h0 q1 q2 (by omega)
    have l2 := subI_len (subI ws a (wI ws a / 8)) 2 (wI ws a / 8 - 2) (by omega) (by omega) (by omega)
    have wv2 := fun i q1 q2 => subI_wI (subI ws a (wI ws a / 8)) 2 (wI ws a / 8 - 2) i (by omega) q1 q2 (by omega)
    rw [List.not_any_eq_all_not]
    simp only [Bool.not_not]
    rw [← allR_all, Bool.eq_iff_iff, allR_iff, plainR_iff]
    constructor
    · intro h j h6 h7
      have := h (j - (a + 2)) (by omega) (by omega)
      rw [wv2 _ (by omega) (by omega), wv _ (by omega) (by omega), show a + (2 + (j - (a + 2))) = j by omega] at this
      rw [plain_eq hw hc]; exact this
    · intro h j h6 h7
      rw [wv2 _ (by omega) (by omega), wv _ (by omega) (by omega), ← plain_eq hw hc]
      exact h _ (by omega) (by omega)
theorem e75 (ws l all : List Int) (hw : ws.length ≤ 2000) (hc : Chain ws 0 l) (hk : KindsOk ws l all) (a : Int) (ha : a ∈ l) : ev EE (.call 75 [SL ws, IS all, int a] []) = some (.val (bool (shapeS ws l a)) []) := by
  rw [e75I ws l all (by omega) hc hk a ha, shape_eq hw hc a ha]
theorem range2 : List.range 2 = [0, 1] := nr rfl
theorem e74 (ws l all : List Int) (hw : ws.length ≤ 2000) (hc : Chain ws 0 l) (hk : KindsOk ws l all) (a : Int) (ha : a ∈ l) : ev EE (.call 74 [int a, .bx 0 0, .bx 1 0] [.b [IS ws], .b [.ls true (ints all)]]) = some (.val (bool (!shapeS ws l a)) [.b [IS ws], .b [.ls true (ints all)]]) := by
  rw [ev_eq]
  have h := e75 ws l all hw hc hk a ha
  simp only [int, bool] at h
  simp (decide := true) [ir74, h, range2]
end Go.Pv

namespace Go.Pv
set_option maxRecDepth 8000
set_option maxHeartbeats 4000000
set_option linter.unusedSimpArgs false
set_option linter.unusedVariables false
theorem lp101b (ws all : List Int) (xs : List Int) (hx : xs.length ≤ 1048576) (p : Int → Bool) (hp : ∀ v ∈ xs, ev EE (.call 74 [int v, .bx 0 0, .bx 1 0] [.b [IS ws], .b [.ls true (ints all)]]) = some (.val (bool (p v)) [.b [IS ws], .b [.ls true (ints all)]])) : ∀ (m : Nat) (i : Int), 0 ≤ i → i + m = xs.length →
    ev EE (.loop lp101_0 [0, 1, 7, 8] [4] { np := 2, tm := [(0, IS xs), (1, .fn 74 [.bx 0 0, .bx 1 0]), (7, int xs.length), (8, int i)], ar := [(0, .a false (ints all))], bx := [(0, .b [IS ws]), (1, .b [.rf 0 0 all.length])] }) =
    if 0 ≤ findR p xs m i then some (.out .ret { np := 2, tm := [(4, int (findR p xs m i))], ar := [(0, .a false (ints all))], bx := [(0, .b [IS ws]), (1, .b [.rf 0 0 all.length])] }) else some (.out (.exit 0) { np := 2, tm := [], ar := [(0, .a false (ints all))], bx := [(0, .b [IS ws]), (1, .b [.rf 0 0 all.length])] })
  | 0, i, h0, h1 => by
    rw [ev_loop EE lp101_0.eq_1]
    have : ¬ (i < xs.length) := by omega
    simp (decide := true) [this, findR, range2]
  | m + 1, i, h0, h1 => by
    rw [ev_loop EE lp101_0.eq_1]
    have h2 : i < xs.length := by omega
    have g1 := ints_getI xs i h0 h2
    have w1 := wrap64_id (i + 1) (by omega) (by omega)
    have hq := hp (wI xs i) (wI_mem h0 h2)
    have ih := lp101b ws all xs hx p hp m (i + 1) (by omega) (by omega)
    simp only [int, bool] at ih hq
    by_cases k : p (wI xs i) = true
    · simp (decide := true) [h0, h2, g1, hq, k, findR, range2]
    · by_cases k2 : 0 ≤ findR p xs m (i + 1)
      · simp (decide := true) [h0, h2, g1, hq, k, w1, ih, k2, findR, range2]
      · simp (decide := true) [h0, h2, g1, hq, k, w1, ih, k2, findR, range2]
theorem findR_neg (p : Int → Bool) (xs : List Int) : ∀ (m : Nat) (i : Int), 0 ≤ i → ¬ (0 ≤ findR p xs m i) → findR p xs m i = -1
  | 0, i, _, _ => rfl
  | m + 1, i, hi, h => by
    simp only [findR] at h ⊢
    split
    · rename_i hp; rw [if_pos hp] at h; exact absurd hi h
    · rename_i hp; rw [if_neg hp] at h; exact findR_neg p xs m (i + 1) (by omega) h
theorem e73b (ws all : List Int) (xs : List Int) (hx : xs.length ≤ 1048576) (p : Int → Bool) (hp : ∀ v ∈ xs, ev EE (.call 74 [int v, .bx 0 0, .bx 1 0] [.b [IS ws], .b [.ls true (ints all)]]) = some (.val (bool (p v)) [.b [IS ws], .b [.ls true (ints all)]])) :
    ev EE (.call 73 [IS xs, .fn 74 [.bx 0 0, .bx 1 0]] [.b [IS ws], .b [.ls true (ints all)]]) = some (.val (bool (xs.any p)) [.b [IS ws], .b [.ls true (ints all)]]) := by
  have h101 : ev EE (.call 101 [IS xs, .fn 74 [.bx 0 0, .bx 1 0]] [.b [IS ws], .b [.ls true (ints all)]]) = some (.val (int (findR p xs xs.length 0)) [.b [IS ws], .b [.ls true (ints all)]]) := by
    rw [ev_eq]
    have h := lp101b ws all xs hx p hp xs.length 0 (by omega) (by omega)
    simp only [int, bool] at h
    by_cases k2 : 0 ≤ findR p xs xs.length 0
    · simp [k2] at h
      simp (decide := true) [ir101, h, range2]
    · have k3 := findR_neg p xs _ _ (by omega) k2
      simp [k3] at h
      simp (decide := true) [ir101, h, k3, range2]
  rw [ev_eq]
  have h2 := findR_any p xs xs.length 0 (by omega)
  rw [allR_all] at h2
  have h3 : (xs.any p) = decide (0 ≤ findR p xs xs.length 0) := by
    rw [h2, List.not_all_eq_any_not]
    simp
  simp only [int, bool] at h101
  rw [h3]
  simp (decide := true) [ir73, h101, range2]
theorem e39 (ws : List Int) (hw : ws.length ≤ 1048576) : ev EE (.call 39 [SL ws] []) = some (.val (bool (heapS ws)) []) := by
  rw [ev_eq]
  have h72 := e72 ws
  have h44 := e44 ws hw
  unfold heapS
  cases hb : blks ws with
  | none =>
    simp only [hb, bool] at h72
    simp (decide := true) [ir39, h72]
  | some l =>
    obtain ⟨hw2, hc⟩ := blks_chain hb
    have hk := kindsP_ok hb
    have hln := hc.len (by omega)
    have h73 := e73b ws (kindsP ws) l (by omega) (fun a => !shapeS ws l a) (fun a ha => e74 ws l (kindsP ws) hw2 hc hk a ha)
    simp only [hb, bool] at h72
    simp only [bool] at h73
    have hf : (!l.any fun a => !shapeS ws l a) = l.all (shapeS ws l) := by
      rw [List.not_any_eq_all_not]; simp
    show _ = some (Ans.val (bool (l.all (shapeS ws l))) [])
    rw [← hf]
    simp (decide := true) [ir39, h72, h44, h73, range2, one1]
/-- the places that are told -/
def fwdL (ws : List Int) : List Int → Int → List Int
  | [], _ => []
  | k :: l, t => if wI ws k % 8 = 0 then fwdL ws l t else t :: fwdL ws l (t + wI ws k / 8)
def fwdP (ws : List Int) : List Int := if heapS ws then fwdL ws ((blks ws).getD []) 0 else []
theorem drop_wI {l : List Int} {i : Int} (h0 : 0 ≤ i) (h1 : i < l.length) : l.drop i.toNat = wI l i :: l.drop (i + 1).toNat := by
  have h2 : i.toNat < l.length := by omega
  rw [List.drop_eq_getElem_cons h2, show (i + 1).toNat = i.toNat + 1 by omega]
  simp [wI, h2]
def nm1 (acc : List Int) : Nat := if acc = [] then 0 else 1
@[simp] theorem nm1_nil : nm1 [] = 0 := rfl
@[simp] theorem nm1_cons (x : Int) (l : List Int) : nm1 (x :: l) = 1 := by simp [nm1]
@[simp] theorem nm1_snoc (x : Int) (l : List Int) : nm1 (l ++ [x]) = 1 := by simp [nm1]
theorem Chain.sub {ws : List Int} : ∀ {l : List Int} {a : Int}, Chain ws a l → l.Pairwise (fun x y => x + wI ws x / 8 ≤ y)
  | [], a, _ => List.Pairwise.nil
  | x :: l, a, hc => by
    obtain ⟨rfl, h2, h3, h4, h5, h6⟩ := hc
    refine List.pairwise_cons.2 ⟨?_, h6.sub⟩
    intro y hy
    exact (h6.mem hy).1
theorem lp11 (ws : List Int) (hw : ws.length ≤ 1048576) (l : List Int) (hc : Chain ws 0 l) : ∀ (m : Nat) (i t : Int) (acc : List Int), 0 ≤ i → i + m = l.length → 0 ≤ t → (acc.length : Int) ≤ i → (m = 0 ∨ t ≤ wI l i) →
    ev EE (.loop lp11_0 [1, 3, 4, 11, 12, 13] [2, 3] { np := 0, tm := [(1, .bx 0 0), (3, rowV acc), (4, int t), (11, .rf (nm1 acc) 0 l.length), (12, int l.length), (13, int i)], ar := rowA acc ++ [(nm1 acc, .a false (ints l))], bx := [(0, .b [IS ws])] }) =
    some (.out (.exit 0) { np := 0, tm := [(3, rowV (acc ++ fwdL ws (l.drop i.toNat) t))], ar := rowA (acc ++ fwdL ws (l.drop i.toNat) t), bx := [] })
  | 0, i, t, acc, h0, h1, h2, h3, h4 => by
    rw [ev_loop EE lp11_0.eq_1]
    have h5 : ¬ (i < l.length) := by omega
    have h6 : l.drop i.toNat = [] := List.drop_eq_nil_of_le (by omega)
    rw [h6]
    cases acc with
    | nil => simp [h5, fwdL]
    | cons y acc => simp [h5, fwdL]
  | m + 1, i, t, acc, h0, h1, h2, h3, h4 => by
    rw [ev_loop EE lp11_0.eq_1]
    have hi : i < l.length := by omega
    have hm := hc.mem (wI_mem h0 hi)
    have hln := hc.len (by omega)
    have g1 := ints_getI l i h0 hi
    have g2 := ints_getI ws (wI l i) hm.1 hm.2.1
    have w1 := wrap64_id (i + 1) (by omega) (by omega)
    have w2 := wrap64_id (t + wI ws (wI l i) / 8) (by omega) (by omega)
    have hnx : m = 0 ∨ wI l i + wI ws (wI l i) / 8 ≤ wI l (i + 1) := by
      by_cases hm0 : m = 0
      · exact .inl hm0
      · right
        have hs := hc.sub.drop (i := i.toNat)
        rw [drop_wI h0 hi, drop_wI (i := i + 1) (by omega) (by omega)] at hs
        exact (List.pairwise_cons.1 hs).1 _ (by simp)
    rw [drop_wI h0 hi]
    simp only [fwdL]
    by_cases hk : wI ws (wI l i) % 8 = 0
    · have ih := lp11 ws hw l hc m (i + 1) t acc (by omega) (by omega) h2 (by omega) (by omega)
      rw [if_pos hk]
      simp only [int] at ih
      cases acc with
      | nil =>
        simp at ih
        simp (decide := true) [h0, hi, hm, g1, g2, w1, hk, ih]
      | cons y acc =>
        simp at ih
        simp (decide := true) [h0, hi, hm, g1, g2, w1, hk, ih]
    · have ih := lp11 ws hw l hc m (i + 1) (t + wI ws (wI l i) / 8) (acc ++ [t]) (by omega) (by omega) (by omega) (by simp; omega) (by omega)
      rw [if_neg hk]
      simp only [int] at ih
      cases acc with
      | nil =>
        simp at ih
        simp (decide := true) [h0, hi, hm, g1, g2, w1, w2, hk, ih, lim, maxB]
      | cons y acc =>
        simp at ih h3
        have hl : (acc.length + 1 + 1) * 8 ≤ 140737488351232 := by omega
        simp (decide := true) [h0, hi, hm, g1, g2, w1, w2, hk, ih, hl, lim, maxB]
theorem e11 (ws : List Int) (hw : ws.length ≤ 1048576) : ev EE (.call 11 [SL ws] []) = some (.val (.ls true (ints (fwdP ws))) []) := by
  rw [ev_eq]
  have h39 := e39 ws hw
  have h40 := e40 ws
  simp only [bool] at h39
  unfold fwdP
  cases hs : heapS ws with
  | false =>
    rw [hs] at h39
    simp (decide := true) [ir11, h39]
  | true =>
    rw [hs] at h39
    have hs' := hs
    unfold heapS at hs'
    cases hb : blks ws with
    | none => rw [hb] at hs'; cases hs'
    | some l =>
      have hc := (blks_chain hb).2
      have hm0 : l.length = 0 ∨ 0 ≤ wI l 0 := by
        by_cases hz : l.length = 0
        · exact .inl hz
        · exact .inr (hc.mem (wI_mem (by omega) (by omega))).1
      have h := lp11 ws hw l hc l.length 0 0 [] (by omega) (by omega) (by omega) (by simp) hm0
      simp only [int, rowV_nil, rowA_nil, nm1_nil, List.nil_append, show (0 : Int).toNat = 0 from rfl, List.drop_zero] at h
      simp only [hb, Option.getD_some] at h40 ⊢
      cases hf : fwdL ws l 0 with
      | nil =>
        rw [hf] at h
        simp at h
        simp (decide := true) [ir11, h39, h40, h]
      | cons x xs =>
        rw [hf] at h
        simp at h
        simp (decide := true) [ir11, h39, h40, h]
theorem lp9 (ws : List Int) (hw : ws.length ≤ 1048576) (hs : heapS ws = true) (l : List Int) (hc : Chain ws 0 l) : ∀ (m : Nat) (i t : Int) (acc : List Int), 0 ≤ i → i + m = l.length → 0 ≤ t → (acc.length : Int) ≤ i → (m = 0 ∨ t ≤ wI l i) →
    ev EE (.loop lp9_0 [1, 3, 4, 5, 6] [2, 3] { np := 0, tm := [(1, .bx 0 0), (3, rowV acc), (4, int t), (5, .rf (nm1 acc) 0 l.length), (6, int i)], ar := rowA acc ++ [(nm1 acc, .a false (ints l))], bx := [(0, .b [IS ws])] }) =
    some (.out (.exit 0) { np := 0, tm := [(3, rowV (acc ++ fwdL ws (l.drop i.toNat) t))], ar := rowA (acc ++ fwdL ws (l.drop i.toNat) t), bx := [] })
  | 0, i, t, acc, h0, h1, h2, h3, h4 => by
    rw [ev_loop EE lp9_0.eq_1]
    have h5 : ¬ (i < l.length) := by omega
    have h6 : l.drop i.toNat = [] := List.drop_eq_nil_of_le (by omega)
    rw [h6]
    cases acc with
    | nil => simp [h5, fwdL]
    | cons y acc => simp [h5, fwdL]
  | m + 1, i, t, acc, h0, h1, h2, h3, h4 => by
    rw [ev_loop EE lp9_0.eq_1]
    have hi : i < l.length := by omega
    have hm := hc.mem (wI_mem h0 hi)
    have hln := hc.len (by omega)
    have g1 := ints_getI l i h0 hi
    have g2 := ints_getI ws (wI l i) hm.1 hm.2.1
    have w1 := wrap64_id (i + 1) (by omega) (by omega)
    have w2 := wrap64_id (t + wI ws (wI l i) / 8) (by omega) (by omega)
    have h36 := e36 ws hw
    rw [hs] at h36
    simp only [bool] at h36
    have hnx : m = 0 ∨ wI l i + wI ws (wI l i) / 8 ≤ wI l (i + 1) := by
      by_cases hm0 : m = 0
      · exact .inl hm0
      · right
        have hs := hc.sub.drop (i := i.toNat)
        rw [drop_wI h0 hi, drop_wI (i := i + 1) (by omega) (by omega)] at hs
        exact (List.pairwise_cons.1 hs).1 _ (by simp)
    rw [drop_wI h0 hi]
    simp only [fwdL]
    by_cases hk : wI ws (wI l i) % 8 = 0
    · have ih := lp9 ws hw hs l hc m (i + 1) t acc (by omega) (by omega) h2 (by omega) (by omega)
      rw [if_pos hk]
      simp only [int] at ih
      cases acc with
      | nil =>
        simp at ih
        simp (decide := true) [h0, hi, hm, g1, g2, w1, hk, ih, h36]
      | cons y acc =>
        simp at ih
        simp (decide := true) [h0, hi, hm, g1, g2, w1, hk, ih, h36]
    · have ih := lp9 ws hw hs l hc m (i + 1) (t + wI ws (wI l i) / 8) (acc ++ [t]) (by omega) (by omega) (by omega) (by simp; omega) (by omega)
      rw [if_neg hk]
      simp only [int] at ih
      cases acc with
      | nil =>
        simp at ih
        simp (decide := true) [h0, hi, hm, g1, g2, w1, w2, hk, ih, lim, maxB, h36]
      | cons y acc =>
        simp at ih h3
        have hl : (acc.length + 1 + 1) * 8 ≤ 140737488351232 := by omega
        simp (decide := true) [h0, hi, hm, g1, g2, w1, w2, hk, ih, hl, lim, maxB, h36]
theorem lp9z (ws : List Int) (hw : ws.length ≤ 1048576) (hs : heapS ws = false) (l : List Int) :
    ev EE (.loop lp9_0 [1, 3, 4, 5, 6] [2, 3] { np := 0, tm := [(1, .bx 0 0), (3, .ls true []), (4, int 0), (5, .rf 0 0 l.length), (6, int 0)], ar := [(0, .a false (ints l))], bx := [(0, .b [IS ws])] }) =
    some (.out (.exit 0) { np := 0, tm := [(3, .ls true [])], ar := [], bx := [] }) := by
  rw [ev_loop EE lp9_0.eq_1]
  have h36 := e36 ws hw
  rw [hs] at h36
  simp only [bool] at h36
  by_cases h : 0 < l.length
  · simp (decide := true) [h, h36]
  · simp (decide := true) [h, h36]
theorem e9 (ws : List Int) (hw : ws.length ≤ 1048576) : ev EE (.call 9 [SL ws] []) = some (.val (.ls true (ints (fwdP ws))) []) := by
  rw [ev_eq]
  have h35 := e35 ws hw
  unfold fwdP
  cases hs : heapS ws with
  | false =>
    have h := lp9z ws hw hs ((blks ws).getD [])
    simp only [int] at h
    simp (decide := true) [ir9, h35, h]
  | true =>
    have hs' := hs
    unfold heapS at hs'
    cases hb : blks ws with
    | none => rw [hb] at hs'; cases hs'
    | some l =>
      have hc := (blks_chain hb).2
      have hm0 : l.length = 0 ∨ 0 ≤ wI l 0 := by
        by_cases hz : l.length = 0
        · exact .inl hz
        · exact .inr (hc.mem (wI_mem (by omega) (by omega))).1
      have h := lp9 ws hw hs l hc l.length 0 0 [] (by omega) (by omega) (by omega) (by simp) hm0
      simp only [int, rowV_nil, rowA_nil, nm1_nil, List.nil_append, show (0 : Int).toNat = 0 from rfl, List.drop_zero] at h
      simp only [hb, Option.getD_some] at h35 ⊢
      cases hf : fwdL ws l 0 with
      | nil =>
        rw [hf] at h
        simp at h
        simp (decide := true) [ir9, h35, h]
      | cons x xs =>
        rw [hf] at h
        simp at h
        simp (decide := true) [ir9, h35, h]
end Go.Pv
