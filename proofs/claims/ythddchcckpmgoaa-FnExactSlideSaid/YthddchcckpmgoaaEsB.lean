/- Proof: what Slide of the program evaluates to, and the law Slide answers true. No condition. -/
import Derived.Test.YthddchcckpmgoaaEsA
import Derived.Test.YthddchcckpmgoaaEqG
set_option autoImplicit true
set_option relaxedAutoImplicit true
set_option linter.unusedSimpArgs false
set_option linter.unusedVariables false
namespace Go.Pv
set_option maxRecDepth 100000
set_option maxHeartbeats 4000000
set_option linter.unusedSimpArgs false
set_option linter.unusedVariables false
/-- slots that get their new values -/
def fillS (ws : List Int) (f : Int → Int) (t a : Int) (sl : List Int) : Nat → List Int → Int → List Int
  | 0, xs, _ => xs
  | m + 1, xs, i => fillS ws f t a sl m (xs.set (t + wI sl i - a).toNat (f (wI ws (wI sl i)))) (i + 1)
theorem fillS_len (ws : List Int) (f : Int → Int) (t a : Int) (sl : List Int) : ∀ (m : Nat) (xs : List Int) (i : Int), (fillS ws f t a sl m xs i).length = xs.length
  | 0, xs, i => rfl
  | m + 1, xs, i => by simp [fillS, fillS_len ws f t a sl m]
theorem fillS_wI (ws : List Int) (f : Int → Int) (t a : Int) (sl : List Int) (N : Nat) (hl : ∀ x ∈ sl, 0 ≤ t + x - a ∧ t + x - a < N) : ∀ (m : Nat) (xs : List Int) (i j : Int), xs.length = N → 0 ≤ i → i + m = sl.length → 0 ≤ j → wI (fillS ws f t a sl m xs i) j = if j - t + a ∈ sl.drop i.toNat then f (wI ws (j - t + a)) else wI xs j
  | 0, xs, i, j, hx, h0, h1, h2 => by
    rw [List.drop_eq_nil_of_le (by omega)]
    simp [fillS]
  | m + 1, xs, i, j, hx, h0, h1, h2 => by
    have h3 : i < sl.length := by omega
    have hm := hl _ (wI_mem h0 h3)
    simp only [fillS]
    rw [fillS_wI ws f t a sl N hl m _ (i + 1) j (by simp [hx]) (by omega) (by omega) h2, wI_set xs _ j _ hm.1 (by omega) h2]
    have hmem : j - t + a ∈ sl.drop i.toNat ↔ j - t + a = wI sl i ∨ j - t + a ∈ sl.drop (i + 1).toNat := by rw [drop_wI h0 h3, List.mem_cons]
    by_cases h5 : j - t + a ∈ sl.drop (i + 1).toNat
    · rw [if_pos h5, if_pos (hmem.2 (.inr h5))]
    · rw [if_neg h5]
      by_cases h6 : j = t + wI sl i - a
      · have h7 : j - t + a = wI sl i := by omega
        rw [if_pos h6, if_pos (hmem.2 (.inl h7)), h7]
      · rw [if_neg h6, if_neg (by rw [hmem]; rintro (h7 | h7); exact h6 (by omega); exact h5 h7)]
theorem movI_good {ws l : List Int} (hb : blks ws = some l) (hs : heapS ws = true) {v : Int} (h : goodV ws l v) : movI ws l (pairsP ws) v = movedS ws l v := by
  obtain ⟨hw2, hc⟩ := blks_chain hb
  have he := moved_eq ws v
  rw [hb] at he
  simp only [Option.getD_some] at he
  rw [he]
  unfold movedP
  rw [hb]
  simp only [hs, Bool.true_and, block_eq hw2 hc]
  rcases h with h | h
  · split
    · rfl
    · unfold movedS; rw [if_pos h]
  · rw [if_pos h]
theorem lp21_1' (ws : List Int) (hw : ws.length ≤ 1048576) (l all : List Int) (hc : Chain ws 0 l) (hk : KindsOk ws l all) (ps : List (Int × Int)) (nn : Nat) (rs : List Int) (a t n : Int) (i0 : Int) (sl : List Int) (hsl : ∀ x ∈ sl, 0 ≤ x ∧ x < ws.length ∧ 0 ≤ t + x - a ∧ t + x - a < ws.length) (ht : 0 ≤ t) (ht2 : t ≤ 1048576) (hl2 : sl.length ≤ 1048576) : ∀ (m : Nat) (xs : List Int) (i : Int), xs.length = ws.length → 0 ≤ i → i + m = sl.length →
    ev EE (.loop lp21_1 [1, 2, 4, 6, 7, 8, 11, 12, 14, 36, 37, 38, 70, 71, 72] [1, 2, 4, 5, 6, 7, 8, 9, 12, 14, 36, 37, 38] { np := 0, tm := [(1, IS rs), (2, .bx 0 0), (4, .bx 1 0), (6, .bx 2 0), (7, .rf 0 0 all.length), (8, .mp 3), (11, int a), (12, int t), (14, int n), (36, .rf 1 0 l.length), (37, int l.length), (38, int i0), (70, .rf 2 0 sl.length), (71, int sl.length), (72, int i)], ar := [(0, .a false (ints all)), (1, .a false (ints l)), (2, .a false (ints sl)), (3, .a false (ints xs))], bx := [(0, .b [IS ws]), (1, .b [.ls true []]), (2, .b [.rf 3 0 ws.length]), (3, .m (mapL ps 0, nn))] }) =
    some (.out (.exit 2) { np := 0, tm := [(1, IS rs), (2, .bx 0 0), (4, .bx 1 0), (6, .bx 2 0), (7, .rf 0 0 all.length), (8, .mp 3), (12, int t), (14, int n), (36, .rf 1 0 l.length), (37, int l.length), (38, int i0)], ar := [(0, .a false (ints all)), (1, .a false (ints l)), (2, .a false (ints (fillS ws (movI ws l ps) t a sl m xs i)))], bx := [(0, .b [IS ws]), (1, .b [.ls true []]), (2, .b [.rf 2 0 ws.length]), (3, .m (mapL ps 0, nn))] }) := by
  intro m
  induction m with
  | zero =>
    intro xs i hx h0 h1
    rw [ev_loop EE lp21_1.eq_1]
    have : ¬ (i < sl.length) := by omega
    simp (decide := true) [this, fillS]
  | succ m ihm =>
    intro xs i hx h0 h1
    rw [ev_loop EE lp21_1.eq_1]
    have h2 : i < sl.length := by omega
    obtain ⟨k1, k2, k3, k4⟩ := hsl _ (wI_mem h0 h2)
    have k3' : a ≤ t + wI sl i := by omega
    have g1 := ints_getI sl i h0 h2
    have g2 := ints_getI ws (wI sl i) k1 k2
    have g3 := ints_getI xs (t + wI sl i - a) k3 (by omega)
    have w1 := wrap64_id (i + 1) (by omega) (by omega)
    have w2 := wrap64_id (t + wI sl i) (by omega) (by omega)
    have w3 := wrap64_id (t + wI sl i - a) (by omega) (by omega)
    have h43 := e43 ws l all hw ps (.inr ⟨hc, hk⟩) nn (wI ws (wI sl i))
    have ih := ihm (xs.set (t + wI sl i - a).toNat (movI ws l ps (wI ws (wI sl i)))) (i + 1) (by simp [hx]) (by omega) (by omega)
    simp only [int] at ih h43
    simp (decide := true) [h0, h2, k1, k2, k3, k3', k4, hx, g1, g2, g3, w1, w2, w3, h43, ih, fillS, one1]
theorem wI_app (xs ys : List Int) (j : Int) (h0 : 0 ≤ j) : wI (xs ++ ys) j = if j < xs.length then wI xs j else wI ys (j - xs.length) := by
  unfold wI
  simp only [List.getD_eq_getElem?_getD]
  by_cases h : j < xs.length
  · rw [if_pos h, List.getElem?_append_left (by omega)]
  · rw [if_neg h, List.getElem?_append_right (by omega)]
    congr 2
    omega
theorem wI_rep (n : Nat) (j : Int) : wI (List.replicate n 0) j = 0 := by
  unfold wI
  simp only [List.getD_eq_getElem?_getD, List.getElem?_replicate]
  split <;> rfl
theorem wI_blkR (ws l : List Int) (a : Int) : ∀ (m : Nat) (j0 i : Int), 0 ≤ i → i < m → wI (blkR ws l a m j0) i = wordS ws l a (j0 + i)
  | 0, j0, i, h0, h1 => by omega
  | m + 1, j0, i, h0, h1 => by
    by_cases h : i = 0
    · subst h; simp [blkR, wI]
    · have e : wI (blkR ws l a (m + 1) j0) i = wI (blkR ws l a m (j0 + 1)) (i - 1) := by
        have : i.toNat = (i - 1).toNat + 1 := by omega
        simp only [wI, blkR, this]
        simp
      rw [e, wI_blkR ws l a m (j0 + 1) (i - 1) (by omega) (by omega)]
      congr 1; omega
theorem slotL_in (ws : List Int) (a : Int) (h : 2 ≤ wI ws a / 8) {x : Int} (hx : x ∈ slotL ws a) : a + 1 ≤ x ∧ x < a + wI ws a / 8 := by
  rw [slotL, seqI_mem] at hx
  simp only [slotF, slotC] at hx
  by_cases k4 : wI ws a % 8 = 4
  · rw [if_pos k4, if_neg (by omega), if_neg (by omega), if_pos k4] at hx
    split at hx <;> omega
  · rw [if_neg k4] at hx
    by_cases k2 : wI ws a % 8 = 2
    · rw [if_pos k2] at hx
      split at hx <;> omega
    · by_cases k3 : wI ws a % 8 = 3
      · rw [if_neg k2, if_pos k3] at hx
        split at hx <;> omega
      · rw [if_neg k2, if_neg k3, if_neg k4] at hx
        split at hx <;> omega
theorem blk_step {ws l : List Int} (hb : blks ws = some l) (hs : heapS ws = true) (a : Int) (ha : a ∈ l) (P : List Int) (hP : (P.length : Int) + wI ws a / 8 ≤ ws.length) :
    fillS ws (movI ws l (pairsP ws)) P.length a (slotL ws a) (slotL ws a).length ((P ++ List.replicate (ws.length - P.length) 0).take P.length ++ subI ws a (wI ws a / 8) ++ (P ++ List.replicate (ws.length - P.length) 0).drop (P.length + (wI ws a / 8).toNat)) 0 =
      (P ++ blkR ws l a (wI ws a / 8).toNat 0) ++ List.replicate (ws.length - (P ++ blkR ws l a (wI ws a / 8).toNat 0).length) 0 := by
  obtain ⟨hw2, hc⟩ := blks_chain hb
  obtain ⟨h0, h2, h3, h4, h5⟩ := hc.mem ha
  have hsl := subI_len ws a (wI ws a / 8) h0 (by omega) (by omega)
  have hbl := blkR_len ws l a (wI ws a / 8).toNat 0
  have e1 : (P ++ List.replicate (ws.length - P.length) 0).take P.length = P := by simp
  have e2 : (P ++ List.replicate (ws.length - P.length) (0 : Int)).drop (P.length + (wI ws a / 8).toNat) = List.replicate (ws.length - P.length - (wI ws a / 8).toNat) 0 := by
    rw [List.drop_append]; simp
  rw [e1, e2]
  have hlen : (P ++ subI ws a (wI ws a / 8) ++ List.replicate (ws.length - P.length - (wI ws a / 8).toNat) (0 : Int)).length = ws.length := by
    simp; omega
  apply ext_wI
  · rw [fillS_len, hlen]
    simp [hbl]; omega
  · intro j hj0 hj1
    rw [fillS_len, hlen] at hj1
    rw [fillS_wI ws _ _ _ _ ws.length (fun x hx => by have := slotL_in ws a h3 hx; omega) _ _ _ _ hlen (by omega) (by omega) hj0]
    rw [show (0 : Int).toNat = 0 from rfl, List.drop_zero]
    rw [List.append_assoc, wI_app P _ j hj0, List.append_assoc P, wI_app P _ j hj0]
    by_cases hjP : j < P.length
    · have hno : ¬ (j - P.length + a ∈ slotL ws a) := by
        intro h
        have := slotL_in ws a h3 h
        omega
      rw [if_neg hno, if_pos hjP, if_pos hjP]
    · rw [if_neg hjP, if_neg hjP, wI_app _ _ _ (by omega), wI_app _ _ _ (by omega)]
      rw [hsl, hbl, wI_rep, wI_rep]
      by_cases hjn : j - P.length < wI ws a / 8
      · have hjn' : j - P.length < ((wI ws a / 8).toNat : Int) := by omega
        rw [if_pos hjn, if_pos hjn', wI_blkR _ _ _ _ _ _ (by omega) hjn', subI_wI ws a _ _ h0 (by omega) hjn (by omega)]
        simp only [wordS, Int.zero_add]
        rw [show j - P.length + a = a + (j - P.length) by omega]
        by_cases hin : a + (j - P.length) ∈ slotL ws a
        · rw [if_pos hin, if_pos hin]
          exact movI_good hb hs (gd_of_heap hb hs a ha _ hin)
        · rw [if_neg hin, if_neg hin]
      · have hjn' : ¬ (j - P.length < ((wI ws a / 8).toNat : Int)) := by omega
        have hno : ¬ (j - P.length + a ∈ slotL ws a) := by
          intro h
          have := slotL_in ws a h3 h
          omega
        rw [if_neg hno, if_neg hjn, if_neg hjn']
theorem findP_none (x : Int) : ∀ (ps : List (Int × Int)), (∀ p ∈ ps, p.1 ≠ x) → findP x ps = none
  | [], _ => rfl
  | p :: r, h => by
    simp only [findP]
    rw [if_neg (fun e => h p (by simp) e.symm), findP_none x r (fun q hq => h q (by simp [hq]))]
theorem ints_take (xs : List Int) (n : Nat) : (ints xs).take n = ints (xs.take n) := by simp only [ints, List.map_take]
theorem ints_drop (xs : List Int) (n : Nat) : (ints xs).drop n = ints (xs.drop n) := by simp only [ints, List.map_drop]
theorem lp21_2' (ws : List Int) (hw : ws.length ≤ 1048576) (l : List Int) (hb : blks ws = some l) (hs : heapS ws = true) (nn : Nat) (rs : List Int) : ∀ (m : Nat) (i : Int) (P : List Int), 0 ≤ i → i + m = l.length → (m = 0 ∨ (P.length : Int) ≤ wI l i) → (P.length : Int) ≤ ws.length →
      (∀ k ∈ l.drop i.toNat, findP k (pairsP ws) = findP k (pairsL ws (l.drop i.toNat) P.length)) →
    ev EE (.loop lp21_2 [1, 2, 4, 6, 7, 8, 9, 36, 37, 38] [1, 2, 4, 5, 6, 7, 8, 9] { np := 0, tm := [(1, IS rs), (2, .bx 0 0), (4, .bx 1 0), (6, .bx 2 0), (7, .rf 0 0 (kindsP ws).length), (8, .mp 3), (9, int P.length), (36, .rf 1 0 l.length), (37, int l.length), (38, int i)], ar := [(0, .a false (ints (kindsP ws))), (1, .a false (ints l)), (2, .a false (ints (P ++ List.replicate (ws.length - P.length) 0)))], bx := [(0, .b [IS ws]), (1, .b [.ls true []]), (2, .b [.rf 2 0 ws.length]), (3, .m (mapL (pairsP ws) 0, nn))] }) =
    some (.out (.exit 0) { np := 0, tm := [(1, IS rs), (2, .bx 0 0), (4, .bx 1 0), (6, .bx 2 0), (7, .rf 0 0 (kindsP ws).length), (8, .mp 3), (9, int (P ++ outS ws l (l.drop i.toNat)).length)], ar := [(0, .a false (ints (kindsP ws))), (1, .a false (ints ((P ++ outS ws l (l.drop i.toNat)) ++ List.replicate (ws.length - (P ++ outS ws l (l.drop i.toNat)).length) 0)))], bx := [(0, .b [IS ws]), (1, .b [.ls true []]), (2, .b [.rf 1 0 ws.length]), (3, .m (mapL (pairsP ws) 0, nn))] }) := by
  intro m
  induction m with
  | zero =>
    intro i P h0 h1 h2 h3 h4
    rw [ev_loop EE lp21_2.eq_1]
    have h5 : ¬ (i < l.length) := by omega
    have h6 : l.drop i.toNat = [] := List.drop_eq_nil_of_le (by omega)
    rw [h6]
    simp (decide := true) [h5, outS]
  | succ m ihm =>
    intro i P h0 h1 h2 h3 h4
    rw [ev_loop EE lp21_2.eq_1]
    obtain ⟨hw2, hc⟩ := blks_chain hb
    have hi : i < l.length := by omega
    have ha := wI_mem h0 hi
    obtain ⟨k0, k2, k3, k4, k5⟩ := hc.mem ha
    have hln := hc.len (by omega)
    have g1 := ints_getI l i h0 hi
    have g2 := ints_getI ws (wI l i) k0 k2
    have w1 := wrap64_id (i + 1) (by omega) (by omega)
    have hlt : ∀ y ∈ l.drop (i + 1).toNat, wI l i + wI ws (wI l i) / 8 ≤ y := by
      intro y hy
      have hs' := hc.sub.drop (i := i.toNat)
      rw [drop_wI h0 hi] at hs'
      exact (List.pairwise_cons.1 hs').1 y hy
    have hnx : m = 0 ∨ wI l i + wI ws (wI l i) / 8 ≤ wI l (i + 1) := by
      by_cases hm0 : m = 0
      · exact .inl hm0
      · right
        apply hlt
        rw [drop_wI (i := i + 1) (by omega) (by omega)]
        simp
    have hfk := h4 (wI l i) (by rw [drop_wI h0 hi]; simp)
    have hfr : ∀ k ∈ l.drop (i + 1).toNat, findP k (pairsP ws) = findP k (pairsL ws (wI l i :: l.drop (i + 1).toNat) P.length) := by
      intro k hk
      rw [← drop_wI h0 hi]
      exact h4 k (by rw [drop_wI h0 hi]; simp [hk])
    rw [drop_wI h0 hi] at hfk ⊢
    obtain ⟨f, hf⟩ := mfind_mapL (wI l i) (pairsP ws) 0
    simp only [outS]
    simp only [pairsL] at hfk hfr
    by_cases hk : wI ws (wI l i) % 8 = 0
    · rw [if_pos hk] at hfk ⊢
      have hn := findP_none (wI l i) (pairsL ws (l.drop (i + 1).toNat) P.length) (fun p hp => by
        have := hlt _ (pairsL_fst ws _ _ p hp)
        omega)
      rw [hn] at hfk
      rw [hfk] at hf
      simp only [Option.map_none] at hf
      have ih := ihm (i + 1) P (by omega) (by omega) (by omega) h3 (fun k hk' => by have := hfr k hk'; rw [if_pos hk] at this; exact this)
      generalize P ++ List.replicate (ws.length - P.length) 0 = O at *
      simp only [int] at ih
      simp (decide := true) [h0, hi, g1, w1, hf, ih, keyOk]
    · rw [if_neg hk] at hfk ⊢
      simp only [findP, if_true] at hfk
      rw [hfk] at hf
      simp only [Option.map_some] at hf
      have hPn : (P.length : Int) + wI ws (wI l i) / 8 ≤ ws.length := by omega
      have hbs := blk_step hb hs (wI l i) ha P hPn
      have hbl := blkR_len ws l (wI l i) (wI ws (wI l i) / 8).toNat 0
      have h51 := e51 ws hw l hc (wI l i) ha
      have hsl := slotL_len ws (wI l i) k3
      have hinn := lp21_1' ws hw l (kindsP ws) hc (kindsP_ok hb) (pairsP ws) nn rs (wI l i) P.length (wI ws (wI l i) / 8) i (slotL ws (wI l i)) (fun x hx => by have := slotL_in ws (wI l i) k3 hx; omega) (by omega) (by omega) (by omega) (slotL ws (wI l i)).length ((P ++ List.replicate (ws.length - P.length) 0).take P.length ++ subI ws (wI l i) (wI ws (wI l i) / 8) ++ (P ++ List.replicate (ws.length - P.length) 0).drop (P.length + (wI ws (wI l i) / 8).toNat)) 0 (by
          have hsn := subI_len ws (wI l i) (wI ws (wI l i) / 8) k0 (by omega) (by omega)
          simp; omega) (by omega) (by omega)
      rw [hbs] at hinn
      have ih := ihm (i + 1) (P ++ blkR ws l (wI l i) (wI ws (wI l i) / 8).toNat 0) (by omega) (by omega) (by rw [List.length_append, hbl]; omega) (by rw [List.length_append, hbl]; omega) (fun k hk' => by
        have := hfr k hk'
        rw [if_neg hk] at this
        simp only [findP] at this
        rw [if_neg (by have := hlt k hk'; omega)] at this
        rw [this, List.length_append, hbl]
        congr 2
        omega)
      have hPB : (((P ++ blkR ws l (wI l i) (wI ws (wI l i) / 8).toNat 0).length : Nat) : Int) = P.length + wI ws (wI l i) / 8 := by rw [List.length_append, hbl]; omega
      rw [hPB] at ih
      generalize (P ++ blkR ws l (wI l i) (wI ws (wI l i) / 8).toNat 0) ++ List.replicate (ws.length - (P ++ blkR ws l (wI l i) (wI ws (wI l i) / 8).toNat 0).length) 0 = O2 at *
      rw [List.append_assoc P] at ih
      have hO : (P ++ List.replicate (ws.length - P.length) (0 : Int)).length = ws.length := by simp; omega
      have hsn := subI_len ws (wI l i) (wI ws (wI l i) / 8) k0 (by omega) (by omega)
      generalize P ++ List.replicate (ws.length - P.length) 0 = O at *
      have w2 := wrap64_id (P.length + wI ws (wI l i) / 8) (by omega) (by omega)
      have w3 := wrap64_id (wI l i + wI ws (wI l i) / 8) (by omega) (by omega)
      have c1 : 0 ≤ wI l i + wI ws (wI l i) / 8 := by omega
      have c2 : (wI l i + wI ws (wI l i) / 8).toNat ≤ ws.length := by omega
      have c3 : (wI l i).toNat ≤ (wI l i + wI ws (wI l i) / 8).toNat := by omega
      have c4 : wI l i ≤ wI l i + wI ws (wI l i) / 8 := by omega
      have c5 : wI l i + wI ws (wI l i) / 8 ≤ ws.length := by omega
      have c6 : 0 ≤ wI ws (wI l i) / 8 := by omega
      have c7 : P.length ≤ ws.length := by omega
      have hsub : (ws.drop (wI l i).toNat).take ((wI l i + wI ws (wI l i) / 8).toNat - (wI l i).toNat) = subI ws (wI l i) (wI ws (wI l i) / 8) := by
        simp only [subI]; congr 1; omega
      have hmin : min (subI ws (wI l i) (wI ws (wI l i) / 8)).length (ws.length - P.length) = (wI ws (wI l i) / 8).toNat := by omega
      have hts : (subI ws (wI l i) (wI ws (wI l i) / 8)).take (wI ws (wI l i) / 8).toNat = subI ws (wI l i) (wI ws (wI l i) / 8) := List.take_of_length_le (by omega)
      rw [List.append_assoc] at hinn
      simp only [int] at ih hinn h51
      simp (decide := true) [h0, hi, k0, k2, g1, g2, w1, w2, w3, hf, c1, c2, c3, c4, c5, c6, c7, hsub, hmin, hts, hO, h51, hinn, ih, keyOk, ints_take, ints_drop]
end Go.Pv

namespace Go.Pv
set_option maxRecDepth 100000
set_option maxHeartbeats 4000000
set_option linter.unusedSimpArgs false
set_option linter.unusedVariables false
def nm2 (acc : List Int) : Nat := if acc = [] then 1 else 2
@[simp] theorem nm2_nil : nm2 [] = 1 := rfl
@[simp] theorem nm2_cons (x : Int) (l : List Int) : nm2 (x :: l) = 2 := by simp [nm2]
@[simp] theorem nm2_snoc (x : Int) (l : List Int) : nm2 (l ++ [x]) = 2 := by simp [nm2]
theorem lp21_0' (ws : List Int) (hw : ws.length ≤ 1048576) (l : List Int) (hb : blks ws = some l) (hs : heapS ws = true) (nn : Nat) (rs : List Int) (hr : rs.length ≤ 1048576) (hg : ∀ v ∈ rs, goodV ws l v) (O : List Int) : ∀ (m : Nat) (i : Int) (acc : List Int), 0 ≤ i → i + m = rs.length → (acc.length : Int) ≤ i →
    ev EE (.loop lp21_0 [4, 6, 7, 8, 18, 111, 112, 113] [4, 5, 6, 18] { np := 0, tm := [(4, .bx 0 0), (6, .bx 1 0), (7, .rf 0 0 (kindsP ws).length), (8, .mp 2), (18, rowVn 1 acc), (111, IS rs), (112, int rs.length), (113, int i)], ar := [(0, .a false (ints (kindsP ws)))] ++ rowAn 1 acc ++ [(nm2 acc, .a false (ints O))], bx := [(0, .b [.ls true []]), (1, .b [.rf (nm2 acc) 0 O.length]), (2, .m (mapL (pairsP ws) 0, nn))] }) =
    some (.out (.exit 4) { np := 0, tm := [(4, .bx 0 0), (6, .bx 1 0), (18, rowVn 0 (acc ++ (rs.drop i.toNat).map (movedS ws l)))], ar := rowAn 0 (acc ++ (rs.drop i.toNat).map (movedS ws l)) ++ [(nm1 (acc ++ (rs.drop i.toNat).map (movedS ws l)), .a false (ints O))], bx := [(0, .b [.ls true []]), (1, .b [.rf (nm1 (acc ++ (rs.drop i.toNat).map (movedS ws l))) 0 O.length])] }) := by
  intro m
  induction m with
  | zero =>
    intro i acc h0 h1 h2
    rw [ev_loop EE lp21_0.eq_1]
    have h3 : ¬ (i < rs.length) := by omega
    have h6 : rs.drop i.toNat = [] := List.drop_eq_nil_of_le (by omega)
    rw [h6]
    cases acc with
    | nil => simp (decide := true) [h3]
    | cons x acc => simp (decide := true) [h3]
  | succ m ihm =>
    intro i acc h0 h1 h2
    rw [ev_loop EE lp21_0.eq_1]
    obtain ⟨hw2, hc⟩ := blks_chain hb
    have hi : i < rs.length := by omega
    have g1 := ints_getI rs i h0 hi
    have w1 := wrap64_id (i + 1) (by omega) (by omega)
    have h43 := e43 ws l (kindsP ws) hw (pairsP ws) (.inr ⟨hc, kindsP_ok hb⟩) nn (wI rs i)
    rw [movI_good hb hs (hg _ (wI_mem h0 hi))] at h43
    have ih := ihm (i + 1) (acc ++ [movedS ws l (wI rs i)]) (by omega) (by omega) (by simp; omega)
    rw [drop_wI h0 hi]
    simp only [int] at ih h43
    simp only [List.map_cons]
    generalize (rs.drop (i + 1).toNat).map (movedS ws l) = R at *
    cases acc with
    | nil =>
      simp at ih
      simp (decide := true) [h0, hi, g1, w1, h43, ih, lim, maxB]
    | cons x acc =>
      simp at ih h2
      have hl : (acc.length + 1 + 1) * 8 ≤ 140737488351232 := by omega
      simp (decide := true) [h0, hi, g1, w1, h43, ih, hl, lim, maxB]
theorem tailR_rep (R : Int) : ∀ (n : Nat) (k : Int), 0 < k → tailR R n k = List.replicate n 0
  | 0, _, _ => rfl
  | n + 1, k, h => by
    simp only [tailR, List.replicate_succ]
    rw [if_neg (by omega), tailR_rep R n (k + 1) (by omega)]
theorem tail_eq (P : List Int) (N : Nat) (h : P.length < N) : (P ++ List.replicate (N - P.length) 0).set P.length (8 * ((N : Int) - P.length)) = P ++ tailR ((N : Int) - P.length) ((N : Int) - P.length).toNat 0 := by
  obtain ⟨n, hn⟩ : ∃ n, N - P.length = n + 1 := ⟨N - P.length - 1, by omega⟩
  have h2 : ((N : Int) - P.length).toNat = n + 1 := by omega
  rw [hn, h2, List.set_append_right _ _ (Nat.le_refl _)]
  simp only [Nat.sub_self, List.replicate_succ, List.set_cons_zero, tailR, if_true]
  rw [tailR_rep _ _ _ (by omega)]
theorem e21 (ws rs : List Int) (hw : ws.length ≤ 1048576) (hr : rs.length ≤ 1048576) : ev EE (.call 21 [SL ws, IS rs] []) = some (.val (.tu [.ag [.ls true (ints (slideW ws rs))], .ls true (ints (slideR ws rs))]) []) := by
  rw [ev_eq]
  have h50 := e50 ws rs hw hr
  unfold slideW slideR
  cases hq : rootsS ws rs with
  | false =>
    rw [hq] at h50
    simp only [bool] at h50
    simp (decide := true) [ir21, h50, one1]
  | true =>
    rw [hq] at h50
    obtain ⟨hs, l, hb⟩ := roots_blks hq
    obtain ⟨hw2, hc⟩ := blks_chain hb
    have h44 := e44 ws hw
    obtain ⟨nn, h45⟩ := e45 ws hw
    have h40 := e40 ws
    rw [hb] at h40
    simp only [Option.getD_some] at h40
    have hm0 : l.length = 0 ∨ ((([] : List Int).length : Nat) : Int) ≤ wI l 0 := by
      by_cases hz : l.length = 0
      · exact .inl hz
      · right
        have := (hc.mem (wI_mem (by omega) (by omega : (0 : Int) < l.length))).1
        simpa using this
    have hol := outS_len (l := l) hc
    have h2 := lp21_2' ws hw l hb hs nn rs l.length 0 [] (by omega) (by omega) hm0 (by simp) (fun k hk => by simp [pairsP, hs, hb])
    simp only [show (0 : Int).toNat = 0 from rfl, List.drop_zero, List.nil_append, List.length_nil, Nat.sub_zero, show (((0 : Nat) : Int)) = 0 from rfl] at h2
    have hfin : ∀ O : List Int, O.length = ws.length → _ := fun O hO => lp21_0' ws hw l hb hs nn rs hr (gd_of_roots hb hq) O rs.length 0 [] (by omega) (by omega) (by simp)
    simp only [show (0 : Int).toNat = 0 from rfl, List.drop_zero, List.nil_append, rowVn_nil, rowAn_nil, nm2_nil] at hfin
    have w1 := wrap64_id (ws.length - (outS ws l l).length) (by omega) (by omega)
    have w2 := wrap64_id (8 * ((ws.length : Int) - (outS ws l l).length)) (by omega) (by omega)
    have hPl : (outS ws l l).length ≤ ws.length := by omega
    have b1 : ws.length * 8 ≤ 140737488351232 := by omega
    have b2 : (0 : Int) ≤ ws.length := by omega
    simp only [hb, Option.getD_some, if_true]
    have hrest : restI ws l = (ws.length : Int) - (outS ws l l).length := rfl
    rw [hrest]
    by_cases hlt : (outS ws l l).length < ws.length
    · have ht := tail_eq (outS ws l l) ws.length hlt
      have hlen : ((outS ws l l) ++ List.replicate (ws.length - (outS ws l l).length) (0 : Int)).length = ws.length := by simp; omega
      have hlen2 : ((outS ws l l) ++ tailR ((ws.length : Int) - (outS ws l l).length) ((ws.length : Int) - (outS ws l l).length).toNat 0).length = ws.length := by rw [← ht, List.length_set]; exact hlen
      have h0 := hfin _ hlen2
      have g3 := ints_getI ((outS ws l l) ++ List.replicate (ws.length - (outS ws l l).length) (0 : Int)) (outS ws l l).length (by omega) (by omega)
      have d1 : (0 : Int) < ws.length - (outS ws l l).length := by omega
      have d2 : ((outS ws l l).length : Int) < ws.length := by omega
      rw [show (((outS ws l l).length : Nat) : Int).toNat = (outS ws l l).length by omega] at g3
      rw [hlen2] at h0
      generalize (outS ws l l) ++ tailR ((ws.length : Int) - (outS ws l l).length) ((ws.length : Int) - (outS ws l l).length).toNat 0 = T at *
      generalize (outS ws l l) ++ List.replicate (ws.length - (outS ws l l).length) 0 = O at *
      generalize rs.map (movedS ws l) = M at *
      generalize (outS ws l l).length = p at *
      have g3' : ∀ h : p < (ints O).length, (ints O)[p] = [.sc (.int .i64 (wI O p))] := by
        intro h
        have := List.getElem?_eq_getElem h
        rw [g3] at this
        exact (Option.some.inj this).symm
      have htT : List.take ws.length T = T := List.take_of_length_le (by omega)
      simp only [int, bool] at h50 h2 h0
      cases M with
      | nil => simp at h0; simp (decide := true) [ir21, h50, h44, h45, h40, h2, h0, w1, w2, d1, d2, hlt, hlen, hlen2, ht, g3, g3', htT, b1, b2, lim, maxB, clo1, one1]
      | cons m M => simp at h0; simp (decide := true) [ir21, h50, h44, h45, h40, h2, h0, w1, w2, d1, d2, hlt, hlen, hlen2, ht, g3, g3', htT, b1, b2, lim, maxB, clo1, one1]
    · have he : (outS ws l l).length = ws.length := by omega
      have hz : (ws.length : Int) - (outS ws l l).length = 0 := by omega
      have hT : tailR 0 (0 : Int).toNat 0 = [] := rfl
      rw [hz, hT, List.append_nil]
      rw [he] at h2
      simp only [Nat.sub_self, List.replicate_zero, List.append_nil] at h2
      have h0 := hfin _ he
      rw [he] at h0 w1
      have w3 := wrap64_id 0 (by omega) (by omega)
      generalize outS ws l l = O at *
      have htO : List.take ws.length O = O := List.take_of_length_le (by omega)
      generalize rs.map (movedS ws l) = M at *
      simp only [int, bool] at h50 h2 h0
      cases M with
      | nil => simp at h0; simp (decide := true) [ir21, h50, h44, h45, h40, h2, h0, w1, w3, he, htO, b1, b2, lim, maxB, clo1, one1]
      | cons m M => simp at h0; simp (decide := true) [ir21, h50, h44, h45, h40, h2, h0, w1, w3, he, htO, b1, b2, lim, maxB, clo1, one1]
end Go.Pv

namespace Go.Pv
set_option maxRecDepth 100000
set_option maxHeartbeats 8000000
set_option linter.unusedSimpArgs false
set_option linter.unusedVariables false
theorem tailR_len (R : Int) : ∀ (n : Nat) (k : Int), (tailR R n k).length = n
  | 0, _ => rfl
  | n + 1, k => by simp [tailR, tailR_len R n]
theorem slideW_len (ws rs : List Int) (hw : ws.length ≤ 1048576) : (slideW ws rs).length ≤ 1048576 := by
  unfold slideW
  split
  · rename_i hq
    obtain ⟨hs, l, hb⟩ := roots_blks hq
    have hc := (blks_chain hb).2
    have := outS_len (l := l) hc
    rw [hb]
    simp only [Option.getD_some, List.length_append, tailR_len, restI]
    omega
  · simp
theorem slideR_len (ws rs : List Int) (hr : rs.length ≤ 1048576) : (slideR ws rs).length ≤ 1048576 := by
  unfold slideR
  split
  · simpa using hr
  · simp
theorem e5 (ws rs : List Int) (hlen : (ws.length : Int) ≤ 9223372036854775807) : ev EE (.call 5 [SL ws, IS rs] []) = some (.val (bool true) []) := by
  rw [ev_eq]
  by_cases hr : (1048576 : Int) < rs.length
  · simp (decide := true) [ir5, hr]
  have hr' : rs.length ≤ 1048576 := by omega
  have h8 := e8 ws 1048576 (by omega) (by omega) hlen
  by_cases hw : (1048576 : Int) - ws.length < 0
  · rw [if_pos hw] at h8
    simp only [int] at h8
    simp (decide := true) [ir5, hr, h8]
  rw [if_neg hw] at h8
  have hw' : ws.length ≤ 1048576 := by omega
  have h10 := e10 ws hw'
  have h20 := e20 rs hr'
  have h19 := e19 ws rs hw' hr'
  have h21 := e21 ws rs hw' hr'
  have hA := slideW_len ws rs hw'
  have hB := slideR_len ws rs hr'
  generalize slideW ws rs = A at *
  generalize slideR ws rs = B at *
  have c13 := e13 ws hw'
  have c12 := e12 rs hr'
  have a13 := e13 A hA
  have b12 := e12 B hB
  have m14 := e14 ws hw' 1 (by omega) (by omega)
  have m15 := e15 rs hr' (1 + ws.length) (by omega) (by omega)
  have n14 := e14 A hA 1 (by omega) (by omega)
  have n15 := e15 B hB (1 + A.length) (by omega) (by omega)
  have hK : (markR A.length A 0 1).length = A.length := markR_len _ _ _ _
  have hL : (markR B.length B 0 (1 + A.length)).length = B.length := markR_len _ _ _ _
  have q22 := e22 (markR A.length A 0 1) (by omega) 1 (by omega) (by omega) (fun j q1 q2 => by
    rw [hK] at q2
    rw [markR_wI _ _ _ _ _ (by omega) (by omega) q1, if_pos (by omega)]
    omega)
  have q16 := e16 (markR B.length B 0 (1 + A.length)) (by omega) (1 + A.length) (by omega) (by omega) (fun j q1 q2 => by
    rw [hL] at q2
    rw [markR_wI _ _ _ _ _ (by omega) (by omega) q1, if_pos (by omega)]
    omega)
  rw [hK] at q22
  rw [hL] at q16
  have hX : (markR ws.length ws 0 1).length = ws.length := markR_len _ _ _ _
  have hY : (markR rs.length rs 0 (1 + ws.length)).length = rs.length := markR_len _ _ _ _
  generalize markR A.length A 0 1 = K at *
  generalize markR B.length B 0 (1 + A.length) = L at *
  generalize markR ws.length ws 0 1 = X at *
  generalize markR rs.length rs 0 (1 + ws.length) = Y at *
  have tK : List.take A.length K = K := List.take_of_length_le (by omega)
  have tL : List.take B.length L = L := List.take_of_length_le (by omega)
  have b1 : ¬ ((1 : Int) + ws.length + rs.length < 0) := by omega
  have b2 : ¬ ((1 : Int) + A.length < 0) := by omega
  have b3 : ¬ ((1 : Int) + A.length + B.length < 0) := by omega
  simp only [int, bool] at h8 h10 h20 h19 h21 c13 c12 a13 b12 m14 m15 n14 n15 q22 q16
  simp (decide := true) (maxSteps := 2000000) [ir5, hr, h8, hw, h10, h20, h19, h21, c13, c12, a13, b12, m14, m15, n14, n15, q22, q16, hK, hL, hX, hY, tK, tL, b1, b2, b3, one1]
end Go.Pv
