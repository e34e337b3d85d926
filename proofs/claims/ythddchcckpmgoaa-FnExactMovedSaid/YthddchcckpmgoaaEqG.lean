/- Proof: the law Moved answers true. No condition. -/
import Derived.Test.YthddchcckpmgoaaEqE
import Derived.Test.YthddchcckpmgoaaEqF
set_option autoImplicit true
set_option relaxedAutoImplicit true
set_option linter.unusedSimpArgs false
set_option linter.unusedVariables false
namespace Go.Pv
set_option maxRecDepth 8000
set_option maxHeartbeats 4000000
set_option linter.unusedSimpArgs false
set_option linter.unusedVariables false
theorem lenP_rf' (a o n : Nat) : lenP (.rf a o n) = some (.sc (.int .i64 n)) := nr rfl
/-! the map of new places -/
def mapL : List (Int × Int) → Nat → List ((V × V) × Nat)
  | [], _ => []
  | p :: r, n => ((.sc (.int .i64 p.1), .sc (.int .i64 p.2)), n) :: mapL r (n + 1)
def findP (x : Int) : List (Int × Int) → Option Int
  | [] => none
  | p :: r => if x = p.1 then some p.2 else findP x r
theorem mfind_mapL (x : Int) : ∀ (ps : List (Int × Int)) (n : Nat), ∃ f : Int → Nat, mfind (.sc (.int .i64 x)) (mapL ps n) = some ((findP x ps).map fun t => (.sc (.int .i64 t), f t))
  | [], n => ⟨fun _ => 0, rfl⟩
  | p :: r, n => by
    obtain ⟨f, hf⟩ := mfind_mapL x r (n + 1)
    by_cases h : x = p.1
    · exact ⟨fun _ => n, by simp [mapL, mfind, eqKey, findP, h]⟩
    · exact ⟨f, by simp [mapL, mfind, eqKey, findP, h, hf]⟩
theorem mfind_none (x : Int) : ∀ (ps : List (Int × Int)) (n : Nat), (∀ p ∈ ps, p.1 ≠ x) → mfind (.sc (.int .i64 x)) (mapL ps n) = some none
  | [], n, _ => rfl
  | p :: r, n, h => by
    have h1 : ¬ (x = p.1) := fun e => h p (by simp) e.symm
    simp [mapL, mfind, eqKey, h1, mfind_none x r (n + 1) (fun q hq => h q (by simp [hq]))]
theorem mapL_len : ∀ (ps : List (Int × Int)) (n : Nat), (mapL ps n).length = ps.length
  | [], n => rfl
  | p :: r, n => by simp [mapL, mapL_len r]
theorem mborn_mapL (k z v : Int) : ∀ (ps : List (Int × Int)) (n : Nat), mborn ((n + ps.length : Nat) : Int) (.sc (.int .i64 v)) (mapL ps n ++ [((.sc (.int .i64 k), .sc (.int .i64 z)), n + ps.length)]) = some (mapL (ps ++ [(k, v)]) n)
  | [], n => by simp [mapL, mborn]
  | p :: r, n => by
    have h := mborn_mapL k z v r (n + 1)
    rw [show n + 1 + r.length = n + (p :: r).length by simp; omega] at h
    simp only [mapL, List.cons_append, mborn]
    rw [if_neg (by simp; omega), h]
    rfl
def pairsL (ws : List Int) : List Int → Int → List (Int × Int)
  | [], _ => []
  | k :: l, t => if wI ws k % 8 = 0 then pairsL ws l t else (k, t) :: pairsL ws l (t + wI ws k / 8)
theorem pairsL_fst (ws : List Int) : ∀ (l : List Int) (t : Int), ∀ p ∈ pairsL ws l t, p.1 ∈ l
  | [], t, p, h => by simp [pairsL] at h
  | k :: l, t, p, h => by
    simp only [pairsL] at h
    split at h
    · exact List.mem_cons_of_mem _ (pairsL_fst ws l _ p h)
    · rcases List.mem_cons.1 h with rfl | h
      · simp
      · exact List.mem_cons_of_mem _ (pairsL_fst ws l _ p h)
theorem lp45 (ws : List Int) (hw : ws.length ≤ 1048576) (l : List Int) (hc : Chain ws 0 l) (fl : List Int) : ∀ (m : Nat) (i t : Int) (ps : List (Int × Int)) (off len : Nat), 0 ≤ i → i + m = l.length → fl.drop off = fwdL ws (l.drop i.toNat) t → off + len = fl.length → (∀ p ∈ ps, ∀ y ∈ l.drop i.toNat, p.1 ≠ y) → ps.length ≤ i →
    ∃ off' len', ev EE (.loop lp45_0 [1, 3, 4, 11, 12, 13] [2, 3] { np := 0, tm := [(1, .bx 0 0), (3, .mp 1), (4, .rf 0 off len), (11, .rf 1 0 l.length), (12, int l.length), (13, int i)], ar := [(0, .a false (ints fl)), (1, .a false (ints l))], bx := [(0, .b [IS ws]), (1, .m (mapL ps 0, ps.length))] }) =
    some (.out (.exit 0) { np := 0, tm := [(3, .mp 0)], ar := [], bx := [(0, .m (mapL (ps ++ pairsL ws (l.drop i.toNat) t) 0, off'))] }) ∧ len' = 0
  | 0, i, t, ps, off, len, h0, h1, h2, h3, h4, h5 => by
    refine ⟨ps.length, 0, ?_, rfl⟩
    rw [ev_loop EE lp45_0.eq_1]
    have h6 : ¬ (i < l.length) := by omega
    have h7 : l.drop i.toNat = [] := List.drop_eq_nil_of_le (by omega)
    rw [h7]
    simp [h6, pairsL]
  | m + 1, i, t, ps, off, len, h0, h1, h2, h3, h4, h5 => by
    have hi : i < l.length := by omega
    have hm := hc.mem (wI_mem h0 hi)
    have hln := hc.len (by omega)
    have g1 := ints_getI l i h0 hi
    have g2 := ints_getI ws (wI l i) hm.1 hm.2.1
    have w1 := wrap64_id (i + 1) (by omega) (by omega)
    rw [drop_wI h0 hi] at h2 h4 ⊢
    simp only [fwdL, pairsL] at h2 ⊢
    have hfl : fl.length - off = len := by omega
    by_cases hk : wI ws (wI l i) % 8 = 0
    · rw [if_pos hk] at h2 ⊢
      obtain ⟨off', len', ih, he⟩ := lp45 ws hw l hc fl m (i + 1) t ps off len (by omega) (by omega) h2 h3 (fun p hp y hy => h4 p hp y (by simp [hy])) (by omega)
      refine ⟨off', len', ?_, he⟩
      rw [ev_loop EE lp45_0.eq_1]
      simp only [int] at ih
      by_cases hl : (0 : Int) < len
      · have hl' : 0 < len := by omega
        simp (decide := true) [-lenP_rf, lenP_rf', h0, hi, hm, g1, g2, w1, hk, ih, hl, hl']
      · have hl' : ¬ 0 < len := by omega
        simp (decide := true) [-lenP_rf, lenP_rf', h0, hi, hm, g1, g2, w1, hk, ih, hl, hl']
    · rw [if_neg hk] at h2 ⊢
      have hlen : 0 < len := by
        have := congrArg List.length h2
        simp at this
        omega
      have hx : fl[off]? = some t := by
        have := congrArg (fun l => l[0]?) h2
        simpa using this
      have hd : fl.drop (off + 1) = fwdL ws (l.drop (i + 1).toNat) (t + wI ws (wI l i) / 8) := by
        have := congrArg (List.drop 1) h2
        simpa [List.drop_drop, Nat.add_comm] using this
      have hwf : wI fl off = t := by
        have hlt : off < fl.length := by omega
        simp only [wI]
        rw [show ((off : Int)).toNat = off by omega, List.getD_eq_getElem?_getD, hx]
        rfl
      have g3 := ints_getI fl off (by omega) (by omega)
      rw [hwf, show ((off : Int)).toNat = off by omega] at g3
      have g3' : ∀ h : off < (ints fl).length, (ints fl)[off] = [.sc (.int .i64 t)] := by
        intro h
        have := List.getElem?_eq_getElem h
        rw [g3] at this
        exact (Option.some.inj this).symm
      have hl : (0 : Int) < len := by omega
      have e1 : 1 ≤ len := by omega
      have e2 : off + len ≤ fl.length := by omega
      have hnk := mfind_none (wI l i) ps 0 (fun p hp => h4 p hp _ (by simp))
      have hbn := mborn_mapL (wI l i) 0 t ps 0
      rw [Nat.zero_add] at hbn
      have hpos : off < fl.length := by omega
      obtain ⟨off', len', ih, he⟩ := lp45 ws hw l hc fl m (i + 1) (t + wI ws (wI l i) / 8) (ps ++ [(wI l i, t)]) (off + 1) (len - 1) (by omega) (by omega) hd (by omega) (by
        intro p hp y hy
        rcases List.mem_append.1 hp with hp | hp
        · exact h4 p hp y (by simp [hy])
        · simp at hp
          subst hp
          have hs := hc.sub.drop (i := i.toNat)
          rw [drop_wI h0 hi] at hs
          have := (List.pairwise_cons.1 hs).1 y hy
          simp only
          have h9 := hm.2.2.1
          omega) (by simp; omega)
      refine ⟨off', len', ?_, he⟩
      rw [ev_loop EE lp45_0.eq_1]
      simp only [int, List.length_append, List.length_singleton, List.append_assoc, List.singleton_append] at ih
      simp (decide := true) [-lenP_rf, lenP_rf', h0, hi, hm, g1, g2, g3, g3', w1, hk, ih, hl, hlen, e1, e2, hnk, hbn, hpos, keyOk, flat1]
end Go.Pv

namespace Go.Pv
set_option maxRecDepth 8000
set_option maxHeartbeats 4000000
set_option linter.unusedSimpArgs false
set_option linter.unusedVariables false
def pairsP (ws : List Int) : List (Int × Int) := if heapS ws then pairsL ws ((blks ws).getD []) 0 else []
theorem lp45z (ws : List Int) (hw : ws.length ≤ 1048576) (l : List Int) (hl : l.length ≤ 1048576) : ∀ (m : Nat) (i : Int), 0 ≤ i → i + m = l.length →
    ev EE (.loop lp45_0 [1, 3, 4, 11, 12, 13] [2, 3] { np := 0, tm := [(1, .bx 0 0), (3, .mp 1), (4, .rf 0 0 0), (11, .rf 1 0 l.length), (12, int l.length), (13, int i)], ar := [(0, .a false (ints [])), (1, .a false (ints l))], bx := [(0, .b [IS ws]), (1, .m ([], 0))] }) =
    some (.out (.exit 0) { np := 0, tm := [(3, .mp 0)], ar := [], bx := [(0, .m ([], 0))] })
  | 0, i, h0, h1 => by
    rw [ev_loop EE lp45_0.eq_1]
    have h6 : ¬ (i < l.length) := by omega
    simp [h6]
  | m + 1, i, h0, h1 => by
    rw [ev_loop EE lp45_0.eq_1]
    have hi : i < l.length := by omega
    have g1 := ints_getI l i h0 hi
    have w1 := wrap64_id (i + 1) (by omega) (by omega)
    have ih := lp45z ws hw l hl m (i + 1) (by omega) (by omega)
    simp only [int] at ih
    simp (decide := true) [-lenP_rf, lenP_rf', h0, hi, g1, w1, ih]
theorem e45 (ws : List Int) (hw : ws.length ≤ 1048576) : ∃ n, ev EE (.call 45 [SL ws] []) = some (.val (.mp 0) [.m (mapL (pairsP ws) 0, n)]) := by
  have h11 := e11 ws hw
  have h40 := e40 ws
  unfold pairsP
  cases hs : heapS ws with
  | false =>
    have hF : fwdP ws = [] := by simp [fwdP, hs]
    rw [hF] at h11
    have hl2 : ((blks ws).getD []).length ≤ 1048576 := by
      cases hb : blks ws with
      | none => simp
      | some l =>
        have := (blks_chain hb).2.len (by omega)
        simp; omega
    have h := lp45z ws hw ((blks ws).getD []) hl2 ((blks ws).getD []).length 0 (by omega) (by omega)
    generalize (blks ws).getD [] = l at *
    simp only [int] at h
    refine ⟨0, ?_⟩
    rw [ev_eq]
    simp (decide := true) [ir45, h11, h40, h, mapL]
  | true =>
    have hs' := hs
    unfold heapS at hs'
    cases hb : blks ws with
    | none => rw [hb] at hs'; cases hs'
    | some l =>
      have hc := (blks_chain hb).2
      have hF : fwdP ws = fwdL ws l 0 := by simp [fwdP, hs, hb]
      rw [hF] at h11
      rw [hb] at h40
      simp only [Option.getD_some] at h40
      obtain ⟨n, _, h, _⟩ := lp45 ws hw l hc (fwdL ws l 0) l.length 0 0 [] 0 (fwdL ws l 0).length (by omega) (by omega) (by simp) (by omega) (by simp) (by simp)
      simp only [int, mapL, List.length_nil, List.nil_append, show (0 : Int).toNat = 0 from rfl, List.drop_zero] at h
      refine ⟨n, ?_⟩
      rw [ev_eq]
      simp (decide := true) [ir45, h11, h40, h]
def movI (ws l : List Int) (ps : List (Int × Int)) (v : Int) : Int := match findP (v / 8) ps with | some t => if leadsI ws l v then refOf (v % 8) t else v | none => v
theorem e43 (ws l all : List Int) (hw : ws.length ≤ 1048576) (ps : List (Int × Int)) (hok : ps = [] ∨ (Chain ws 0 l ∧ KindsOk ws l all)) (n : Nat) (v : Int) : ev EE (.call 43 [IS all, .mp 0, int v] [.m (mapL ps 0, n)]) = some (.val (int (movI ws l ps v)) [.m (mapL ps 0, n)]) := by
  rw [ev_eq]
  obtain ⟨f, hf⟩ := mfind_mapL (v / 8) ps 0
  unfold movI
  cases hp : findP (v / 8) ps with
  | none =>
    rw [hp] at hf
    simp only [Option.map_none] at hf
    simp (decide := true) [ir43, hf, keyOk]
  | some t =>
    rw [hp] at hf
    simp only [Option.map_some] at hf
    rcases hok with h0 | ⟨hc, hk⟩
    · subst h0; simp [findP] at hp
    · have h82 := e82 ws l all hw hc hk v
      simp only [int, bool] at h82
      by_cases hl : leadsI ws l v = true
      · simp (decide := true) [ir43, hf, keyOk, h82, hl]
      · rw [Bool.not_eq_true] at hl
        rw [hl] at h82
        simp (decide := true) [ir43, hf, keyOk, h82, hl]
theorem toOf_lt (ws : List Int) : ∀ (l : List Int) (a x : Int), Chain ws a l → x ∈ l → toOf ws l x ≤ x - a
  | [], a, x, _, h => by cases h
  | k :: l, a, x, hc, h => by
    obtain ⟨rfl, h2, h3, h4, h5, h6⟩ := hc
    simp only [toOf]
    rcases List.mem_cons.1 h with rfl | h
    · rw [if_neg (by omega)]; omega
    · have h7 := h6.mem h
      rw [if_pos (by omega)]
      have h8 := toOf_lt ws l _ x h6 h
      split <;> omega
theorem findP_toOf (ws : List Int) : ∀ (l : List Int) (a t x : Int), Chain ws a l → x ∈ l → wI ws x % 8 ≠ 0 → findP x (pairsL ws l t) = some (t + toOf ws l x)
  | [], a, t, x, _, h, _ => by cases h
  | k :: l, a, t, x, hc, h, hk => by
    obtain ⟨rfl, h2, h3, h4, h5, h6⟩ := hc
    simp only [toOf, pairsL]
    rcases List.mem_cons.1 h with rfl | h
    · rw [if_neg hk, if_neg (by omega)]
      simp [findP]
    · have h7 := h6.mem h
      rw [if_pos (by omega : k < x)]
      by_cases hk0 : wI ws k % 8 = 0
      · rw [if_pos hk0, if_pos hk0, findP_toOf ws l _ t x h6 h hk]
        congr 1; omega
      · rw [if_neg hk0, if_neg hk0]
        simp only [findP]
        rw [if_neg (by omega), findP_toOf ws l _ _ x h6 h hk]
        congr 1; omega
theorem block_eq {ws l : List Int} (hw : ws.length ≤ 2000) (hc : Chain ws 0 l) (v : Int) : blockS ws l v = leadsI ws l v := by
  unfold blockS leadsI
  by_cases h4 : v % 8 = 4
  · rw [lead4 hw hc h4, lead4 hw hc h4, if_pos h4, Bool.or_self]
    cases hb : toB ws l v 1 with
    | false => simp
    | true => simp [toB_ok hw hc (by omega) hb, h4]
  by_cases h5 : v % 8 = 5
  · rw [lead5 hw hc h5, lead5 hw hc h5, if_neg h4, if_pos h5, Bool.or_self]
    cases hb : toB ws l v 2 with
    | false => simp
    | true => simp [toB_ok hw hc (by omega) hb, h5]
  by_cases h6 : v % 8 = 6
  · rw [lead6 hw hc h6, lead6 hw hc h6, if_neg h4, if_neg h5, if_pos h6, Bool.or_self]
    cases hb : toB ws l v 4 with
    | false => simp
    | true => simp [toB_ok hw hc (by omega) hb, h6]
  by_cases h7 : v % 8 = 7
  · rw [lead7 hw hc h7, lead7 hw hc h7, if_neg h4, if_neg h5, if_neg h6, if_pos h7]
    cases hb : toB ws l v 3 with
    | true => simp [toB_ok hw hc (by omega) hb, h7]
    | false =>
      cases hb5 : toB ws l v 5 with
      | true => simp [toB_ok hw hc (by omega) hb5, h7]
      | false => simp
  · have : ¬ (4 ≤ v % 8) := by omega
    simp [h4, h5, h6, h7, this]
theorem moved_eq (ws : List Int) (v : Int) : movI ws ((blks ws).getD []) (pairsP ws) v = movedP ws v := by
  unfold movI movedP
  cases hb : blks ws with
  | none =>
    have hs : heapS ws = false := by simp [heapS, hb]
    simp [pairsP, hs, findP]
  | some l =>
    obtain ⟨hw2, hc⟩ := blks_chain hb
    simp only [Option.getD_some]
    cases hs : heapS ws with
    | false => simp [pairsP, hs, findP]
    | true =>
      rw [block_eq hw2 hc]
      simp only [Bool.true_and]
      by_cases hl : leadsI ws l v = true
      · rw [if_pos hl]
        have hv : 4 ≤ v % 8 ∧ v / 8 ∈ l ∧ wI ws (v / 8) % 8 ≠ 0 := by
          unfold leadsI at hl
          split at hl
          · simp only [toB, Bool.and_eq_true, decide_eq_true_eq] at hl; exact ⟨by omega, hl.1, by omega⟩
          · split at hl
            · simp only [toB, Bool.and_eq_true, decide_eq_true_eq] at hl; exact ⟨by omega, hl.1, by omega⟩
            · split at hl
              · simp only [toB, Bool.and_eq_true, decide_eq_true_eq] at hl; exact ⟨by omega, hl.1, by omega⟩
              · split at hl
                · simp only [toB, Bool.and_eq_true, decide_eq_true_eq, Bool.or_eq_true] at hl
                  rcases hl with hl | hl
                  · exact ⟨by omega, hl.1, by omega⟩
                  · exact ⟨by omega, hl.1, by omega⟩
                · cases hl
        have hpp : pairsP ws = pairsL ws l 0 := by simp [pairsP, hs, hb]
        rw [hpp, findP_toOf ws l 0 0 _ hc hv.2.1 hv.2.2]
        simp only [hl, if_true, Int.zero_add]
        have h1 := toOf_lt ws l 0 _ hc hv.2.1
        have h2 := (toOf_le ws l 0 (v / 8) hc).1
        have h3 := (hc.mem hv.2.1).2.1
        unfold refOf movedS
        rw [if_pos (by omega), if_neg (by omega)]
      · rw [if_neg hl]
        split
        · rw [if_neg hl]
        · rfl
theorem e18 (ws : List Int) (hw : ws.length ≤ 1048576) (v : Int) : ev EE (.call 18 [SL ws, int v] []) = some (.val (int (movedP ws v)) []) := by
  rw [ev_eq]
  obtain ⟨n, h45⟩ := e45 ws hw
  have h44 := e44 ws hw
  have hok : pairsP ws = [] ∨ (Chain ws 0 ((blks ws).getD []) ∧ KindsOk ws ((blks ws).getD []) (kindsP ws)) := by
    cases hb : blks ws with
    | none => left; simp [pairsP, heapS, hb]
    | some l => right; simp only [Option.getD_some]; exact ⟨(blks_chain hb).2, kindsP_ok hb⟩
  have h43 := e43 ws ((blks ws).getD []) (kindsP ws) hw (pairsP ws) hok n v
  rw [moved_eq] at h43
  simp only [int] at h43
  simp (decide := true) [ir18, h44, h45, h43]
theorem e4 (ws : List Int) (v : Int) (hlen : (ws.length : Int) ≤ 9223372036854775807) : ev EE (.call 4 [SL ws, int v] []) = some (.val (bool true) []) := by
  rw [ev_eq]
  have h8 := e8 ws 1048576 (by omega) (by omega) hlen
  by_cases hw : (1048576 : Int) - ws.length < 0
  · rw [if_pos hw] at h8
    simp only [int] at h8
    simp (decide := true) [ir4, h8]
  · rw [if_neg hw] at h8
    have hw' : ws.length ≤ 1048576 := by omega
    have h10 := e10 ws hw'
    have h17 := e17 ws hw' v
    have h18 := e18 ws hw' v
    have h13 := e13 ws hw'
    simp only [int, bool] at h8 h10 h17 h18 h13
    simp (decide := true) [ir4, h8, hw, h10, h17, h18, h13, one1]
end Go.Pv
