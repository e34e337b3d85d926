/- The law FnTokens, of whatever bytes: true. No condition. -/
import Derived.Test.YtjlkkappngnbjaaDoorFnTokPure
namespace Go.Proofs.YtjlkkappngnbjaaDoor.XFnTokens
open Go.RowKit Go.Proofs.YtjlkkappngnbjaaDoorW.PrintWords Go.Proofs.YtjlkkappngnbjaaDoor.Pl
set_option linter.unusedVariables false
set_option linter.unusedSimpArgs false

/-! Words -/
def anyW (x : ByteArray) (W : List ByteArray) : Bool := W.any (fun w => decide (x.toList = w.toList))
theorem drop_c (W : List ByteArray) (i : Nat) (h : i < W.length) : W.drop i = W[i] :: W.drop (i + 1) := List.drop_eq_getElem_cons h
theorem idx_ev (W : List ByteArray) (x : ByteArray) (hW : W.length ≤ 1000) : ∀ (n i : Nat), i + n = W.length → ∃ r : Int, Ev (fun k => slices_Index_string_string.l0 k W x (W.length : Int) (i : Int)) r ∧ decide (r ≥ 0) = anyW x (W.drop i) := by
  intro n
  induction n with
  | zero =>
    intro i h
    refine ⟨-1, ev_one fun k => ?_, ?_⟩
    · simp only [slices_Index_string_string.l0]
      rw [if_neg (by omega)]
    · rw [List.drop_eq_nil_of_le (by omega)]; rfl
  | succ n ih =>
    intro i h
    rw [drop_c W i (by omega)]
    by_cases hx : x.toList = (W[i]'(by omega)).toList
    · refine ⟨(i : Int), ev_one fun k => ?_, ?_⟩
      · simp only [slices_Index_string_string.l0]
        rw [if_pos (by omega), if_pos (by omega), if_pos (by omega), rdOf_nat _ W i (by omega), if_pos hx]
      · unfold anyW
        rw [List.any_cons, decide_eq_true hx, Bool.true_or]
        exact decide_eq_true (by omega)
    · obtain ⟨r, e, q⟩ := ih (i + 1) (by omega)
      refine ⟨r, Ev.step (fun k => ?_) e, ?_⟩
      · simp only [slices_Index_string_string.l0]
        rw [if_pos (by omega), if_pos (by omega), if_pos (by omega), rdOf_nat _ W i (by omega), if_neg hx, w64n i (by omega)]
      · rw [q]
        unfold anyW
        rw [List.any_cons, decide_eq_false hx, Bool.false_or]
theorem spw_ev (W : List ByteArray) (x : ByteArray) (hW : W.length ≤ 1000) (a c d : Int) : ∀ (n i : Nat), i + n = W.length → Ev (fun k => spec_Word.l0 k W (i : Int) a x c d) (decide (a = 1) && anyW x (W.drop i)) := by
  intro n
  induction n with
  | zero =>
    intro i h
    rw [List.drop_eq_nil_of_le (by omega)]
    refine ev_one fun k => ?_
    simp only [spec_Word.l0]
    rw [if_neg (by omega)]
    unfold anyW
    rw [List.any_nil, Bool.and_false]
  | succ n ih =>
    intro i h
    rw [drop_c W i (by omega)]
    have e := ih (i + 1) (by omega)
    by_cases ha : a = 1
    · by_cases hx : x.toList = (W[i]'(by omega)).toList
      · refine ev_one fun k => ?_
        simp only [spec_Word.l0]
        rw [if_pos (by omega), if_pos ha, if_pos (by omega), rdOf_nat _ W i (by omega), if_pos hx]
        unfold anyW
        rw [List.any_cons, decide_eq_true hx, Bool.true_or, decide_eq_true ha]
        rfl
      · have : anyW x (W[i]'(by omega) :: W.drop (i + 1)) = anyW x (W.drop (i + 1)) := by
          unfold anyW
          rw [List.any_cons, decide_eq_false hx, Bool.false_or]
        rw [this]
        refine Ev.step (fun k => ?_) e
        simp only [spec_Word.l0]
        rw [if_pos (by omega), if_pos ha, if_pos (by omega), rdOf_nat _ W i (by omega), if_neg hx, w64n i (by omega)]
    · rw [decide_eq_false ha, Bool.false_and] at e ⊢
      refine Ev.step (fun k => ?_) e
      simp only [spec_Word.l0]
      rw [if_pos (by omega), if_neg ha, w64n i (by omega)]
theorem word_ev (a : Int) (x : ByteArray) (c d : Int) : ∃ b : Bool, Ev (fun k => impl_Word.f k a x c d) b ∧ Ev (fun k => spec_Word.f k a x c d) b := by
  unfold impl_Word.f spec_Word.f impl_isWord.f slices_Contains_string_string.f slices_Index_string_string.f
  generalize hW : ([(⟨#[108, 101, 116]⟩ : ByteArray), (⟨#[105, 102]⟩ : ByteArray), (⟨#[101, 108, 115, 101]⟩ : ByteArray), (⟨#[119, 104, 105, 108, 101]⟩ : ByteArray), (⟨#[114, 101, 116, 117, 114, 110]⟩ : ByteArray), (⟨#[112, 114, 105, 110, 116]⟩ : ByteArray), (⟨#[102, 117, 110, 99, 116, 105, 111, 110]⟩ : ByteArray), (⟨#[116, 114, 117, 101]⟩ : ByteArray), (⟨#[102, 97, 108, 115, 101]⟩ : ByteArray), (⟨#[110, 117, 108, 108]⟩ : ByteArray), (⟨#[117, 110, 100, 101, 102, 105, 110, 101, 100]⟩ : ByteArray), (⟨#[112, 114, 111, 116, 111]⟩ : ByteArray)] : List ByteArray) = W
  have hl : W.length ≤ 1000 := by rw [← hW]; decide
  have e2 := spw_ev W x hl a c d W.length 0 (by omega)
  obtain ⟨r, e1, q⟩ := idx_ev W x hl W.length 0 (by omega)
  rw [List.drop_zero] at e2 q
  refine ⟨_, ?_, e2⟩
  by_cases ha : a = 1
  · simp only [if_pos ha]
    rw [decide_eq_true ha, Bool.true_and, ← q]
    exact Ev.bind (Ev.bind (Ev.bind e1 (Ev.now _)) (Ev.now _)) (Ev.now _)
  · simp only [if_neg ha]
    rw [decide_eq_false ha, Bool.false_and]
    exact Ev.now _

/-! What is drawn -/
theorem progs : ∃ L, spec_l11Programs.f = some L ∧ 0 < L.length ∧ ∀ x ∈ L, x.size ≤ 700 := ⟨_, rfl, by decide +kernel, by decide +kernel⟩
theorem source_ok (l : List Int) (hl : l.length < 9223372036854775807) (i h : Int) (hi : 0 ≤ i) : ∃ s i' h', spec_l11DrawSource.f l i h = some (s, i', h') ∧ s.size ≤ 700 ∧ 0 ≤ i' := by
  obtain ⟨L, e, h0, hL⟩ := progs
  unfold spec_l11DrawSource.f
  rw [e, Option.bind_some]
  obtain ⟨s, i', h', e2, hm, hi'⟩ := pick_ok l hl i h hi L h0
  rw [e2, Option.bind_some]
  exact ⟨_, _, _, rfl, hL s hm, hi'⟩
theorem dent_ok (l : List Int) (hl : l.length < 9223372036854775807) (i h : Int) (hi : 0 ≤ i) (s : ByteArray) (hs : s.size ≤ 700) : ∃ s' i' h', spec_l11Dent.f l i h s = some (s', i', h') ∧ s'.size ≤ 710 ∧ 0 ≤ i' := by
  unfold spec_l11Dent.f
  rw [w64 _ (by omega) (by omega)]
  obtain ⟨b, i1, h1, e1, p1, q1, r1⟩ := below_ok l hl i h ((s.size : Int) + 1) hi (by omega)
  rw [e1, Option.bind_some]
  obtain ⟨b2, i2, h2, e2, p2, q2, r2⟩ := below_ok l hl i1 h1 6 r1 (by omega)
  rw [e2, Option.bind_some]
  dsimp only
  by_cases c0 : b2 = 0
  · rw [if_pos c0, if_pos p1, if_pos (by omega)]
    exact ⟨_, _, _, rfl, by rw [ByteArray.size_extract]; omega, r2⟩
  · rw [if_neg c0]
    by_cases c1 : b2 = 1
    · rw [if_pos c1, if_pos p1, if_pos (by omega)]
      generalize hW : ([(⟨#[32]⟩ : ByteArray), (⟨#[59]⟩ : ByteArray), (⟨#[40]⟩ : ByteArray), (⟨#[125]⟩ : ByteArray), (⟨#[123]⟩ : ByteArray), (⟨#[34]⟩ : ByteArray), (⟨#[48]⟩ : ByteArray), (⟨#[120]⟩ : ByteArray), (⟨#[35]⟩ : ByteArray), (⟨#[61]⟩ : ByteArray), (⟨#[61, 61]⟩ : ByteArray), (⟨#[108, 101, 116]⟩ : ByteArray), (⟨#[46]⟩ : ByteArray), (⟨#[45]⟩ : ByteArray), (⟨#[33]⟩ : ByteArray), (⟨#[1]⟩ : ByteArray)] : List ByteArray) = W
      have hp : 0 < W.length := by rw [← hW]; decide
      have hz : ∀ x ∈ W, x.size ≤ 3 := by rw [← hW]; decide +kernel
      obtain ⟨t, i3, h3, e3, hm, r3⟩ := pick_ok l hl i2 h2 r2 W hp
      have ht := hz t hm
      have z1 : (s.extract 0 b.toNat).size ≤ 700 := by rw [ByteArray.size_extract]; omega
      have z2 : (s.extract b.toNat s.size).size ≤ 700 := by rw [ByteArray.size_extract]; omega
      have z3 : (s.extract 0 b.toNat).size + (s.extract b.toNat s.size).size ≤ 700 := by rw [ByteArray.size_extract, ByteArray.size_extract]; omega
      rw [e3, Option.bind_some]
      dsimp only
      rw [if_pos (by omega), if_pos (by rw [ByteArray.size_append]; omega)]
      exact ⟨_, _, _, rfl, by rw [ByteArray.size_append, ByteArray.size_append]; omega, r3⟩
    · rw [if_neg c1]
      exact ⟨_, _, _, rfl, by omega, r2⟩
theorem pad_ev (l : List Int) (hl : l.length < 9223372036854775807) : ∀ (n : Nat) (s : ByteArray) (i h : Int), 0 ≤ i → s.size + n = 900 → ∃ s', Ev (fun k => spec_DrawTokens.l0 k s l i h) s' ∧ s'.size ≤ 900 := by
  intro n
  induction n with
  | zero =>
    intro s i h hi hs
    obtain ⟨b, i1, h1, e1, p1, q1, r1⟩ := below_ok l hl i h 2 hi (by omega)
    refine ⟨s, ev_one fun k => ?_, by omega⟩
    simp only [spec_DrawTokens.l0]
    rw [e1, Option.bind_some]
    dsimp only
    rw [w64 _ (by omega) (by omega), if_neg (by omega)]
  | succ n ih =>
    intro s i h hi hs
    obtain ⟨b, i1, h1, e1, p1, q1, r1⟩ := below_ok l hl i h 2 hi (by omega)
    by_cases c : (s.size : Int) < 800 + b
    · obtain ⟨s', e, hz⟩ := ih (s ++ SP) i1 h1 r1 (by rw [bl_size]; omega)
      refine ⟨s', Ev.step (fun k => ?_) e, hz⟩
      simp only [spec_DrawTokens.l0]
      rw [e1, Option.bind_some]
      dsimp only
      rw [w64 _ (by omega) (by omega), if_pos c, if_pos (by omega)]
    · refine ⟨s, ev_one fun k => ?_, by omega⟩
      simp only [spec_DrawTokens.l0]
      rw [e1, Option.bind_some]
      dsimp only
      rw [w64 _ (by omega) (by omega), if_neg c]
theorem draw_ev (l : List Int) (hl : l.length < 9223372036854775807) : ∃ s, Ev (fun k => spec_DrawTokens.f k l) s ∧ s.size ≤ 900 := by
  unfold spec_DrawTokens.f
  obtain ⟨h0, e0⟩ := new_ev l
  obtain ⟨s1, i1, h1, e1, z1, p1⟩ := source_ok l hl 0 h0 (by omega)
  obtain ⟨s2, i2, h2, e2, z2, p2⟩ := dent_ok l hl i1 h1 p1 s1 z1
  obtain ⟨b3, i3, h3, e3, _, _, p3⟩ := below_ok l hl i2 h2 30 p2 (by omega)
  have e3' : spec_l1Once.f l i2 h2 30 = some (b3 == 0, i3, h3) := by
    unfold spec_l1Once.f
    rw [e3, Option.bind_some]
  obtain ⟨s4, e4, z4⟩ := pad_ev l hl (900 - s2.size) s2 i3 h3 p3 (by omega)
  refine (?_ : ∃ s, _ ∧ _)
  have body : ∀ k, ((spec_l11DrawSource.f l 0 h0).bind fun bt152 => ((spec_l11Dent.f l bt152.2.1 bt152.2.2 bt152.1).bind fun bt155 => ((spec_l1Once.f l bt155.2.1 bt155.2.2 30).bind fun bt158 => (if bt158.1 = true then (spec_DrawTokens.l0 k bt155.1 l bt158.2.1 bt158.2.2) else (some bt155.1))))) = if (b3 == 0) = true then spec_DrawTokens.l0 k s2 l i3 h3 else some s2 := by
    intro k
    rw [e1, Option.bind_some]
    dsimp only
    rw [e2, Option.bind_some]
    dsimp only
    rw [e3', Option.bind_some]
  cases hb : (b3 == 0) with
  | true =>
    refine ⟨s4, Ev.bind e0 (Ev.congr (fun k => ?_) e4), z4⟩
    have := body k
    rw [hb, if_pos rfl] at this
    exact this
  | false =>
    refine ⟨s2, Ev.bind e0 (Ev.congr (f := fun _ => some s2) (fun k => ?_) (Ev.now _)), by omega⟩
    have := body k
    rw [hb, if_neg Bool.false_ne_true] at this
    exact this
theorem word_draw (l : List Int) (hl : l.length < 9223372036854775807) : ∃ r, Ev (fun k => spec_DrawWord.f k l) r := by
  unfold spec_DrawWord.f
  obtain ⟨h0, e0⟩ := new_ev l
  obtain ⟨s1, i1, h1, e1, p1⟩ := pickInt_ok l hl 0 h0 (by omega) ([1, 1, 1, 3, 4] : List Int) (by decide)
  generalize hW : ([(⟨#[108, 101, 116]⟩ : ByteArray), (⟨#[120]⟩ : ByteArray), (⟨#[112, 114, 111, 116, 111]⟩ : ByteArray), (⟨#[117, 110, 100, 101, 102, 105, 110, 101, 100]⟩ : ByteArray), (⟨#[102, 117, 110, 99, 116, 105, 111, 110]⟩ : ByteArray), (⟨#[76, 101, 116]⟩ : ByteArray), (⟨#[]⟩ : ByteArray), (⟨#[101, 108, 115, 101]⟩ : ByteArray)] : List ByteArray) = W
  obtain ⟨s2, i2, h2, e2, _, _⟩ := pick_ok l hl i1 h1 p1 W (by rw [← hW]; decide)
  refine ⟨(s1, s2, 0, 0), Ev.bind e0 ?_⟩
  refine Ev.congr (f := fun _ => some (s1, s2, 0, 0)) (fun k => ?_) (Ev.now _)
  change (spec_l1PickInt.f l 0 h0 ([1, 1, 1, 3, 4] : List Int)).bind _ = _
  rw [e1, Option.bind_some]
  change (spec_l1Pick.f l i1 h1 W).bind _ = _
  rw [e2, Option.bind_some]

/-! The law -/
theorem rdT (xs : List Tok) (i : Nat) (h : i < xs.length) : rd_T29 xs (i : Int) = xs[i] := getD_nat _ xs i h
theorem loop_ev (s : ByteArray) (hs : s.size ≤ 800) (L : List Tok) (g : Good s 0 L) (hm : s.size < 800 → ∃ l' : List Tok, l'.length = L.length ∧ Ev (fun k => impl_Tokens.f k (s ++ SP)) (l', -1)) (hm2 : ∃ r, Ev (fun k => impl_Tokens.f k (s ++ SP)) r) :
    ∀ (n i : Nat), i + n = L.length → Ev (fun k => laws_FnTokens.l0 k s L L (i : Int)) true := by
  have hlen := g.len
  intro n
  induction n with
  | zero =>
    intro i hi
    obtain ⟨l', t, hL, h0⟩ := g.last
    have hLl : L.length = l'.length + 1 := by rw [hL, List.length_append, List.length_singleton]
    have hz : rd_T29 L (wrap64 ((L.length : Int) - 1)) = t := by
      rw [w64 _ (by omega) (by omega), show (L.length : Int) - 1 = ((l'.length : Nat) : Int) by omega, rdT L l'.length (by omega)]
      simp only [hL]
      rw [List.getElem_append_right (Nat.le_refl _)]
      simp
    have hw : wrap64 ((L.length : Int) - 1) = (L.length : Int) - 1 := w64 _ (by omega) (by omega)
    obtain ⟨r, e⟩ : ∃ r, Ev (fun k => impl_Tokens.f k (s ++ SP)) r ∧ (s.size < 800 → r.2 = -1 ∧ r.1.length = L.length) := by
      by_cases h8 : s.size < 800
      · obtain ⟨l2, f1, f2⟩ := hm h8
        exact ⟨_, f2, fun _ => ⟨rfl, f1⟩⟩
      · obtain ⟨r, e⟩ := hm2
        exact ⟨r, e, fun h => absurd h h8⟩
    obtain ⟨⟨K, e⟩, hr⟩ := e
    refine ⟨K + 1, fun k hk => ?_⟩
    obtain ⟨m, rfl⟩ : ∃ m, k = m + 1 := ⟨k - 1, by omega⟩
    have e' := e m (by omega)
    dsimp only at e'
    simp only [laws_FnTokens.l0]
    rw [if_neg (by omega), if_pos (by omega), e', Option.bind_some, hz, if_pos (by omega), if_pos (by omega), if_pos h0]
    by_cases h8 : (s.size : Int) ≥ 800
    · rw [if_pos h8]
    · rw [if_neg h8, if_pos (hr (by omega)).1, (hr (by omega)).2]
      simp
  | succ n ih =>
    intro i hi
    have hlt : i < L.length := by omega
    have next := ih (i + 1) (by omega)
    have hmem : L[i] ∈ L := List.getElem_mem _
    have hge := g.ge _ hmem
    have hle := g.le _ hmem
    have j2 : Ev (fun k => laws_FnTokens.j2 k s L L (i : Int) false) true := by
      refine Ev.step (fun k => ?_) next
      simp only [laws_FnTokens.j2, Bool.false_eq_true, if_false]
      rw [if_pos (by omega), if_pos (by omega), rdT L i hlt, w64n i (by omega)]
      by_cases c3 : L[i].f0 = 3
      · rw [if_pos c3]
      · rw [if_neg c3]
        by_cases c2 : L[i].f0 = 2
        · rw [if_pos c2]
        · rw [if_neg c2]
          by_cases c0 : L[i].f0 = 0
          · rw [if_pos c0]
          · rw [if_neg c0]
            rcases g.tx _ hmem with h | h | h | ⟨p, e, h1, h2, h3, h4⟩
            · exact absurd h c3
            · exact absurd h c2
            · exact absurd h c0
            · have hsz : L[i].f1.size = e - p := by rw [h4, ByteArray.size_extract]; omega
              have hw : wrap64 (L[i].f3 + (L[i].f1.size : Int)) = (e : Int) := by rw [hsz, h3, w64 _ (by omega) (by omega)]; omega
              rw [hw, if_pos (by omega), if_pos (by omega), if_pos (by omega), h3, Int.toNat_natCast, Int.toNat_natCast, if_pos (by rw [h4])]
    refine Ev.step (fun k => ?_) j2
    simp only [laws_FnTokens.l0]
    rw [if_pos (by omega), if_pos (by omega), if_pos (by omega), rdT L i hlt, if_neg (by simp)]
    by_cases c : (i : Int) > 0
    · have hw : wrap64 ((i : Int) - 1) = ((i - 1 : Nat) : Int) := by rw [w64 _ (by omega) (by omega)]; omega
      have hp := List.pairwise_iff_getElem.1 g.pw (i - 1) i (by omega) hlt (by omega)
      rw [if_pos c, hw, if_pos (by omega), if_pos (by omega), rdT L (i - 1) (by omega), if_neg (by omega), decide_eq_false (by omega)]
    · rw [if_neg c, decide_eq_false (by omega)]
theorem j0_ev (l : List Int) (hl : l.length < 9223372036854775807) (s : ByteArray) (L : List Tok) (b : Int) (h : b ≥ 0 → L.length = 0) (h2 : ¬ b ≥ 0 → Ev (fun k => laws_FnTokens.l0 k s L L 0) true) : Ev (fun k => laws_FnTokens.j0 k l s L b L false) true := by
  obtain ⟨⟨a, x, c, d⟩, e⟩ := word_draw l hl
  obtain ⟨w, e1, e2⟩ := word_ev a x c d
  refine Ev.step (f := fun k => (spec_DrawWord.f k l).bind fun bt => ((impl_Word.f k bt.1 bt.2.1 bt.2.2.1 bt.2.2.2).bind fun t303 => ((spec_Word.f k bt.1 bt.2.1 bt.2.2.1 bt.2.2.2).bind fun t304 => (if (t303 != t304) = true then (some false) else (if b ≥ 0 then (some ((L.length : Int) == 0)) else (laws_FnTokens.l0 k s L L 0)))))) (fun k => ?_) ?_
  · simp only [laws_FnTokens.j0, Bool.false_eq_true, if_false]
  · refine Ev.bind e (Ev.bind e1 (Ev.bind e2 ?_))
    simp only [bne_self_eq_false, Bool.false_eq_true, if_false]
    by_cases hb : b ≥ 0
    · simp only [if_pos hb, h hb]
      exact Ev.now _
    · simp only [if_neg hb]
      exact h2 hb
theorem law (l : List Int) : ∃ k, laws_FnTokens.f k l = some true := by
  suffices h : Ev (fun k => laws_FnTokens.f k l) true from Ev.rounds h
  unfold laws_FnTokens.f laws_big.f
  by_cases hb : (l.length : Int) > 1048576
  · simp only [Option.bind_some, decide_eq_true hb, if_true]
    exact Ev.now _
  · simp only [Option.bind_some, decide_eq_false hb, Bool.false_eq_true, if_false]
    have hl : l.length < 9223372036854775807 := by omega
    obtain ⟨s, e0, hs0⟩ := draw_ev l hl
    refine Ev.bind e0 ?_
    by_cases h8 : (s.size : Int) > 800
    · have e1 : Ev (fun k => impl_Tokens.f k s) ([], 0) := by
        unfold impl_Tokens.f
        simp only [if_pos h8]
        exact Ev.now _
      have e2 : Ev (fun k => spec_Tokens.f k s) ([], 0) := by
        unfold spec_Tokens.f
        simp only [Option.bind_some, if_pos h8]
        exact Ev.now _
      refine Ev.bind e1 (Ev.bind e2 ?_)
      simp only [if_true, bne_self_eq_false]
      exact j0_ev l hl s [] 0 (fun _ => rfl) (fun h => absurd (by omega) h)
    · have i1 : ∀ t : ByteArray, t.size ≤ 800 → ∀ r, Ev (fun k => impl_Tokens.l0 k t [] 0) r → Ev (fun k => impl_Tokens.f k t) r := by
        intro t ht r h
        unfold impl_Tokens.f
        simp only [if_neg (show ¬ (t.size : Int) > 800 by omega)]
        exact h
      have s1 : ∀ r, Ev (fun k => spec_Tokens.l0 k s [] 0) r → Ev (fun k => spec_Tokens.f k s) r := by
        intro r h
        unfold spec_Tokens.f
        simp only [Option.bind_some, if_neg h8]
        exact h
      rcases all_toks s (by omega) s.size 0 (by omega) [] (Nat.zero_le _) with ⟨i, q1, q2⟩ | ⟨L, g, q1, q2, q3⟩
      · refine Ev.bind (i1 s (by omega) _ q2) (Ev.bind (s1 _ q1) ?_)
        simp only [if_true, bne_self_eq_false]
        exact j0_ev l hl s [] (i : Int) (fun _ => rfl) (fun h => absurd (by omega) h)
      · rw [List.nil_append] at q1 q2
        refine Ev.bind (i1 s (by omega) _ q2) (Ev.bind (s1 _ q1) ?_)
        simp only [if_true, bne_self_eq_false]
        refine j0_ev l hl s L (-1) (fun h => absurd h (by omega)) (fun _ => ?_)
        have hm : s.size < 800 → ∃ l' : List Tok, l'.length = L.length ∧ Ev (fun k => impl_Tokens.f k (s ++ SP)) (l', -1) := by
          intro h
          obtain ⟨l', f1, f2⟩ := q3 h
          exact ⟨l', f1, i1 _ (by rw [bl_size]; omega) _ f2⟩
        refine loop_ev s (by omega) L g hm ?_ L.length 0 (by omega)
        by_cases h9 : s.size < 800
        · obtain ⟨l', _, f2⟩ := hm h9
          exact ⟨_, f2⟩
        · refine ⟨([], 0), ?_⟩
          unfold impl_Tokens.f
          simp only [if_pos (show ((s ++ SP).size : Int) > 800 by rw [bl_size]; omega)]
          exact Ev.now _
end Go.Proofs.YtjlkkappngnbjaaDoor.XFnTokens
