/- Proof: plain laws of the functions. No condition. -/
import Derived.Test.YthddchcckpmgoaaIm
import Derived.Test.YthddchcckpmgoaaGaB
set_option autoImplicit true
set_option relaxedAutoImplicit true
set_option linter.unusedSimpArgs false
set_option linter.unusedVariables false
namespace Go.Pv
set_option maxRecDepth 100000
set_option linter.unusedSimpArgs false
set_option linter.unusedVariables false
/-- PLAIN LAWS of the printed functions: helpers -/
theorem wr1 {i : Int} (h : 0 ≤ i) (h2 : i ≤ 4611686018427387904) : IntKind.i64.wrap (i + 1) = i + 1 := wrap64_id _ (by omega) (by omega)
theorem getI_n {τ : Type} {xs : List τ} {i : Nat} {x : τ} (h : xs[i]? = some x) : getI xs (i : Int) = some x := by
  unfold getI
  have := (List.getElem?_eq_some_iff.1 h).1
  rw [if_pos ⟨by omega, by omega⟩]
  simpa using h
theorem cp_step {τ : Type} {xs acc : List τ} {i : Nat} {x : τ} (h : ∀ j, j < i → acc[j]? = xs[j]?) (hx : xs[i]? = some x) (hl : acc.length = xs.length) :
    ∀ j, j < i + 1 → (acc.set i x)[j]? = xs[j]? := by
  intro j hj
  have hi := (List.getElem?_eq_some_iff.1 hx).1
  rw [List.getElem?_set]
  by_cases e : i = j
  · subst e
    rw [if_pos rfl, if_pos (by omega), hx]
  · rw [if_neg e]; exact h j (by omega)
theorem cp_end {τ : Type} {xs acc : List τ} {i : Nat} (h : ∀ j, j < i → acc[j]? = xs[j]?) (hl : acc.length = xs.length) (hi : xs.length ≤ i) : acc = xs := by
  apply List.ext_getElem?
  intro j
  by_cases hj : j < i
  · exact h j hj
  · rw [List.getElem?_eq_none (by omega), List.getElem?_eq_none (by omega)]
theorem lt_get {τ : Type} {xs : List τ} {i : Nat} (h : i < xs.length) : ∃ x, xs[i]? = some x := ⟨xs[i], List.getElem?_eq_getElem h⟩
theorem lim_le {n b : Nat} (h : n * b ≤ maxB) : lim n b = true := by simp [lim, h]
/-- a loop that copies: one turn's rule is enough -/
theorem copy_loop {τ : Type} (L : Nat → List τ → List τ → Int → Option (List τ)) (xs : List τ) (hB : xs.length ≤ 4194303)
    (h0 : ∀ n acc (i : Nat), ¬ i < xs.length → L (n + 1) xs acc (i : Int) = some acc)
    (h1 : ∀ n (acc : List τ) (i : Nat) x y, xs[i]? = some x → acc[i]? = some y → i ≤ 4194303 → L (n + 1) xs acc (i : Int) = L n xs (acc.set i x) ((i + 1 : Nat) : Int)) (z : τ) :
    L FU xs (List.replicate xs.length z) 0 = some xs := by
  have key : ∀ (n i : Nat) (acc : List τ), acc.length = xs.length → (∀ j, j < i → acc[j]? = xs[j]?) → i ≤ xs.length → xs.length - i < n → L n xs acc (i : Int) = some xs := by
    intro n
    induction n with
    | zero => intro i acc hl h hi hn; omega
    | succ n ih =>
      intro i acc hl h hi hn
      by_cases c : i < xs.length
      · obtain ⟨x, hx⟩ := lt_get c
        obtain ⟨y, hy⟩ := lt_get (xs := acc) (i := i) (by omega)
        rw [h1 n acc i x y hx hy (by omega)]
        exact ih (i + 1) _ (by simp [hl]) (cp_step h hx hl) (by omega) (by omega)
      · rw [h0 n acc i c, cp_end h hl (by omega)]
  have := key FU 0 (List.replicate xs.length z) (by simp) (by intro j hj; omega) (by omega) (by simp only [FU]; omega)
  simpa using this
/-- a loop that looks a row through -/
theorem walk_loop {σ : Type} (L : Nat → Int → Option σ) (len : Nat) (r : σ) (hB : len ≤ 4194303)
    (h0 : ∀ n (i : Nat), ¬ i < len → L (n + 1) (i : Int) = some r)
    (h1 : ∀ n (i : Nat), i < len → L (n + 1) (i : Int) = L n ((i + 1 : Nat) : Int)) : L FU 0 = some r := by
  have key : ∀ (n i : Nat), i ≤ len → len - i < n → L n (i : Int) = some r := by
    intro n
    induction n with
    | zero => intro i hi hn; omega
    | succ n ih =>
      intro i hi hn
      by_cases c : i < len
      · rw [h1 n i c]; exact ih (i + 1) (by omega) (by omega)
      · exact h0 n i c
  have := key FU 0 (by omega) (by simp only [FU]; omega)
  simpa using this
/-- a loop with a state, by an invariant -/
theorem inv_loop {σ ρ : Type} (L : Nat → σ → Int → Option ρ) (len : Nat) (I : Nat → σ → Prop) (Q : ρ → Prop) (hB : len ≤ 4194303)
    (h0 : ∀ n (i : Nat) s, i ≤ len → ¬ i < len → I i s → ∃ r, L (n + 1) s (i : Int) = some r ∧ Q r)
    (h1 : ∀ n (i : Nat) s, i < len → I i s → (∃ s', L (n + 1) s (i : Int) = L n s' ((i + 1 : Nat) : Int) ∧ I (i + 1) s') ∨ (∃ r, L (n + 1) s (i : Int) = some r ∧ Q r)) (s0 : σ) (hI : I 0 s0) : ∃ r, L FU s0 0 = some r ∧ Q r := by
  have key : ∀ (n i : Nat) (s : σ), i ≤ len → len - i < n → I i s → ∃ r, L n s (i : Int) = some r ∧ Q r := by
    intro n
    induction n with
    | zero => intro i s hi hn; omega
    | succ n ih =>
      intro i s hi hn hs
      by_cases c : i < len
      · rcases h1 n i s c hs with ⟨s', e, hs'⟩ | ⟨r, e, hr⟩
        · rw [e]; exact ih (i + 1) s' (by omega) (by omega) hs'
        · exact ⟨r, e, hr⟩
      · exact h0 n i s hi c hs
  have := key FU 0 s0 (by omega) (by simp only [FU]; omega) hI
  simpa using this
end Go.Pv

namespace Go.Pv
set_option maxRecDepth 100000
set_option maxHeartbeats 40000000
set_option linter.unusedSimpArgs false
set_option linter.unusedVariables false
/-- laws.FnExactRoots -/
def F6 (a0_1 : List T_Code) (a0_2 : List ByteArray) (a0_3 : List Int) (a0_4 : Int) (a0_5 : List Int) (a0_6 : List Int) (a0_7 : Int) (a0_8 : List T_Step) (a0_9 : List Int) (a0_10 : List ByteArray) (a0_11 : Bool) (a0_12 : Int) : Option Bool :=
  bS (F23 a0_1 a0_2 a0_3 a0_4 a0_5 a0_6 a0_7 a0_8 a0_9 a0_10 a0_11 a0_12 1048576) fun r20 =>
  if r20 < 0 then
    some true
  else
  bS (F25 a0_1 a0_2 a0_3 a0_4 a0_5 a0_6 a0_7 a0_8 a0_9 a0_10 a0_11 a0_12) fun (r51, r52, r53, r54, r55, r56, r57, r58, r59, r60, r61, r62) =>
  bS (F24 r51 r52 r53 r54 r55 r56 r57 r58 r59 r60 r61 r62) fun r64 =>
  bS (F26 r51 r52 r53 r54 r55 r56 r57 r58 r59 r60 r61 r62) fun r67 =>
  bS (F12 r67 r64) fun r69 =>
  if r69 = true then
    bS (F27 r51 r52 r53 r54 r55 r56 r57 r58 r59 r60 r61 r62 r51 r52 r53 r54 r55 r56 r57 r58 r59 r60 r61 r62) fun r89 =>
    if r89 = true then
      bS (F28 r51 r52 r53 r54 r55 r56 r57 r58 r59 r60 r61 r62 1) fun (r130, r131, r132, r133, r134, r135, r136, r137, r138, r139, r140, r141, r142) =>
      if r131.length = r51.length then
      if r132.length = r52.length then
      if r133.length = r53.length then
      if r135.length = r55.length then
      if r136.length = r56.length then
      if r138.length = r58.length then
      if r139.length = r59.length then
      if r140.length = r60.length then
      if r130 < 0 then
        some false
      else
      bS (F15 r67 1) fun (r143, r144) =>
      if r144.length = r67.length then
      bS (F16 r144 1) fun r148 =>
      if r148 < 0 then
        some false
      else
      if r148 = r143 then
        some true
      else
        some false
      else none
      else none
      else none
      else none
      else none
      else none
      else none
      else none
      else none
    else
      some false
  else
    some false
def F6_ans (a0_1 : List T_Code) (a0_2 : List ByteArray) (a0_3 : List Int) (a0_4 : Int) (a0_5 : List Int) (a0_6 : List Int) (a0_7 : Int) (a0_8 : List T_Step) (a0_9 : List Int) (a0_10 : List ByteArray) (a0_11 : Bool) (a0_12 : Int) : Bool → Ans
  | q94 => .val (.sc (.bool q94)) []
end Go.Pv

namespace Go.Pv
set_option maxRecDepth 100000
set_option maxHeartbeats 40000000
set_option linter.unusedSimpArgs false
set_option linter.unusedVariables false
/-- laws.FnExactTold -/
def F7 (a0_157 : List T_Code) (a0_158 : List ByteArray) (a0_159 : List Int) (a0_160 : Int) (a0_161 : List Int) (a0_162 : List Int) (a0_163 : Int) (a0_164 : List T_Step) (a0_165 : List Int) (a0_166 : List ByteArray) (a0_167 : Bool) (a0_168 : Int) : Option Bool :=
  bS (F23 a0_157 a0_158 a0_159 a0_160 a0_161 a0_162 a0_163 a0_164 a0_165 a0_166 a0_167 a0_168 1048576) fun r149 =>
  if r149 < 0 then
    some true
  else
  bS (F25 a0_157 a0_158 a0_159 a0_160 a0_161 a0_162 a0_163 a0_164 a0_165 a0_166 a0_167 a0_168) fun (r150, r151, r152, r153, r154, r155, r156, r157, r158, r159, r160, r161) =>
  bS (F29 r150 r151 r152 r153 r154 r155 r156 r157 r158 r159 r160 r161) fun (r162, r163) =>
  bS (F30 r150 r151 r152 r153 r154 r155 r156 r157 r158 r159 r160 r161) fun (r164, r165) =>
  bS (F31 r164 r165 r162 r163) fun r167 =>
  if r167 = true then
    bS (F27 r150 r151 r152 r153 r154 r155 r156 r157 r158 r159 r160 r161 r150 r151 r152 r153 r154 r155 r156 r157 r158 r159 r160 r161) fun r168 =>
    if r168 = true then
      bS (F28 r150 r151 r152 r153 r154 r155 r156 r157 r158 r159 r160 r161 1) fun (r169, r170, r171, r172, r173, r174, r175, r176, r177, r178, r179, r180, r181) =>
      if r170.length = r150.length then
      if r171.length = r151.length then
      if r172.length = r152.length then
      if r174.length = r154.length then
      if r175.length = r155.length then
      if r177.length = r157.length then
      if r178.length = r158.length then
      if r179.length = r159.length then
      if r169 < 0 then
        some false
      else
      bS (F32 r164 r165 1) fun (r184, r185, r186) =>
      if r186.length = r165.length then
      bS (F33 r164 r186 1) fun r192 =>
      if r192 < 0 then
        some false
      else
      if r192 = r184 then
        some true
      else
        some false
      else none
      else none
      else none
      else none
      else none
      else none
      else none
      else none
      else none
    else
      some false
  else
    some false
def F7_ans (a0_157 : List T_Code) (a0_158 : List ByteArray) (a0_159 : List Int) (a0_160 : Int) (a0_161 : List Int) (a0_162 : List Int) (a0_163 : Int) (a0_164 : List T_Step) (a0_165 : List Int) (a0_166 : List ByteArray) (a0_167 : Bool) (a0_168 : Int) : Bool → Ans
  | q105 => .val (.sc (.bool q105)) []
end Go.Pv

namespace Go.Pv
set_option maxRecDepth 100000
set_option maxHeartbeats 4000000
set_option linter.unusedSimpArgs false
set_option linter.unusedVariables false
theorem F20_id (xs : List Int) (h : xs.length ≤ 1048576) : F20 xs = some xs := by
  unfold F20
  rw [if_pos (lim_le (by simp only [maxB]; omega)), copy_loop L20_0 xs (by omega)]
  · rfl
  · intro n acc i c
    simp only [L20_0]
    rw [if_neg (by omega)]
  · intro n acc i x y hx hy hi
    have := (List.getElem?_eq_some_iff.1 hx).1
    simp only [L20_0]
    rw [if_pos (by omega), getI_n hx, bS_s, getI_n hy, bS_s, wr1 (by omega) (by omega), Int.toNat_natCast]
    rfl
theorem F59_id (xs : List ByteArray) (h : xs.length ≤ 1048576) : F59 xs = some xs := by
  unfold F59
  rw [if_pos (lim_le (by simp only [maxB]; omega)), copy_loop L59_0 xs (by omega)]
  · rfl
  · intro n acc i c
    simp only [L59_0]
    rw [if_neg (by omega)]
  · intro n acc i x y hx hy hi
    have := (List.getElem?_eq_some_iff.1 hx).1
    simp only [L59_0]
    rw [if_pos (by omega), getI_n hx, bS_s, getI_n hy, bS_s, wr1 (by omega) (by omega), Int.toNat_natCast]
    rfl
theorem F58_id (xs : List T_Step) (h : xs.length ≤ 1048576) : F58 xs = some xs := by
  unfold F58
  rw [if_pos (lim_le (by simp only [maxB]; omega)), copy_loop L58_0 xs (by omega)]
  · rfl
  · intro n acc i c
    simp only [L58_0]
    rw [if_neg (by omega)]
  · intro n acc i x y hx hy hi
    have := (List.getElem?_eq_some_iff.1 hx).1
    simp only [L58_0, F90]
    rw [if_pos (by omega), getI_n hx, bS_s, bS_s, getI_n hy, bS_s, wr1 (by omega) (by omega), Int.toNat_natCast]
    rfl
theorem F115_id (xs : List T_Step) (h : xs.length ≤ 1048576) : F115 xs = some xs := by
  unfold F115
  rw [if_pos (lim_le (by simp only [maxB]; omega)), copy_loop L115_0 xs (by omega)]
  · rfl
  · intro n acc i c
    simp only [L115_0]
    rw [if_neg (by omega)]
  · intro n acc i x y hx hy hi
    have := (List.getElem?_eq_some_iff.1 hx).1
    simp only [L115_0, F117]
    rw [if_pos (by omega), getI_n hx, bS_s, bS_s, getI_n hy, bS_s, wr1 (by omega) (by omega), Int.toNat_natCast]
    rfl
theorem F89_id (xs : List T_Code) (h : xs.length ≤ 1048576) (h2 : ∀ e ∈ xs, e.steps_.length ≤ 1048576) : F89 xs = some xs := by
  unfold F89
  rw [if_pos (lim_le (by simp only [maxB]; omega)), copy_loop L89_0 xs (by omega)]
  · rfl
  · intro n acc i c
    simp only [L89_0]
    rw [if_neg (by omega)]
  · intro n acc i x y hx hy hi
    have := (List.getElem?_eq_some_iff.1 hx).1
    simp only [L89_0, F110]
    rw [if_pos (by omega), getI_n hx, bS_s, F115_id _ (h2 x (List.mem_of_getElem? hx)), bS_s, bS_s, getI_n hy, bS_s, wr1 (by omega) (by omega), Int.toNat_natCast]
    rfl
/-- the bounds that the law's first part tells -/
structure MB (cs : List T_Code) (ns : List ByteArray) (sl : List Int) (q0 q1 : List Int) (fr : List T_Step) (st : List Int) (ou : List ByteArray) : Prop where
  hcs : cs.length ≤ 1048576
  hct : ∀ e ∈ cs, e.steps_.length ≤ 1048576
  hns : ns.length ≤ 1048576
  hsl : sl.length ≤ 1048576
  hq0 : q0.length ≤ 1048576
  hq1 : q1.length ≤ 1048576
  hfr : fr.length ≤ 1048576
  hst : st.length ≤ 1048576
  hou : ou.length ≤ 1048576
theorem F25_id {cs ns sl a q0 q1 b fr st ou t w} (h : MB cs ns sl q0 q1 fr st ou) : F25 cs ns sl a q0 q1 b fr st ou t w = some (cs, ns, sl, a, q0, q1, b, fr, st, ou, t, w) := by
  simp only [F25, F56, F89_id _ h.hcs h.hct, F59_id _ h.hns, F59_id _ h.hou, F10, F20_id _ h.hsl, F57, F20_id _ h.hq0, F20_id _ h.hq1, F58_id _ h.hfr, F20_id _ h.hst, bS_s]
theorem L24_r (cs ns sl a q0 q1 b fr st ou t w) (hs : st.length ≤ 1048576) (hf : fr.length ≤ 1048576) :
    L24_0 FU st 0 cs ns sl a q0 q1 b fr st ou t w = some (st ++ fr.map (·.b_)) := by
  obtain ⟨r, h, hr⟩ := inv_loop (fun n (s : List Int) i => L24_0 n s i cs ns sl a q0 q1 b fr st ou t w) fr.length (fun i s => s = st ++ (fr.take i).map (·.b_)) (fun r => r = st ++ fr.map (·.b_)) (by omega)
    (by
      intro n i s hi c hI
      refine ⟨s, ?_, ?_⟩
      · simp only [L24_0]; rw [if_neg (by omega)]
      · rw [hI, List.take_of_length_le (by omega)])
    (by
      intro n i s c hI
      refine .inl ⟨s ++ [(fr[i]).b_], ?_, ?_⟩
      · simp only [L24_0]
        rw [if_pos (by omega), getI_n (List.getElem?_eq_getElem c), bS_s, if_pos (lim_le ?_), wr1 (by omega) (by omega)]
        · rfl
        · have : s.length ≤ 2097152 := by rw [hI]; simp; omega
          simp only [maxB]; omega
      · rw [hI, List.take_add_one, List.getElem?_eq_getElem c]; simp only [Option.toList, List.map_append, List.map_cons, List.map_nil, List.append_assoc]) st (by simp)
  subst hr; exact h
theorem L26_r (fr : List T_Step) (st : List Int) (hs : st.length ≤ 1048576) (hf : fr.length ≤ 1048576) :
    L26_0 FU st fr fr.length 0 = some (st ++ fr.map (·.b_)) := by
  obtain ⟨r, h, hr⟩ := inv_loop (fun n (s : List Int) i => L26_0 n s fr fr.length i) fr.length (fun i s => s = st ++ (fr.take i).map (·.b_)) (fun r => r = st ++ fr.map (·.b_)) (by omega)
    (by
      intro n i s hi c hI
      refine ⟨s, ?_, ?_⟩
      · simp only [L26_0]; rw [if_neg (by omega)]
      · rw [hI, List.take_of_length_le (by omega)])
    (by
      intro n i s c hI
      refine .inl ⟨s ++ [(fr[i]).b_], ?_, ?_⟩
      · simp only [L26_0]
        rw [if_pos (by omega), getI_n (List.getElem?_eq_getElem c), bS_s, if_pos (lim_le ?_), wr1 (by omega) (by omega)]
        · rfl
        · have : s.length ≤ 2097152 := by rw [hI]; simp; omega
          simp only [maxB]; omega
      · rw [hI, List.take_add_one, List.getElem?_eq_getElem c]; simp only [Option.toList, List.map_append, List.map_cons, List.map_nil, List.append_assoc]) st (by simp)
  subst hr; exact h
theorem F24_r {cs ns sl a q0 q1 b fr st ou t w} (h : MB cs ns sl q0 q1 fr st ou) : F24 cs ns sl a q0 q1 b fr st ou t w = some (st ++ fr.map (·.b_)) := by
  unfold F24
  have := h.hst
  rw [if_pos (lim_le (by simp only [maxB]; omega)), L24_r _ _ _ _ _ _ _ _ _ _ _ _ h.hst h.hfr]; rfl
theorem F26_r {cs ns sl a q0 q1 b fr st ou t w} (h : MB cs ns sl q0 q1 fr st ou) : F26 cs ns sl a q0 q1 b fr st ou t w = some (st ++ fr.map (·.b_)) := by
  unfold F26 F60
  have := h.hst
  rw [if_pos (lim_le (by simp only [maxB]; omega)), bS_s, L26_r _ _ h.hst h.hfr]; rfl
/- the same twice is equal -/
theorem F12_eq (xs : List Int) (h : xs.length ≤ 4194303) : F12 xs xs = some true := by
  unfold F12
  rw [if_pos rfl, walk_loop (L12_0 · xs xs ·) xs.length (.inr ()) h]
  · rfl
  · intro n i c; simp only [L12_0]; rw [if_neg (by omega)]
  · intro n i c; simp only [L12_0]
    rw [if_pos (by omega), getI_n (List.getElem?_eq_getElem c), bS_s, bS_s, if_pos rfl, wr1 (by omega) (by omega)]; rfl
theorem F64_eq (xs : List ByteArray) (h : xs.length ≤ 4194303) : F64 xs xs = some true := by
  unfold F64
  rw [if_pos rfl, walk_loop (L64_0 · xs xs ·) xs.length (.inr ()) h]
  · rfl
  · intro n i c; simp only [L64_0]; rw [if_neg (by omega)]
  · intro n i c; simp only [L64_0]
    rw [if_pos (by omega), getI_n (List.getElem?_eq_getElem c), bS_s, bS_s, if_pos rfl, wr1 (by omega) (by omega)]; rfl
theorem F92_eq (a b c : Int) : F92 a b c a b c = some true := by simp [F92]
theorem F118_eq (a b c : Int) : F118 a b c a b c = some true := by simp [F118]
theorem F63_eq (xs : List T_Step) (h : xs.length ≤ 4194303) : F63 xs xs = some true := by
  unfold F63
  rw [if_pos rfl, walk_loop (L63_0 · xs xs ·) xs.length (.inr ()) h]
  · rfl
  · intro n i c; simp only [L63_0]; rw [if_neg (by omega)]
  · intro n i c; simp only [L63_0]
    rw [if_pos (by omega), getI_n (List.getElem?_eq_getElem c), bS_s, bS_s, F92_eq, bS_s, if_pos rfl, wr1 (by omega) (by omega)]; rfl
theorem F116_eq (xs : List T_Step) (h : xs.length ≤ 4194303) : F116 xs xs = some true := by
  unfold F116
  rw [if_pos rfl, walk_loop (L116_0 · xs xs ·) xs.length (.inr ()) h]
  · rfl
  · intro n i c; simp only [L116_0]; rw [if_neg (by omega)]
  · intro n i c; simp only [L116_0]
    rw [if_pos (by omega), getI_n (List.getElem?_eq_getElem c), bS_s, bS_s, F118_eq, bS_s, if_pos rfl, wr1 (by omega) (by omega)]; rfl
theorem F111_eq (a b : Int) (l : List T_Step) (h : l.length ≤ 4194303) : F111 a b l a b l = some true := by simp [F111, F116_eq l h]
theorem F91_eq (xs : List T_Code) (h : xs.length ≤ 4194303) (h2 : ∀ e ∈ xs, e.steps_.length ≤ 1048576) : F91 xs xs = some true := by
  unfold F91
  rw [if_pos rfl, walk_loop (L91_0 · xs xs ·) xs.length (.inr ()) h]
  · rfl
  · intro n i c; simp only [L91_0]; rw [if_neg (by omega)]
  · intro n i c; simp only [L91_0]
    have := h2 _ (List.getElem_mem c)
    rw [if_pos (by omega), getI_n (List.getElem?_eq_getElem c), bS_s, bS_s, F111_eq _ _ _ (by omega), bS_s, if_pos rfl, wr1 (by omega) (by omega)]; rfl
theorem F27_eq {cs ns sl a q0 q1 b fr st ou t w} (h : MB cs ns sl q0 q1 fr st ou) : F27 cs ns sl a q0 q1 b fr st ou t w cs ns sl a q0 q1 b fr st ou t w = some true := by
  have := h.hcs; have := h.hns; have := h.hsl; have := h.hq0; have := h.hq1; have := h.hfr; have := h.hst; have := h.hou
  simp only [F27, F61, F13, F62, F91_eq cs (by omega) h.hct, F64_eq ns (by omega), F64_eq ou (by omega), F12_eq sl (by omega), F12_eq q0 (by omega), F12_eq q1 (by omega), F12_eq st (by omega), F63_eq fr (by omega), bS_s, if_true]
end Go.Pv

namespace Go.Pv
set_option maxRecDepth 100000
set_option maxHeartbeats 4000000
set_option linter.unusedSimpArgs false
set_option linter.unusedVariables false
theorem set_len3 {τ : Type} (l : List τ) (i : Nat) (a b c : τ) : (((l.set i a).set i b).set i c).length = l.length := by simp
/-- marks upon whole numbers: which they are -/
theorem F15_r (xs : List Int) (k : Int) (h : xs.length ≤ 4194303) (hk : 0 ≤ k) (hk2 : k ≤ 2305843009213693952) :
    ∃ ys : List Int, F15 xs k = some (k + xs.length, ys) ∧ ys.length = xs.length ∧ ∀ j, j < xs.length → ys[j]? = some (k + j) := by
  obtain ⟨r, e, hr⟩ := inv_loop (fun n (s : List Int × Int) i => L15_0 n s.1 s.2 i) xs.length
    (fun i s => s.1.length = xs.length ∧ s.2 = k + i ∧ ∀ j, j < i → s.1[j]? = some (k + j))
    (fun r => r.2 = k + xs.length ∧ r.1.length = xs.length ∧ ∀ j, j < xs.length → r.1[j]? = some (k + j)) h
    (by
      rintro n i ⟨l, m⟩ hi c ⟨h1, h2, h3⟩
      simp only at h1 h2 h3
      refine ⟨(l, m), ?_, ?_, h1, ?_⟩
      · simp only [L15_0]; rw [if_neg (by omega)]
      · simp only; omega
      · intro j hj; exact h3 j (by omega))
    (by
      rintro n i ⟨l, m⟩ c ⟨h1, h2, h3⟩
      simp only at h1 h2 h3
      obtain ⟨x, hx⟩ := lt_get (xs := l) (i := i) (by omega)
      refine .inl ⟨(l.set i m, m + 1), ?_, by simp [h1], by simp only; omega, ?_⟩
      · simp only [L15_0]
        rw [if_pos (by omega), getI_n hx, bS_s, wr1 (by omega) (by omega), wr1 (by omega) (by omega), Int.toNat_natCast]; rfl
      · intro j hj
        simp only
        rw [List.getElem?_set]
        by_cases e : i = j
        · subst e; rw [if_pos rfl, if_pos (by omega), h2]
        · rw [if_neg e]; exact h3 j (by omega)) (xs, k) ⟨rfl, by simp, by intro j hj; omega⟩
  obtain ⟨l, m⟩ := r
  obtain ⟨h1, h2, h3⟩ := hr
  simp only at h1 h2 h3 e
  refine ⟨l, ?_, h2, h3⟩
  unfold F15
  rw [e]; simp [h1]
theorem F16_r (ys : List Int) (k : Int) (h : ys.length ≤ 4194303) (hk : 0 ≤ k) (hk2 : k ≤ 2305843009213693952) (hy : ∀ j, j < ys.length → ys[j]? = some (k + j)) :
    F16 ys k = some (k + ys.length) := by
  obtain ⟨r, e, hr⟩ := inv_loop (fun n (s : Int) i => L16_0 n ys s i) ys.length (fun i s => s = k + i) (fun r => r = .inr (k + ys.length)) h
    (by
      rintro n i s hi c h1
      refine ⟨.inr s, ?_, ?_⟩
      · simp only [L16_0]; rw [if_neg (by omega)]
      · rw [h1]; simp; omega)
    (by
      rintro n i s c h1
      refine .inl ⟨s + 1, ?_, by omega⟩
      simp only [L16_0]
      rw [if_pos (by omega), getI_n (hy i c), bS_s, if_pos (by omega), wr1 (by omega) (by omega), wr1 (by omega) (by omega)]; rfl) k (by simp)
  subst hr
  unfold F16
  rw [e]; simp
/-- a mark's text -/
theorem gset {τ : Type} {l : List τ} {i : Nat} {x : τ} (h : i < l.length) : (l.set i x)[i]? = some x := by simp [h]
theorem ba1 (x : UInt8) : (⟨#[x]⟩ : ByteArray).size = 1 := rfl
theorem ba0 : (⟨#[]⟩ : ByteArray).size = 0 := rfl
theorem L94_tot (n : Nat) : ∀ (m : Nat) (t : Int) (acc : ByteArray), m < n → 0 ≤ t → t < 2 ^ m → t < 4611686018427387904 → acc.size + m ≤ 1048576 → ∃ r, L94_0 n t acc = some r ∧ r.size ≤ 1048576 := by
  induction n with
  | zero => intro m t acc hm; omega
  | succ n ih =>
    intro m t acc hm h0 ht h2 hs
    simp only [L94_0]
    by_cases c : 0 < t
    · rw [if_pos c]
      cases m with
      | zero => simp at ht; omega
      | succ m =>
        have hd : Int.tdiv t 10 = t / 10 := Int.tdiv_eq_ediv_of_nonneg h0
        rw [if_pos (by rw [ba1]; omega), hd, wrap64_id _ (by omega) (by omega)]
        refine ih m _ _ (by omega) (by omega) ?_ (by omega) ?_
        · have : (2 : Int) ^ (m + 1) = 2 ^ m * 2 := Int.pow_succ 2 m
          omega
        · rw [ByteArray.size_append]
          have : (⟨#[UInt8.ofNat (IntKind.u8.wrap (IntKind.i64.wrap (48 + Int.tmod t 10))).toNat]⟩ : ByteArray).size = 1 := rfl
          omega
    · rw [if_neg c]; exact ⟨acc, rfl, by omega⟩
theorem F94_tot (k : Int) (hk : k < 4611686018427387904) : ∃ r, F94 k = some r := by
  unfold F94
  by_cases c : k ≤ 0
  · rw [if_pos c]; exact ⟨_, rfl⟩
  · rw [if_neg c]
    obtain ⟨r, e, hr⟩ := L94_tot FU 62 k ⟨#[]⟩ (by unfold FU; omega) (by omega) (by simpa using hk) hk (by rw [ba0]; omega)
    rw [e, bS_s, if_pos (by rw [ba1]; omega)]
    exact ⟨_, rfl⟩
theorem F68_r (xs : List ByteArray) (k : Int) (h : xs.length ≤ 4194303) (hk : 0 ≤ k) (hk2 : k ≤ 2305843009213693952) :
    ∃ ys : List ByteArray, F68 xs k = some (k + xs.length, ys) ∧ ys.length = xs.length ∧ ∀ j, j < xs.length → ys[j]? = F94 (k + j) := by
  obtain ⟨r, e, hr⟩ := inv_loop (fun n (s : List ByteArray × Int) i => L68_0 n s.1 s.2 i) xs.length
    (fun i s => s.1.length = xs.length ∧ s.2 = k + i ∧ ∀ j, j < i → s.1[j]? = F94 (k + j))
    (fun r => r.2 = k + xs.length ∧ r.1.length = xs.length ∧ ∀ j, j < xs.length → r.1[j]? = F94 (k + j)) h
    (by
      rintro n i ⟨l, m⟩ hi c ⟨h1, h2, h3⟩
      simp only at h1 h2 h3
      refine ⟨(l, m), ?_, ?_, h1, ?_⟩
      · simp only [L68_0]; rw [if_neg (by omega)]
      · simp only; omega
      · intro j hj; exact h3 j (by omega))
    (by
      rintro n i ⟨l, m⟩ c ⟨h1, h2, h3⟩
      simp only at h1 h2 h3
      obtain ⟨x, hx⟩ := lt_get (xs := l) (i := i) (by omega)
      obtain ⟨r, hr⟩ := F94_tot m (by omega)
      refine .inl ⟨(l.set i r, m + 1), ?_, by simp [h1], by simp only; omega, ?_⟩
      · simp only [L68_0]
        rw [if_pos (by omega), hr, bS_s, getI_n hx, bS_s, wr1 (by omega) (by omega), wr1 (by omega) (by omega), Int.toNat_natCast]; rfl
      · intro j hj
        simp only
        rw [List.getElem?_set]
        by_cases e : i = j
        · subst e; rw [if_pos rfl, if_pos (by omega), ← h2, hr]
        · rw [if_neg e]; exact h3 j (by omega)) (xs, k) ⟨rfl, by simp, by intro j hj; omega⟩
  obtain ⟨l, m⟩ := r
  obtain ⟨h1, h2, h3⟩ := hr
  simp only at h1 h2 h3 e
  refine ⟨l, ?_, h2, h3⟩
  unfold F68
  rw [e]; simp [h1]
theorem F69_r (ys : List ByteArray) (k : Int) (h : ys.length ≤ 4194303) (hk : 0 ≤ k) (hk2 : k ≤ 2305843009213693952) (hy : ∀ j, j < ys.length → ys[j]? = F94 (k + j)) :
    F69 ys k = some (k + ys.length) := by
  obtain ⟨r, e, hr⟩ := inv_loop (fun n (s : Int) i => L69_0 n ys s i) ys.length (fun i s => s = k + i) (fun r => r = .inr (k + ys.length)) h
    (by
      rintro n i s hi c h1
      refine ⟨.inr s, ?_, ?_⟩
      · simp only [L69_0]; rw [if_neg (by omega)]
      · rw [h1]; simp; omega)
    (by
      rintro n i s c h1
      refine .inl ⟨s + 1, ?_, by omega⟩
      obtain ⟨r, hr⟩ := F94_tot s (by omega)
      have h3 := hy i c
      rw [← h1, hr] at h3
      simp only [L69_0]
      rw [if_pos (by omega), getI_n h3, bS_s, hr, bS_s, if_pos rfl, wr1 (by omega) (by omega), wr1 (by omega) (by omega)]; rfl) k (by simp)
  subst hr
  unfold F69
  rw [e]; simp
theorem F67_r (xs : List T_Step) (k : Int) (h : xs.length ≤ 4194303) (hk : 0 ≤ k) (hk2 : k ≤ 2305843009213693952) :
    ∃ ys : List T_Step, F67 xs k = some (k + 3 * xs.length, ys) ∧ ys.length = xs.length := by
  obtain ⟨r, e, hr⟩ := inv_loop (fun n (s : List T_Step × Int) i => L67_0 n s.1 s.2 i) xs.length
    (fun i s => s.1.length = xs.length ∧ s.2 = k + 3 * i) (fun r => r.2 = k + 3 * xs.length ∧ r.1.length = xs.length) h
    (by
      rintro n i ⟨l, m⟩ hi c ⟨h1, h2⟩
      simp only at h1 h2
      refine ⟨(l, m), ?_, ?_, h1⟩
      · simp only [L67_0]; rw [if_neg (by omega)]
      · simp only; omega)
    (by
      rintro n i ⟨l, m⟩ c ⟨h1, h2⟩
      simp only at h1 h2
      obtain ⟨x, hx⟩ := lt_get (xs := l) (i := i) (by omega)
      have w1 := wr1 (i := m) (by omega) (by omega)
      have w2 := wr1 (i := m + 1) (by omega) (by omega)
      have w3 := wr1 (i := m + 1 + 1) (by omega) (by omega)
      refine .inl ⟨(((l.set i ⟨m, x.a_, x.b_⟩).set i ⟨m, m + 1, x.b_⟩).set i ⟨m, m + 1, m + 1 + 1⟩, m + 1 + 1 + 1), ?_, ?_, by simp only; omega⟩
      · simp only [L67_0, Int.toNat_natCast]
        rw [if_pos (by omega), getI_n hx, bS_s, getI_n (gset (by (try simp only [List.length_set]); omega)), bS_s, getI_n (gset (by (try simp only [List.length_set]); omega)), bS_s, w1, w2, w3, wr1 (i := i) (by omega) (by omega)]; rfl
      · simp [h1]) (xs, k) ⟨rfl, by simp⟩
  obtain ⟨l, m⟩ := r
  obtain ⟨h1, h2⟩ := hr
  simp only at h1 h2 e
  refine ⟨l, ?_, h2⟩
  unfold F67
  rw [e]; simp [h1]
theorem F112_r (xs : List T_Step) (k : Int) (h : xs.length ≤ 4194303) (hk : 0 ≤ k) (hk2 : k ≤ 2305843009213693952) :
    ∃ ys : List T_Step, F112 xs k = some (k + 3 * xs.length, ys) ∧ ys.length = xs.length := by
  obtain ⟨r, e, hr⟩ := inv_loop (fun n (s : List T_Step × Int) i => L112_0 n s.1 s.2 i) xs.length
    (fun i s => s.1.length = xs.length ∧ s.2 = k + 3 * i) (fun r => r.2 = k + 3 * xs.length ∧ r.1.length = xs.length) h
    (by
      rintro n i ⟨l, m⟩ hi c ⟨h1, h2⟩
      simp only at h1 h2
      refine ⟨(l, m), ?_, ?_, h1⟩
      · simp only [L112_0]; rw [if_neg (by omega)]
      · simp only; omega)
    (by
      rintro n i ⟨l, m⟩ c ⟨h1, h2⟩
      simp only at h1 h2
      obtain ⟨x, hx⟩ := lt_get (xs := l) (i := i) (by omega)
      have w1 := wr1 (i := m) (by omega) (by omega)
      have w2 := wr1 (i := m + 1) (by omega) (by omega)
      have w3 := wr1 (i := m + 1 + 1) (by omega) (by omega)
      refine .inl ⟨(((l.set i ⟨m, x.a_, x.b_⟩).set i ⟨m, m + 1, x.b_⟩).set i ⟨m, m + 1, m + 1 + 1⟩, m + 1 + 1 + 1), ?_, ?_, by simp only; omega⟩
      · simp only [L112_0, Int.toNat_natCast]
        rw [if_pos (by omega), getI_n hx, bS_s, getI_n (gset (by (try simp only [List.length_set]); omega)), bS_s, getI_n (gset (by (try simp only [List.length_set]); omega)), bS_s, w1, w2, w3, wr1 (i := i) (by omega) (by omega)]; rfl
      · simp [h1]) (xs, k) ⟨rfl, by simp⟩
  obtain ⟨l, m⟩ := r
  obtain ⟨h1, h2⟩ := hr
  simp only at h1 h2 e
  refine ⟨l, ?_, h2⟩
  unfold F112
  rw [e]; simp [h1]
theorem mem_set_P {τ : Type} {P : τ → Prop} {l : List τ} {i : Nat} {x : τ} (h : ∀ y ∈ l, P y) (hx : P x) : ∀ y ∈ l.set i x, P y := by
  intro y hy
  rcases List.mem_or_eq_of_mem_set hy with h1 | h1
  · exact h y h1
  · subst h1; exact hx
theorem F93_r (xs : List T_Code) (k : Int) (h : xs.length ≤ 1048576) (h2 : ∀ e ∈ xs, e.steps_.length ≤ 1048576) (hk : 0 ≤ k) (hk2 : k ≤ 4503599627370496) :
    ∃ (m : Int) (ys : List T_Code), F93 xs k = some (m, ys) ∧ ys.length = xs.length ∧ k ≤ m ∧ m ≤ k + 4194304 * xs.length := by
  obtain ⟨r, e, hr⟩ := inv_loop (fun n (s : List T_Code × Int) i => L93_0 n s.1 s.2 i) xs.length
    (fun i s => s.1.length = xs.length ∧ (∀ e ∈ s.1, e.steps_.length ≤ 1048576) ∧ k ≤ s.2 ∧ s.2 ≤ k + 4194304 * i) (fun r => r.1.length = xs.length ∧ k ≤ r.2 ∧ r.2 ≤ k + 4194304 * xs.length) (by omega)
    (by
      rintro n i ⟨l, m⟩ hi c ⟨h1, h3, h4, h5⟩
      simp only at h1 h3 h4 h5
      refine ⟨(l, m), ?_, h1, h4, ?_⟩
      · simp only [L93_0]; rw [if_neg (by omega)]
      · simp only; omega)
    (by
      rintro n i ⟨l, m⟩ c ⟨h1, h3, h4, h5⟩
      simp only at h1 h3 h4 h5
      obtain ⟨x, hx⟩ := lt_get (xs := l) (i := i) (by omega)
      have hxs := h3 x (List.mem_of_getElem? hx)
      have w1 := wr1 (i := m) (by omega) (by omega)
      have w2 := wr1 (i := m + 1) (by omega) (by omega)
      obtain ⟨ys, hy, hyl⟩ := F112_r x.steps_ (m + 1 + 1) (by omega) (by omega) (by omega)
      refine .inl ⟨(((l.set i ⟨m, x.vars_, x.steps_⟩).set i ⟨m, m + 1, x.steps_⟩).set i ⟨m, m + 1, ys⟩, m + 1 + 1 + 3 * x.steps_.length), ?_, ?_, ?_, by simp only; omega, by simp only; omega⟩
      · simp only [L93_0, Int.toNat_natCast]
        rw [if_pos (by omega), getI_n hx, bS_s, getI_n (gset (by (try simp only [List.length_set]); omega)), bS_s, getI_n (gset (by (try simp only [List.length_set]); omega)), bS_s, w1, w2, hy, bS_s]
        simp only
        rw [if_pos hyl, wr1 (i := i) (by omega) (by omega)]; rfl
      · simp [h1]
      · simp only
        exact mem_set_P (mem_set_P (mem_set_P h3 hxs) hxs) (by simp only; omega)) (xs, k) ⟨rfl, h2, by simp, by simp⟩
  obtain ⟨l, m⟩ := r
  obtain ⟨h1, h3, h4⟩ := hr
  simp only at h1 h3 h4 e
  refine ⟨m, l, ?_, h1, h3, h4⟩
  unfold F93
  rw [e]; simp
theorem F28_r {cs ns sl a q0 q1 b fr st ou t w} (h : MB cs ns sl q0 q1 fr st ou) : ∃ m cs' ns' sl' q0' q1' fr' st' ou', F28 cs ns sl a q0 q1 b fr st ou t w 1 = some (m, cs', ns', sl', a, q0', q1', b, fr', st', ou', t, w) ∧ 0 ≤ m ∧
    cs'.length = cs.length ∧ ns'.length = ns.length ∧ sl'.length = sl.length ∧ q0'.length = q0.length ∧ q1'.length = q1.length ∧ fr'.length = fr.length ∧ st'.length = st.length ∧ ou'.length = ou.length := by
  have := h.hcs; have := h.hns; have := h.hsl; have := h.hq0; have := h.hq1; have := h.hfr; have := h.hst; have := h.hou
  obtain ⟨m0, cs', e0, l0, a0, b0⟩ := F93_r cs 1 h.hcs h.hct (by omega) (by omega)
  obtain ⟨ns', e1, l1, _⟩ := F68_r ns m0 (by omega) (by omega) (by omega)
  obtain ⟨sl', e2, l2, _⟩ := F15_r sl (m0 + ns.length) (by omega) (by omega) (by omega)
  obtain ⟨q0', e3, l3, _⟩ := F15_r q0 (m0 + ns.length + sl.length) (by omega) (by omega) (by omega)
  obtain ⟨q1', e4, l4, _⟩ := F15_r q1 (m0 + ns.length + sl.length + q0.length) (by omega) (by omega) (by omega)
  obtain ⟨fr', e5, l5⟩ := F67_r fr (m0 + ns.length + sl.length + q0.length + q1.length) (by omega) (by omega) (by omega)
  obtain ⟨st', e6, l6, _⟩ := F15_r st (m0 + ns.length + sl.length + q0.length + q1.length + 3 * fr.length) (by omega) (by omega) (by omega)
  obtain ⟨ou', e7, l7, _⟩ := F68_r ou (m0 + ns.length + sl.length + q0.length + q1.length + 3 * fr.length + st.length) (by omega) (by omega) (by omega)
  refine ⟨m0 + ns.length + sl.length + q0.length + q1.length + 3 * fr.length + st.length + ou.length, cs', ns', sl', q0', q1', fr', st', ou', ?_, ?_, l0, l1, l2, l3, l4, l5, l6, l7⟩
  · simp only [F28, F65, F14, F66, e0, e1, e2, e3, e4, e5, e6, e7, bS_s, l0, l1, l2, l3, l4, l5, l6, l7, if_true]
  · omega
end Go.Pv

namespace Go.Pv
set_option maxRecDepth 100000
set_option maxHeartbeats 4000000
set_option linter.unusedSimpArgs false
set_option linter.unusedVariables false
theorem wrs {k : Int} {n : Nat} (h0 : 0 ≤ k) (h1 : k ≤ 1048576) (h : n ≤ 9223372036854775807) : IntKind.i64.wrap (k - n) = k - n := wrap64_id _ (by omega) (by omega)
theorem F34_s (l : List Int) (k : Int) (h : l.length ≤ 9223372036854775807) (h0 : 0 ≤ k) (h1 : k ≤ 1048576) : ∃ r, F34 l k = some r ∧ (r < 0 ∨ (0 ≤ r ∧ r ≤ k ∧ l.length ≤ 1048576)) := by
  unfold F34
  rw [wrs h0 h1 h]
  split
  · exact ⟨_, rfl, .inl (by omega)⟩
  · exact ⟨_, rfl, .inr ⟨by omega, by omega, by omega⟩⟩
theorem F114_s (l : List T_Step) (k : Int) (h : l.length ≤ 9223372036854775807) (h0 : 0 ≤ k) (h1 : k ≤ 1048576) : ∃ r, F114 l k = some r ∧ (r < 0 ∨ (0 ≤ r ∧ r ≤ k ∧ l.length ≤ 1048576)) := by
  unfold F114
  rw [wrs h0 h1 h]
  split
  · exact ⟨_, rfl, .inl (by omega)⟩
  · exact ⟨_, rfl, .inr ⟨by omega, by omega, by omega⟩⟩
theorem F54_s (l : List T_Step) (k : Int) (h : l.length ≤ 9223372036854775807) (h0 : 0 ≤ k) (h1 : k ≤ 1048576) : ∃ r, F54 l k = some r ∧ (r < 0 ∨ (0 ≤ r ∧ r ≤ k ∧ l.length ≤ 1048576)) := by
  unfold F54
  rw [wrs h0 h1 h]
  split
  · exact ⟨_, rfl, .inl (by omega)⟩
  · exact ⟨_, rfl, .inr ⟨by omega, by omega, by omega⟩⟩
theorem F109_s (a b : Int) (l : List T_Step) (k : Int) (h : l.length ≤ 9223372036854775807) (h0 : 0 ≤ k) (h1 : k ≤ 1048576) : ∃ r, F109 a b l k = some r ∧ (r < 0 ∨ (0 ≤ r ∧ r ≤ k ∧ l.length ≤ 1048576)) := by
  unfold F109
  obtain ⟨r, e, hr⟩ := F114_s l k h h0 h1
  rw [e, bS_s]
  split
  · exact ⟨_, rfl, .inl (by omega)⟩
  · exact ⟨_, rfl, hr⟩
theorem F55_s (l : List ByteArray) (k : Int) (h : l.length ≤ 9223372036854775807) (hs : ∀ s ∈ l, s.size ≤ 9223372036854775807) (h0 : 0 ≤ k) (h1 : k ≤ 1048576) : ∃ r, F55 l k = some r ∧ (r < 0 ∨ (0 ≤ r ∧ r ≤ k ∧ l.length ≤ 1048576)) := by
  unfold F55
  rw [wrs h0 h1 h]
  split
  · exact ⟨_, rfl, .inl (by omega)⟩
  rename_i c
  obtain ⟨r, e, hr⟩ := inv_loop (fun n (s : Int) i => L55_0 n l s i) l.length (fun i s => 0 ≤ s ∧ s ≤ k) (fun r => (∃ x, r = .inl (x, -1)) ∨ ∃ s, r = .inr s ∧ 0 ≤ s ∧ s ≤ k) (by omega)
    (by
      intro n i s hi c hI
      refine ⟨.inr s, ?_, .inr ⟨s, rfl, hI⟩⟩
      simp only [L55_0]; rw [if_neg (by omega)])
    (by
      intro n i s c ⟨h2, h3⟩
      have hz := hs _ (List.getElem_mem c)
      by_cases d : s - l[i].size < 0
      · refine .inr ⟨_, ?_, .inl ⟨s - l[i].size, rfl⟩⟩
        simp only [L55_0]
        rw [if_pos (by omega), getI_n (List.getElem?_eq_getElem c), bS_s, wrs h2 (by omega) hz, if_pos d]
      · refine .inl ⟨s - l[i].size, ?_, by omega, by omega⟩
        simp only [L55_0]
        rw [if_pos (by omega), getI_n (List.getElem?_eq_getElem c), bS_s, wrs h2 (by omega) hz, if_neg d, wr1 (by omega) (by omega)]; rfl) (k - l.length) ⟨by omega, by omega⟩
  rw [e]
  rcases hr with ⟨x, rfl⟩ | ⟨s, rfl, h2, h3⟩
  · exact ⟨_, rfl, .inl (by omega)⟩
  · exact ⟨_, rfl, .inr ⟨by omega, by omega, by omega⟩⟩
theorem F88_s (l : List T_Code) (k : Int) (h : l.length ≤ 9223372036854775807) (hs : ∀ s ∈ l, s.steps_.length ≤ 9223372036854775807) (h0 : 0 ≤ k) (h1 : k ≤ 1048576) :
    ∃ r, F88 l k = some r ∧ (r < 0 ∨ (0 ≤ r ∧ r ≤ k ∧ l.length ≤ 1048576 ∧ ∀ s ∈ l, s.steps_.length ≤ 1048576)) := by
  unfold F88
  rw [wrs h0 h1 h]
  split
  · exact ⟨_, rfl, .inl (by omega)⟩
  rename_i c
  obtain ⟨r, e, hr⟩ := inv_loop (fun n (s : Int) i => L88_0 n l s i) l.length (fun i s => 0 ≤ s ∧ s ≤ k ∧ ∀ x ∈ l.take i, x.steps_.length ≤ 1048576) (fun r => (∃ x, r = .inl (x, -1)) ∨ ∃ s, r = .inr s ∧ 0 ≤ s ∧ s ≤ k ∧ ∀ x ∈ l, x.steps_.length ≤ 1048576) (by omega)
    (by
      intro n i s hi c ⟨h2, h3, h4⟩
      refine ⟨.inr s, ?_, .inr ⟨s, rfl, h2, h3, ?_⟩⟩
      · simp only [L88_0]; rw [if_neg (by omega)]
      · rw [List.take_of_length_le (by omega)] at h4; exact h4)
    (by
      intro n i s c ⟨h2, h3, h4⟩
      have hz := hs _ (List.getElem_mem c)
      obtain ⟨r, e, hr⟩ := F109_s l[i].names_ l[i].vars_ l[i].steps_ s hz h2 (by omega)
      by_cases d : r < 0
      · refine .inr ⟨_, ?_, .inl ⟨r, rfl⟩⟩
        simp only [L88_0]
        rw [if_pos (by omega), getI_n (List.getElem?_eq_getElem c), bS_s, e, bS_s, if_pos d]
      · rcases hr with hr | ⟨h5, h6, h7⟩
        · exact absurd hr d
        refine .inl ⟨r, ?_, by omega, by omega, ?_⟩
        · simp only [L88_0]
          rw [if_pos (by omega), getI_n (List.getElem?_eq_getElem c), bS_s, e, bS_s, if_neg d, wr1 (by omega) (by omega)]; rfl
        · intro x hx
          rw [List.take_add_one, List.getElem?_eq_getElem c] at hx
          rcases List.mem_append.1 hx with hx | hx
          · exact h4 x hx
          · simp only [Option.toList, List.mem_singleton] at hx; subst hx; exact h7) (k - l.length) ⟨by omega, by omega, by intro x hx; simp at hx⟩
  rw [e]
  rcases hr with ⟨x, rfl⟩ | ⟨s, rfl, h2, h3, h4⟩
  · exact ⟨_, rfl, .inl (by omega)⟩
  · exact ⟨_, rfl, .inr ⟨by omega, by omega, by omega, h4⟩⟩
/-- what the rows of an argument keep to -/
structure ML (cs : List T_Code) (ns : List ByteArray) (sl : List Int) (q0 q1 : List Int) (fr : List T_Step) (st : List Int) (ou : List ByteArray) : Prop where
  hcs : cs.length ≤ 9223372036854775807
  hct : ∀ e ∈ cs, e.steps_.length ≤ 9223372036854775807
  hns : ns.length ≤ 9223372036854775807
  hnt : ∀ s ∈ ns, s.size ≤ 9223372036854775807
  hsl : sl.length ≤ 9223372036854775807
  hq0 : q0.length ≤ 9223372036854775807
  hq1 : q1.length ≤ 9223372036854775807
  hfr : fr.length ≤ 9223372036854775807
  hst : st.length ≤ 9223372036854775807
  hou : ou.length ≤ 9223372036854775807
  hot : ∀ s ∈ ou, s.size ≤ 9223372036854775807
theorem F23_s {cs ns sl a q0 q1 b fr st ou t w} (h : ML cs ns sl q0 q1 fr st ou) : ∃ r, F23 cs ns sl a q0 q1 b fr st ou t w 1048576 = some r ∧ (r < 0 ∨ MB cs ns sl q0 q1 fr st ou) := by
  simp only [F23, F52, F8, F53]
  obtain ⟨r0, e0, d0⟩ := F88_s cs 1048576 h.hcs h.hct (by omega) (by omega)
  simp only [e0, bS_s]
  by_cases c0 : r0 < 0
  · simp only [c0, if_true, bS_s, show ((-1 : Int) < 0) = True by simp]; exact ⟨_, rfl, .inl (by omega)⟩
  obtain ⟨a0, b0, g0, f0⟩ := d0.resolve_left c0
  obtain ⟨r1, e1, d1⟩ := F55_s ns r0 h.hns h.hnt (by omega) (by omega)
  simp only [c0, if_false, e1, bS_s]
  by_cases c1 : r1 < 0
  · simp only [c1, if_true, bS_s, show ((-1 : Int) < 0) = True by simp]; exact ⟨_, rfl, .inl (by omega)⟩
  obtain ⟨a1, b1, g1⟩ := d1.resolve_left c1
  obtain ⟨r2, e2, d2⟩ := F34_s sl r1 h.hsl (by omega) (by omega)
  simp only [c1, if_false, e2, bS_s]
  by_cases c2 : r2 < 0
  · simp only [c2, if_true, bS_s, show ((-1 : Int) < 0) = True by simp]; exact ⟨_, rfl, .inl (by omega)⟩
  obtain ⟨a2, b2, g2⟩ := d2.resolve_left c2
  obtain ⟨r3, e3, d3⟩ := F34_s q0 r2 h.hq0 (by omega) (by omega)
  simp only [c2, if_false, e3, bS_s]
  by_cases c3 : r3 < 0
  · simp only [c3, if_true, bS_s, show ((-1 : Int) < 0) = True by simp]; exact ⟨_, rfl, .inl (by omega)⟩
  obtain ⟨a3, b3, g3⟩ := d3.resolve_left c3
  obtain ⟨r4, e4, d4⟩ := F34_s q1 r3 h.hq1 (by omega) (by omega)
  simp only [c3, if_false, e4, bS_s]
  by_cases c4 : r4 < 0
  · simp only [c4, if_true, bS_s, show ((-1 : Int) < 0) = True by simp]; exact ⟨_, rfl, .inl (by omega)⟩
  obtain ⟨a4, b4, g4⟩ := d4.resolve_left c4
  obtain ⟨r5, e5, d5⟩ := F54_s fr r4 h.hfr (by omega) (by omega)
  simp only [c4, if_false, e5, bS_s]
  by_cases c5 : r5 < 0
  · simp only [c5, if_true]; exact ⟨_, rfl, .inl (by omega)⟩
  obtain ⟨a5, b5, g5⟩ := d5.resolve_left c5
  obtain ⟨r6, e6, d6⟩ := F34_s st r5 h.hst (by omega) (by omega)
  simp only [c5, if_false, e6, bS_s]
  by_cases c6 : r6 < 0
  · simp only [c6, if_true]; exact ⟨_, rfl, .inl (by omega)⟩
  obtain ⟨a6, b6, g6⟩ := d6.resolve_left c6
  obtain ⟨r7, e7, d7⟩ := F55_s ou r6 h.hou h.hot (by omega) (by omega)
  simp only [c6, if_false, e7, bS_s]
  by_cases c7 : r7 < 0
  · simp only [c7, if_true]; exact ⟨_, rfl, .inl (by omega)⟩
  obtain ⟨a7, b7, g7⟩ := d7.resolve_left c7
  simp only [c7, if_false]
  exact ⟨_, rfl, .inr ⟨g0, f0, g1, g2, g3, g4, g5, g6, g7⟩⟩
theorem F6_all {cs ns sl a q0 q1 b fr st ou t w} (h : ML cs ns sl q0 q1 fr st ou) : F6 cs ns sl a q0 q1 b fr st ou t w = some true := by
  obtain ⟨r, e, hr⟩ := F23_s (a := a) (b := b) (t := t) (w := w) h
  unfold F6
  rw [e, bS_s]
  by_cases c : r < 0
  · rw [if_pos c]
  · rw [if_neg c]
    have hm := hr.resolve_left c
    have h1 := hm.hst; have h2 := hm.hfr
    obtain ⟨m, cs', ns', sl', q0', q1', fr', st', ou', e2, h3, l0, l1, l2, l3, l4, l5, l6, l7⟩ := F28_r (a := a) (b := b) (t := t) (w := w) hm
    have hlen : (st ++ fr.map (·.b_)).length ≤ 4194303 := by simp; omega
    obtain ⟨ys, e4, l8, hy⟩ := F15_r (st ++ fr.map (·.b_)) 1 hlen (by omega) (by omega)
    simp only [F25_id hm, F24_r hm, F26_r hm, bS_s, F12_eq _ hlen, if_true, F27_eq hm, e2, l0, l1, l2, l3, l4, l5, l6, l7]
    rw [if_neg (by omega)]
    simp only [e4, bS_s, l8, if_true, F16_r ys 1 (by omega) (by omega) (by omega) (by intro j hj; exact hy j (by omega))]
    rw [if_neg (by omega)]
theorem F7_all {cs ns sl a q0 q1 b fr st ou t w} (h : ML cs ns sl q0 q1 fr st ou) : F7 cs ns sl a q0 q1 b fr st ou t w = some true := by
  obtain ⟨r, e, hr⟩ := F23_s (a := a) (b := b) (t := t) (w := w) h
  unfold F7
  rw [e, bS_s]
  by_cases c : r < 0
  · rw [if_pos c]
  · rw [if_neg c]
    have hm := hr.resolve_left c
    have h1 := hm.hou
    obtain ⟨m, cs', ns', sl', q0', q1', fr', st', ou', e2, h3, l0, l1, l2, l3, l4, l5, l6, l7⟩ := F28_r (a := a) (b := b) (t := t) (w := w) hm
    obtain ⟨ys, e4, l8, hy⟩ := F68_r ou 1 (by omega) (by omega) (by omega)
    have hF : ∃ x, F29 cs ns sl a q0 q1 b fr st ou t w = some (x, ou) ∧ F30 cs ns sl a q0 q1 b fr st ou t w = some (x, ou) := by
      unfold F29 F30
      rw [if_pos (lim_le (by simp only [maxB]; omega))]
      split
      · exact ⟨_, rfl, rfl⟩
      · exact ⟨_, rfl, rfl⟩
    obtain ⟨x, f1, f2⟩ := hF
    simp only [F25_id hm, f1, f2, F31, F64_eq ou (by omega), bS_s, if_true, F27_eq hm, e2, l0, l1, l2, l3, l4, l5, l6, l7]
    rw [if_neg (by omega)]
    simp only [F32, F33, e4, bS_s, l8, if_true, F69_r ys 1 (by omega) (by omega) (by omega) (by intro j hj; exact hy j (by omega))]
    rw [if_neg (by omega), bS_s, if_neg (by omega), if_pos rfl]
end Go.Pv
