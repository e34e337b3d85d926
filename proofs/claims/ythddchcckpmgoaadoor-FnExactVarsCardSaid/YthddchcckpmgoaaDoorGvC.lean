/- Proof: plain laws of the functions. No condition. -/
import Derived.Test.YthddchcckpmgoaaDoorIm
import Derived.Test.YthddchcckpmgoaaDoorGvB
import Derived.Lib.SplitLaws
import Derived.Lib.IndexBytes
import Derived.Lib.IndexLaws
set_option autoImplicit true
set_option relaxedAutoImplicit true
set_option linter.unusedSimpArgs false
set_option linter.unusedVariables false
namespace Go.Pv
set_option maxRecDepth 100000
set_option linter.unusedSimpArgs false
set_option linter.unusedVariables false
/-- PLAIN LAWS of the printed functions: helpers -/
theorem wr1 {i : Int} (h : 0 ≤ i) (h2 : i ≤ 4611686018427387904) : IntKind.i64.wrap (i + 1) = i + 1 := wrap64_id _ (by omega) (by omega)
theorem getI_n {τ : Type} {xs : List τ} {i : Nat} {x : τ} (h : xs[i]? = some x) : getI xs (i : Int) = some x := by
  unfold getI
  have := (List.getElem?_eq_some_iff.1 h).1
  rw [if_pos ⟨by omega, by omega⟩]
  simpa using h
theorem cp_step {τ : Type} {xs acc : List τ} {i : Nat} {x : τ} (h : ∀ j, j < i → acc[j]? = xs[j]?) (hx : xs[i]? = some x) (hl : acc.length = xs.length) :
    ∀ j, j < i + 1 → (acc.set i x)[j]? = xs[j]? := by
  intro j hj
  have hi := (List.getElem?_eq_some_iff.1 hx).1
  rw [List.getElem?_set]
  by_cases e : i = j
  · subst e
    rw [if_pos rfl, if_pos (by omega), hx]
  · rw [if_neg e]; exact h j (by omega)
theorem cp_end {τ : Type} {xs acc : List τ} {i : Nat} (h : ∀ j, j < i → acc[j]? = xs[j]?) (hl : acc.length = xs.length) (hi : xs.length ≤ i) : acc = xs := by
  apply List.ext_getElem?
  intro j
  by_cases hj : j < i
  · exact h j hj
  · rw [List.getElem?_eq_none (by omega), List.getElem?_eq_none (by omega)]
theorem lt_get {τ : Type} {xs : List τ} {i : Nat} (h : i < xs.length) : ∃ x, xs[i]? = some x := ⟨xs[i], List.getElem?_eq_getElem h⟩
theorem lim_le {n b : Nat} (h : n * b ≤ maxB) : lim n b = true := by simp [lim, h]
/-- a loop that copies: one turn's rule is enough -/
theorem copy_loop {τ : Type} (L : Nat → List τ → List τ → Int → Option (List τ)) (xs : List τ) (hB : xs.length ≤ 4194303)
    (h0 : ∀ n acc (i : Nat), ¬ i < xs.length → L (n + 1) xs acc (i : Int) = some acc)
    (h1 : ∀ n (acc : List τ) (i : Nat) x y, xs[i]? = some x → acc[i]? = some y → i ≤ 4194303 → L (n + 1) xs acc (i : Int) = L n xs (acc.set i x) ((i + 1 : Nat) : Int)) (z : τ) :
    L FU xs (List.replicate xs.length z) 0 = some xs := by
  have key : ∀ (n i : Nat) (acc : List τ), acc.length = xs.length → (∀ j, j < i → acc[j]? = xs[j]?) → i ≤ xs.length → xs.length - i < n → L n xs acc (i : Int) = some xs := by
    intro n
    induction n with
    | zero => intro i acc hl h hi hn; omega
    | succ n ih =>
      intro i acc hl h hi hn
      by_cases c : i < xs.length
      · obtain ⟨x, hx⟩ := lt_get c
        obtain ⟨y, hy⟩ := lt_get (xs := acc) (i := i) (by omega)
        rw [h1 n acc i x y hx hy (by omega)]
        exact ih (i + 1) _ (by simp [hl]) (cp_step h hx hl) (by omega) (by omega)
      · rw [h0 n acc i c, cp_end h hl (by omega)]
  have := key FU 0 (List.replicate xs.length z) (by simp) (by intro j hj; omega) (by omega) (by simp only [FU]; omega)
  simpa using this
/-- a loop that looks a row through -/
theorem walk_loop {σ : Type} (L : Nat → Int → Option σ) (len : Nat) (r : σ) (hB : len ≤ 4194303)
    (h0 : ∀ n (i : Nat), ¬ i < len → L (n + 1) (i : Int) = some r)
    (h1 : ∀ n (i : Nat), i < len → L (n + 1) (i : Int) = L n ((i + 1 : Nat) : Int)) : L FU 0 = some r := by
  have key : ∀ (n i : Nat), i ≤ len → len - i < n → L n (i : Int) = some r := by
    intro n
    induction n with
    | zero => intro i hi hn; omega
    | succ n ih =>
      intro i hi hn
      by_cases c : i < len
      · rw [h1 n i c]; exact ih (i + 1) (by omega) (by omega)
      · exact h0 n i c
  have := key FU 0 (by omega) (by simp only [FU]; omega)
  simpa using this
/-- a loop with a state, by an invariant -/
theorem inv_loop {σ ρ : Type} (L : Nat → σ → Int → Option ρ) (len : Nat) (I : Nat → σ → Prop) (Q : ρ → Prop) (hB : len ≤ 4194303)
    (h0 : ∀ n (i : Nat) s, i ≤ len → ¬ i < len → I i s → ∃ r, L (n + 1) s (i : Int) = some r ∧ Q r)
    (h1 : ∀ n (i : Nat) s, i < len → I i s → (∃ s', L (n + 1) s (i : Int) = L n s' ((i + 1 : Nat) : Int) ∧ I (i + 1) s') ∨ (∃ r, L (n + 1) s (i : Int) = some r ∧ Q r)) (s0 : σ) (hI : I 0 s0) : ∃ r, L FU s0 0 = some r ∧ Q r := by
  have key : ∀ (n i : Nat) (s : σ), i ≤ len → len - i < n → I i s → ∃ r, L n s (i : Int) = some r ∧ Q r := by
    intro n
    induction n with
    | zero => intro i s hi hn; omega
    | succ n ih =>
      intro i s hi hn hs
      by_cases c : i < len
      · rcases h1 n i s c hs with ⟨s', e, hs'⟩ | ⟨r, e, hr⟩
        · rw [e]; exact ih (i + 1) s' (by omega) (by omega) hs'
        · exact ⟨r, e, hr⟩
      · exact h0 n i s hi c hs
  have := key FU 0 s0 (by omega) (by simp only [FU]; omega) hI
  simpa using this
end Go.Pv

namespace Go.Pv
set_option maxRecDepth 100000
set_option maxHeartbeats 40000000
set_option linter.unusedSimpArgs false
set_option linter.unusedVariables false
/-- laws.FnExactVars -/
def F3 (a0_1 : Int) (a0_2 : ByteArray) (a0_3 : Int) (a0_4 : List T_Node) : Option Bool :=
  bS (F6 a0_1 a0_2 a0_3 a0_4 1048576) fun r6 =>
  if r6 < 0 then
    some true
  else
  bS (F8 a0_1 a0_2 a0_3 a0_4) fun (r13, r14, r15, r16) =>
  bS (F7 r13 r14 r15 r16) fun r28 =>
  bS (F9 r13 r14 r15 r16) fun r46 =>
  bS (F10 r46 r28) fun r48 =>
  if r48 = true then
    bS (F11 r13 r14 r15 r16 r13 r14 r15 r16) fun r52 =>
    if r52 = true then
      bS (F12 r13 r14 r15 r16 1) fun (r61, r62, r63, r64, r65) =>
      if r65.length = r16.length then
      if r61 < 0 then
        some false
      else
      bS (F13 r46 1) fun (r69, r70) =>
      if r70.length = r46.length then
      bS (F14 r70 1) fun r75 =>
      if r75 < 0 then
        some false
      else
      if r75 = r69 then
        some true
      else
        some false
      else none
      else none
    else
      some false
  else
    some false
def F3_ans (a0_1 : Int) (a0_2 : ByteArray) (a0_3 : Int) (a0_4 : List T_Node) : Bool → Ans
  | q35 => .val (.sc (.bool q35)) []
end Go.Pv

namespace Go.Pv
set_option maxRecDepth 100000
set_option maxHeartbeats 4000000
set_option linter.unusedSimpArgs false
set_option linter.unusedVariables false
/-- trees: how much they weigh -/
theorem eta_N (x : T_Node) : (⟨x.op_, x.s_, x.n_, x.kids_⟩ : T_Node) = x := by cases x; rfl
mutual
def wN : T_Node → Nat
  | ⟨_, s, _, ks⟩ => s.size + sN ks
def sN : List T_Node → Nat
  | [] => 0
  | x :: l => 1 + wN x + sN l
end
theorem wN_eq (x : T_Node) : wN x = x.s_.size + sN x.kids_ := by cases x; simp [wN]
theorem sN_app (a b : List T_Node) : sN (a ++ b) = sN a + sN b := by
  induction a with
  | nil => simp [sN]
  | cons x l ih => simp [sN, ih]; omega
theorem sN_take {l : List T_Node} {i : Nat} (h : i < l.length) : sN (l.take (i + 1)) = sN (l.take i) + 1 + wN l[i] := by
  rw [List.take_add_one, List.getElem?_eq_getElem h, sN_app]; simp [sN]; omega
theorem sN_take_le (l : List T_Node) (i : Nat) : sN (l.take i) ≤ sN l := by
  have h := sN_app (l.take i) (l.drop i)
  rw [List.take_append_drop] at h; omega
theorem sN_mem {l : List T_Node} {x : T_Node} (h : x ∈ l) : 1 + wN x ≤ sN l := by
  induction l with
  | nil => cases h
  | cons y l ih =>
    simp only [sN]
    rcases List.mem_cons.1 h with rfl | h
    · omega
    · have := ih h; omega
theorem sN_len (l : List T_Node) : l.length ≤ sN l := by
  induction l with
  | nil => simp
  | cons y l ih => simp [sN]; omega
mutual
def okN : T_Node → Prop
  | ⟨_, s, _, ks⟩ => s.size ≤ 9223372036854775807 ∧ ks.length ≤ 9223372036854775807 ∧ okL ks
def okL : List T_Node → Prop
  | [] => True
  | x :: l => okN x ∧ okL l
end
theorem okN_eq {x : T_Node} (h : okN x) : x.s_.size ≤ 9223372036854775807 ∧ x.kids_.length ≤ 9223372036854775807 ∧ okL x.kids_ := by cases x; simpa [okN] using h
theorem okL_mem {l : List T_Node} (h : okL l) {x : T_Node} (hx : x ∈ l) : okN x := by
  induction l with
  | nil => cases hx
  | cons y l ih =>
    simp only [okL] at h
    rcases List.mem_cons.1 hx with rfl | hx
    · exact h.1
    · exact ih h.2 hx
theorem wrs {k : Int} {n : Nat} (h0 : 0 ≤ k) (h1 : k ≤ 1048576) (h : n ≤ 9223372036854775807) : IntKind.i64.wrap (k - n) = k - n := wrap64_id _ (by omega) (by omega)
theorem F6n_r : ∀ (n : Nat) (op : Int) (s : ByteArray) (k : Int) (ks : List T_Node) (left : Int), s.size ≤ 9223372036854775807 → ks.length ≤ 9223372036854775807 → okL ks → 0 ≤ left → left ≤ 1048576 → left + 1 < n →
    ∃ r, F6n n op s k ks left = some r ∧ (r < 0 ∨ (0 ≤ r ∧ r + s.size + sN ks = left)) := by
  intro n
  induction n with
  | zero => intro op s k ks left _ _ _ h0 _ h; omega
  | succ n ih =>
    intro op s k ks left hs hl ho h0 h1 hn
    show ∃ r, S6 (F6n n) op s k ks left = some r ∧ _
    unfold S6
    rw [wrs h0 h1 hs]
    by_cases c : left - s.size < 0
    · rw [if_pos c]; exact ⟨_, rfl, .inl (by omega)⟩
    rw [if_neg c]
    unfold F22
    rw [wrs (by omega) (by omega) hl]
    by_cases c2 : left - s.size - ks.length < 0
    · rw [if_pos c2, bS_s, if_pos (by omega)]; exact ⟨_, rfl, .inl (by omega)⟩
    rw [if_neg c2]
    obtain ⟨r, e, hr⟩ := inv_loop (fun n' (q : Int) i => L22_0 (F6n n) n' ks q i) ks.length (fun i q => 0 ≤ q ∧ q + sN (ks.take i) + (ks.length - i) = left - s.size)
      (fun r => (∃ x, r = .inl (x, -1)) ∨ ∃ q, r = .inr q ∧ 0 ≤ q ∧ q + sN ks = left - s.size) (by omega)
      (by
        intro n' i q hi c3 ⟨h2, h3⟩
        refine ⟨.inr q, ?_, .inr ⟨q, rfl, h2, ?_⟩⟩
        · simp only [L22_0]; rw [if_neg (by omega)]
        · rw [List.take_of_length_le (by omega)] at h3; omega)
      (by
        intro n' i q c3 ⟨h2, h3⟩
        have hx := okN_eq (okL_mem ho (List.getElem_mem c3))
        obtain ⟨r, e, hr⟩ := ih ks[i].op_ ks[i].s_ ks[i].n_ ks[i].kids_ q hx.1 hx.2.1 hx.2.2 h2 (by omega) (by omega)
        by_cases d : r < 0
        · refine .inr ⟨_, ?_, .inl ⟨r, rfl⟩⟩
          simp only [L22_0]
          rw [if_pos (by omega), getI_n (List.getElem?_eq_getElem c3), bS_s, e, bS_s, if_pos d]
        · obtain ⟨h4, h5⟩ := hr.resolve_left d
          refine .inl ⟨r, ?_, h4, ?_⟩
          · simp only [L22_0]
            rw [if_pos (by omega), getI_n (List.getElem?_eq_getElem c3), bS_s, e, bS_s, if_neg d, wr1 (by omega) (by omega)]; rfl
          · rw [sN_take c3, wN_eq]; omega) (left - s.size - ks.length) ⟨by omega, by simp [sN]⟩
    rw [e]
    rcases hr with ⟨x, rfl⟩ | ⟨q, rfl, h2, h3⟩
    · simp only [bS_s]; rw [if_pos (by omega)]; exact ⟨_, rfl, .inl (by omega)⟩
    · simp only [bS_s]; rw [if_neg (by omega)]; exact ⟨_, rfl, .inr ⟨h2, by omega⟩⟩
theorem F8n_r : ∀ (n : Nat) (op : Int) (s : ByteArray) (k : Int) (ks : List T_Node), sN ks < n → sN ks ≤ 1048576 → F8n n op s k ks = some (op, s, k, ks) := by
  intro n
  induction n with
  | zero => intro op s k ks h; omega
  | succ n ih =>
    intro op s k ks h h1
    have hl := sN_len ks
    show S8 (F8n n) op s k ks = _
    unfold S8 F25
    rw [if_pos (lim_le (by simp only [maxB]; omega)), copy_loop (fun n' xs acc i => L25_0 (F8n n) n' xs acc i) ks (by omega)]
    · rfl
    · intro n' acc i c
      simp only [L25_0]
      rw [if_neg (by omega)]
    · intro n' acc i x y hx hy hi
      have := (List.getElem?_eq_some_iff.1 hx).1
      have hm := sN_mem (List.mem_of_getElem? hx)
      have hw := wN_eq x
      simp only [L25_0]
      rw [if_pos (by omega), getI_n hx, bS_s, ih _ _ _ _ (by omega) (by omega), bS_s]
      simp only
      rw [getI_n hy, bS_s, wr1 (by omega) (by omega), Int.toNat_natCast, eta_N]
      rfl
theorem F11n_r : ∀ (n : Nat) (op : Int) (s : ByteArray) (k : Int) (ks : List T_Node), sN ks < n → sN ks ≤ 1048576 → F11n n op s k ks op s k ks = some true := by
  intro n
  induction n with
  | zero => intro op s k ks h; omega
  | succ n ih =>
    intro op s k ks h h1
    have hl := sN_len ks
    show S11 (F11n n) op s k ks op s k ks = _
    unfold S11 F19
    rw [if_pos rfl, if_pos rfl, if_pos rfl, if_pos rfl, walk_loop (L19_0 (F11n n) · ks ks ·) ks.length (.inr ()) (by omega)]
    · rfl
    · intro n' i c; simp only [L19_0]; rw [if_neg (by omega)]
    · intro n' i c; simp only [L19_0]
      have hm := sN_mem (List.getElem_mem c)
      have hw := wN_eq ks[i]
      rw [if_pos (by omega), getI_n (List.getElem?_eq_getElem c), bS_s, bS_s, ih _ _ _ _ (by omega) (by omega), bS_s, if_pos rfl, wr1 (by omega) (by omega)]; rfl
/-- a mark's text -/
theorem ba1 (x : UInt8) : (⟨#[x]⟩ : ByteArray).size = 1 := rfl
theorem ba0 : (⟨#[]⟩ : ByteArray).size = 0 := rfl
theorem gset {τ : Type} {l : List τ} {i : Nat} {x : τ} (h : i < l.length) : (l.set i x)[i]? = some x := by simp [h]
theorem L31_tot (n : Nat) : ∀ (m : Nat) (t : Int) (acc : ByteArray), m < n → 0 ≤ t → t < 2 ^ m → t < 4611686018427387904 → acc.size + m ≤ 1048576 → ∃ r, L31_0 n t acc = some r ∧ r.size ≤ 1048576 := by
  induction n with
  | zero => intro m t acc hm; omega
  | succ n ih =>
    intro m t acc hm h0 ht h2 hs
    simp only [L31_0]
    by_cases c : 0 < t
    · rw [if_pos c]
      cases m with
      | zero => simp at ht; omega
      | succ m =>
        have hd : Int.tdiv t 10 = t / 10 := Int.tdiv_eq_ediv_of_nonneg h0
        rw [if_pos (by rw [ba1]; omega), hd, wrap64_id _ (by omega) (by omega)]
        refine ih m _ _ (by omega) (by omega) ?_ (by omega) ?_
        · have : (2 : Int) ^ (m + 1) = 2 ^ m * 2 := Int.pow_succ 2 m
          omega
        · rw [ByteArray.size_append]
          have : (⟨#[UInt8.ofNat (IntKind.u8.wrap (IntKind.i64.wrap (48 + Int.tmod t 10))).toNat]⟩ : ByteArray).size = 1 := rfl
          omega
    · rw [if_neg c]; exact ⟨acc, rfl, by omega⟩
theorem F31_tot (k : Int) (hk : k < 4611686018427387904) : ∃ r, F31 k = some r := by
  unfold F31
  by_cases c : k ≤ 0
  · rw [if_pos c]; exact ⟨_, rfl⟩
  · rw [if_neg c]
    obtain ⟨r, e, hr⟩ := L31_tot FU 62 k ⟨#[]⟩ (by unfold FU; omega) (by omega) (by simpa using hk) hk (by rw [ba0]; omega)
    rw [e, bS_s, if_pos (by rw [ba1]; omega)]
    exact ⟨_, rfl⟩
theorem F13_r (xs : List ByteArray) (k : Int) (h : xs.length ≤ 4194303) (hk : 0 ≤ k) (hk2 : k ≤ 2305843009213693952) :
    ∃ ys : List ByteArray, F13 xs k = some (k + xs.length, ys) ∧ ys.length = xs.length ∧ ∀ j, j < xs.length → ys[j]? = F31 (k + j) := by
  obtain ⟨r, e, hr⟩ := inv_loop (fun n (s : List ByteArray × Int) i => L13_0 n s.1 s.2 i) xs.length
    (fun i s => s.1.length = xs.length ∧ s.2 = k + i ∧ ∀ j, j < i → s.1[j]? = F31 (k + j))
    (fun r => r.2 = k + xs.length ∧ r.1.length = xs.length ∧ ∀ j, j < xs.length → r.1[j]? = F31 (k + j)) h
    (by
      rintro n i ⟨l, m⟩ hi c ⟨h1, h2, h3⟩
      simp only at h1 h2 h3
      refine ⟨(l, m), ?_, ?_, h1, ?_⟩
      · simp only [L13_0]; rw [if_neg (by omega)]
      · simp only; omega
      · intro j hj; exact h3 j (by omega))
    (by
      rintro n i ⟨l, m⟩ c ⟨h1, h2, h3⟩
      simp only at h1 h2 h3
      obtain ⟨x, hx⟩ := lt_get (xs := l) (i := i) (by omega)
      obtain ⟨r, hr⟩ := F31_tot m (by omega)
      refine .inl ⟨(l.set i r, m + 1), ?_, by simp [h1], by simp only; omega, ?_⟩
      · simp only [L13_0]
        rw [if_pos (by omega), hr, bS_s, getI_n hx, bS_s, wr1 (by omega) (by omega), wr1 (by omega) (by omega), Int.toNat_natCast]; rfl
      · intro j hj
        simp only
        rw [List.getElem?_set]
        by_cases e : i = j
        · subst e; rw [if_pos rfl, if_pos (by omega), ← h2, hr]
        · rw [if_neg e]; exact h3 j (by omega)) (xs, k) ⟨rfl, by simp, by intro j hj; omega⟩
  obtain ⟨l, m⟩ := r
  obtain ⟨h1, h2, h3⟩ := hr
  simp only at h1 h2 h3 e
  refine ⟨l, ?_, h2, h3⟩
  unfold F13
  rw [e]; simp [h1]
theorem F14_r (ys : List ByteArray) (k : Int) (h : ys.length ≤ 4194303) (hk : 0 ≤ k) (hk2 : k ≤ 2305843009213693952) (hy : ∀ j, j < ys.length → ys[j]? = F31 (k + j)) :
    F14 ys k = some (k + ys.length) := by
  obtain ⟨r, e, hr⟩ := inv_loop (fun n (s : Int) i => L14_0 n ys s i) ys.length (fun i s => s = k + i) (fun r => r = .inr (k + ys.length)) h
    (by
      rintro n i s hi c h1
      refine ⟨.inr s, ?_, ?_⟩
      · simp only [L14_0]; rw [if_neg (by omega)]
      · rw [h1]; simp; omega)
    (by
      rintro n i s c h1
      refine .inl ⟨s + 1, ?_, by omega⟩
      obtain ⟨r, hr⟩ := F31_tot s (by omega)
      have h3 := hy i c
      rw [← h1, hr] at h3
      simp only [L14_0]
      rw [if_pos (by omega), getI_n h3, bS_s, hr, bS_s, if_pos rfl, wr1 (by omega) (by omega), wr1 (by omega) (by omega)]; rfl) k (by simp)
  subst hr
  unfold F14
  rw [e]; simp
theorem F10_eq (xs : List ByteArray) (h : xs.length ≤ 4194303) : F10 xs xs = some true := by
  unfold F10
  rw [if_pos rfl, walk_loop (L10_0 · xs xs ·) xs.length (.inr ()) h]
  · rfl
  · intro n i c; simp only [L10_0]; rw [if_neg (by omega)]
  · intro n i c; simp only [L10_0]
    rw [if_pos (by omega), getI_n (List.getElem?_eq_getElem c), bS_s, bS_s, if_pos rfl, wr1 (by omega) (by omega)]; rfl
theorem F20n_r : ∀ (n : Nat) (ks : List T_Node) (k : Int), sN ks < n → sN ks ≤ 1048576 → 0 ≤ k → k + 3 * sN ks ≤ 4503599627370496 → ∃ (m : Int) (ys : List T_Node), F20n n ks k = some (m, ys) ∧ ys.length = ks.length ∧ k ≤ m ∧ m ≤ k + 3 * sN ks := by
  intro n
  induction n with
  | zero => intro ks k h; omega
  | succ n ih =>
    intro ks k h h1 hk hk2
    have hl := sN_len ks
    show ∃ m ys, S20 (F20n n) ks k = some (m, ys) ∧ _
    obtain ⟨r, e, hr⟩ := inv_loop (fun n' (s : List T_Node × Int) i => L20_0 (F20n n) n' s.1 s.2 i) ks.length
      (fun i s => s.1.length = ks.length ∧ (∀ j, i ≤ j → s.1[j]? = ks[j]?) ∧ k ≤ s.2 ∧ s.2 ≤ k + 3 * sN (ks.take i)) (fun r => r.1.length = ks.length ∧ k ≤ r.2 ∧ r.2 ≤ k + 3 * sN ks) (by omega)
      (by
        rintro n' i ⟨l, m⟩ hi c ⟨h2, h3, h4, h5⟩
        simp only at h2 h3 h4 h5
        refine ⟨(l, m), ?_, h2, h4, ?_⟩
        · simp only [L20_0]; rw [if_neg (by omega)]
        · rw [List.take_of_length_le (by omega)] at h5; exact h5)
      (by
        rintro n' i ⟨l, m⟩ c ⟨h2, h3, h4, h5⟩
        simp only at h2 h3 h4 h5
        have hx : l[i]? = some ks[i] := by rw [h3 i (by omega), List.getElem?_eq_getElem c]
        generalize hxk : ks[i] = x at hx
        have hmx := sN_mem (List.getElem_mem c)
        rw [hxk] at hmx
        have hw := wN_eq x
        have ht := sN_take_le ks (i + 1)
        rw [sN_take c, hxk] at ht
        obtain ⟨r, hr⟩ := F31_tot (m + 1) (by omega)
        have w1 := wr1 (i := m) (by omega) (by omega)
        have w2 := wr1 (i := m + 1) (by omega) (by omega)
        have w3 := wr1 (i := m + 1 + 1) (by omega) (by omega)
        obtain ⟨m', ys, hy, hyl, hm1, hm2⟩ := ih x.kids_ (m + 1 + 1 + 1) (by omega) (by omega) (by omega) (by omega)
        refine .inl ⟨((((l.set i ⟨m, x.s_, x.n_, x.kids_⟩).set i ⟨m, r, x.n_, x.kids_⟩).set i ⟨m, r, m + 1 + 1, x.kids_⟩).set i ⟨m, r, m + 1 + 1, ys⟩, m'), ?_, ?_, ?_, by simp only; omega, ?_⟩
        · simp only [L20_0, Int.toNat_natCast]
          rw [if_pos (by omega), getI_n hx, bS_s, w1, hr, bS_s, getI_n (gset (by (try simp only [List.length_set]); omega)), bS_s, getI_n (gset (by (try simp only [List.length_set]); omega)), bS_s, w2, getI_n (gset (by (try simp only [List.length_set]); omega)), bS_s, w3, hy, bS_s]
          simp only
          rw [if_pos hyl, wr1 (i := i) (by omega) (by omega)]; rfl
        · simp [h2]
        · intro j hj
          simp only
          rw [List.getElem?_set_ne (by omega), List.getElem?_set_ne (by omega), List.getElem?_set_ne (by omega), List.getElem?_set_ne (by omega)]
          exact h3 j (by omega)
        · simp only
          rw [sN_take c, hxk]; omega) (ks, k) ⟨rfl, fun _ _ => rfl, by simp, by simp [sN]⟩
    obtain ⟨l, m⟩ := r
    obtain ⟨h2, h3, h4⟩ := hr
    simp only at h2 h3 h4 e
    refine ⟨m, l, ?_, h2, h3, h4⟩
    unfold S20
    rw [e]; simp
end Go.Pv

namespace Go.Pv
set_option maxRecDepth 100000
set_option maxHeartbeats 4000000
set_option linter.unusedSimpArgs false
set_option linter.unusedVariables false
/-! words with a blank between -/
theorem blen (s : ByteArray) : s.data.toList.length = s.size := by rw [Array.length_toList]; rfl
theorem getB_n (s : ByteArray) (i : Nat) : getB s (i : Int) = s.data.toList[i]? := by
  unfold getB
  rw [if_pos (by omega), Int.toNat_natCast]
  by_cases h : i < s.size
  · rw [getElem?_pos s i h]
    have : i < s.data.toList.length := by rw [blen]; exact h
    rw [List.getElem?_eq_getElem this]; rfl
  · rw [getElem?_neg s i h, List.getElem?_eq_none (by rw [blen]; omega)]
theorem ext_get (s : ByteArray) (a k : Nat) : (s.extract a s.size).data.toList[k]? = s.data.toList[a + k]? := by
  rw [ByteArray.data_extract, Array.toList_extract]
  simp only [List.extract_eq_take_drop, List.getElem?_take, List.getElem?_drop]
  split
  · rfl
  · rename_i h
    rw [List.getElem?_eq_none]
    rw [blen]
    have : s.size = s.data.size := rfl
    omega
def blank : ByteArray := ⟨#[32]⟩
theorem no_blank {s : ByteArray} {a : Nat} (h : ∀ k, a ≤ k → s.data.toList[k]? ≠ some 32) : Lib.indexB (s.extract a s.size) blank = -1 := by
  have e : Lib.indexB (s.extract a s.size) blank = Lib.indexByte (s.extract a s.size).data.toList 32 := Lib.index_one _ _
  rw [e]
  rcases Lib.indexB_cases (s.extract a s.size) blank with h1 | ⟨i, h1, _⟩
  · rw [e] at h1; exact h1
  · rw [e] at h1
    have := (Lib.indexByte_some h1).1
    rw [ext_get] at this
    exact absurd this (h _ (by omega))
theorem at_blank {s : ByteArray} {a p : Nat} (hp : a ≤ p) (h : ∀ k, a ≤ k → k < p → s.data.toList[k]? ≠ some 32) (h2 : s.data.toList[p]? = some 32) : Lib.indexB (s.extract a s.size) blank = ((p - a : Nat) : Int) := by
  have e : Lib.indexB (s.extract a s.size) blank = Lib.indexByte (s.extract a s.size).data.toList 32 := Lib.index_one _ _
  rw [e]
  rcases Lib.indexB_cases (s.extract a s.size) blank with h1 | ⟨i, h1, _⟩
  · rw [e] at h1
    have := Lib.indexByte_none h1 (p - a)
    rw [ext_get, show a + (p - a) = p by omega] at this
    exact absurd h2 this
  · rw [e] at h1
    obtain ⟨h3, h4⟩ := Lib.indexByte_some h1
    rw [ext_get] at h3
    rw [h1]
    by_cases c : i < p - a
    · exact absurd h3 (h _ (by omega) (by omega))
    · by_cases c2 : p - a < i
      · have := h4 (p - a) c2
        rw [ext_get, show a + (p - a) = p by omega] at this
        exact absurd h2 this
      · rw [show i = p - a by omega]
theorem ext_ext (s : ByteArray) (a b : Nat) (h : a ≤ b) : (s.extract a s.size).extract (b - a) (s.extract a s.size).size = s.extract b s.size := by
  apply ByteArray.ext
  apply Array.toList_inj.1
  apply List.ext_getElem?
  intro k
  rw [ext_get, ext_get, ext_get]
  congr 1; omega
theorem ext_pre (s : ByteArray) (a b : Nat) (h : a ≤ b) (h2 : b ≤ s.size) : (s.extract a s.size).extract 0 (b - a + 0) = s.extract a b := by
  apply ByteArray.ext
  simp only [ByteArray.data_extract, Array.extract_extract]
  congr 1
  · omega
theorem splitL_at (s : ByteArray) (a : Nat) (h : ∀ k, a ≤ k → s.data.toList[k]? ≠ some 32) : splitL (s.extract a s.size) = [s.extract a s.size] := Lib.splitB_miss _ _ _ _ (no_blank h)
theorem splitL_hit (s : ByteArray) (a p : Nat) (hp : a ≤ p) (h : ∀ k, a ≤ k → k < p → s.data.toList[k]? ≠ some 32) (h2 : s.data.toList[p]? = some 32) :
    splitL (s.extract a s.size) = s.extract a p :: splitL (s.extract (p + 1) s.size) := by
  have hi := at_blank hp h h2
  have hps : p < s.size := by have := (List.getElem?_eq_some_iff.1 h2).1; rw [blen] at this; exact this
  have hc := Lib.countB_hit (s.extract a s.size) blank (p - a) (by decide) hi
  have hx : (s.extract a s.size).extract (p - a + blank.size) (s.extract a s.size).size = s.extract (p + 1) s.size := by
    have := ext_ext s a (p + 1) (by omega)
    rw [show p + 1 - a = p - a + blank.size by show p + 1 - a = p - a + 1; omega] at this
    exact this
  rw [hx] at hc
  unfold splitL
  change Lib.splitB blank 0 (Lib.countB (s.extract a s.size) blank) (s.extract a s.size) = _
  rw [hc, Nat.add_comm 1, Lib.splitB_hit blank 0 _ _ _ hi, hx, ext_pre s a p hp (by omega)]
  rfl
theorem words_loop (s : ByteArray) (hs : s.size ≤ 1048576) (hne : s ≠ ⟨#[]⟩) : ∀ (m n i a : Nat) (acc : List ByteArray), i + m = s.size + 1 → m < n → a ≤ i → i ≤ s.size → acc.length ≤ a → (∀ k, a ≤ k → k < i → s.data.toList[k]? ≠ some 32) →
    L42_0 n s acc a i = some (acc ++ splitL (s.extract a s.size)) := by
  intro m
  induction m with
  | zero => intro n i a acc h1 h2 h3 h4; omega
  | succ m ih =>
    intro n i a acc h1 h2 h3 h4 h5 h6
    obtain ⟨n, rfl⟩ : ∃ n', n = n' + 1 := ⟨n - 1, by omega⟩
    simp only [L42_0]
    rw [if_pos (by omega), if_neg hne]
    by_cases c : (i : Int) = s.size
    · rw [if_pos c, if_pos (by omega), if_pos (by omega), if_pos ⟨by omega, by omega⟩, if_pos (lim_le (by simp only [maxB]; omega)), wr1 (by omega) (by omega)]
      have he : ∀ k, a ≤ k → s.data.toList[k]? ≠ some 32 := by
        intro k hk
        by_cases hki : k < i
        · exact h6 k hk hki
        · rw [List.getElem?_eq_none (by rw [blen]; omega)]; simp
      rw [splitL_at s a he]
      obtain ⟨n, rfl⟩ : ∃ n', n = n' + 1 := ⟨n - 1, by omega⟩
      simp only [L42_0]
      rw [if_neg (by omega)]
      have : i = s.size := by omega
      simp [this]
    · rw [if_neg c]
      have hlt : i < s.data.toList.length := by rw [blen]; omega
      rw [getB_n, List.getElem?_eq_getElem hlt, bS_s]
      generalize hb : s.data.toList[i] = b
      have hbi : s.data.toList[i]? = some b := by rw [List.getElem?_eq_getElem hlt, hb]
      by_cases d : ((b.toNat : Nat) : Int) = 32
      · rw [if_pos d, if_pos (by omega), if_pos (by omega), if_pos ⟨by omega, by omega⟩, if_pos (lim_le (by simp only [maxB]; omega)), wr1 (by omega) (by omega)]
        have hb32 : b = 32 := by
          apply UInt8.toNat_inj.1
          show b.toNat = 32
          omega
        subst hb32
        have := ih n (i + 1) (i + 1) (acc ++ [s.extract a i]) (by omega) (by omega) (by omega) (by omega) (by simp; omega) (by intro k hk1 hk2; omega)
        rw [splitL_hit s a i h3 h6 hbi]
        simp only [Int.toNat_natCast]
        rw [show ((i : Int) + 1) = ((i + 1 : Nat) : Int) by omega, this]
        simp
      · rw [if_neg d, wr1 (by omega) (by omega)]
        have := ih n (i + 1) a acc (by omega) (by omega) (by omega) (by omega) h5 (by
          intro k hk1 hk2
          by_cases e : k = i
          · subst e; rw [hbi]; intro e2; injection e2 with e2; subst e2; exact d (by decide)
          · exact h6 k hk1 (by omega))
        rw [show ((i : Int) + 1) = ((i + 1 : Nat) : Int) by omega, this]
def wordsL (s : ByteArray) : List ByteArray := if s = ⟨#[]⟩ then [] else splitL s
theorem F42_r (s : ByteArray) (hs : s.size ≤ 1048576) : F42 s = some (wordsL s) := by
  unfold F42 wordsL
  by_cases c : s = ⟨#[]⟩
  · rw [if_pos c]
    subst c
    have h0 : ∀ n, L42_0 (n + 1) ⟨#[]⟩ [] 0 0 = some [] := by
      intro n
      simp only [L42_0]
      rw [if_pos (by decide)]; simp only [if_true]
    have : L42_0 FU ⟨#[]⟩ [] 0 0 = some [] := h0 4194303
    rw [this]; rfl
  · rw [if_neg c]
    have := words_loop s hs c (s.size + 1) FU 0 0 [] (by omega) (by unfold FU; omega) (by omega) (by omega) (by simp) (by intro k h1 h2; omega)
    have he : s.extract 0 s.size = s := by simp
    rw [he] at this
    rw [show ((0 : Nat) : Int) = 0 from rfl] at this
    rw [this]; simp
theorem splitL_len (s : ByteArray) : (splitL s).length ≤ s.size + 1 := by
  have := Lib.splitB_length_le blank 0 (Lib.countB s blank) s
  have h2 := Lib.countB_le blank (by decide) s.size s (Nat.le_refl _)
  unfold splitL
  change (Lib.splitB blank 0 (Lib.countB s blank) s).length ≤ _
  omega
theorem wordsL_len (s : ByteArray) : (wordsL s).length ≤ s.size + 1 := by
  unfold wordsL
  split
  · simp
  · exact splitL_len s
theorem F28_r (a b : Int) (s : ByteArray) (ks : List T_Node) (hs : s.size ≤ 1048576) : F28 a s b ks = some (wordsL s) := by
  unfold F28 wordsL
  split
  · rfl
  · unfold F45
    rw [if_pos ⟨rfl, by omega⟩]; rfl
end Go.Pv

namespace Go.Pv
set_option maxRecDepth 100000
set_option maxHeartbeats 4000000
set_option linter.unusedSimpArgs false
set_option linter.unusedVariables false
/-! names -/
def let1 (op : Int) (s : ByteArray) : List ByteArray := if op = 2 then [s] else []
mutual
def letsN : T_Node → List ByteArray
  | ⟨op, s, _, ks⟩ => let1 op s ++ letsL ks
def letsL : List T_Node → List ByteArray
  | [] => []
  | x :: l => (if x.op_ = 27 then [] else letsN x) ++ letsL l
end
theorem letsN_eq (x : T_Node) : letsN x = let1 x.op_ x.s_ ++ letsL x.kids_ := by cases x; simp [letsN]
theorem letsL_app (a b : List T_Node) : letsL (a ++ b) = letsL a ++ letsL b := by
  induction a with
  | nil => simp [letsL]
  | cons x l ih => simp [letsL, ih]
theorem letsL_take {l : List T_Node} {i : Nat} (h : i < l.length) : letsL (l.take (i + 1)) = letsL (l.take i) ++ (if l[i].op_ = 27 then [] else letsN l[i]) := by
  rw [List.take_add_one, List.getElem?_eq_getElem h, letsL_app]; simp [letsL]
theorem let1_len (op : Int) (s : ByteArray) : (let1 op s).length ≤ 1 := by unfold let1; split <;> simp
mutual
theorem letsN_len : ∀ x : T_Node, (letsN x).length ≤ 1 + wN x
  | ⟨op, s, n, ks⟩ => by
    have h1 := letsL_len ks
    have h2 := let1_len op s
    simp only [letsN, wN, List.length_append]; omega
theorem letsL_len : ∀ l : List T_Node, (letsL l).length ≤ sN l
  | [] => by simp [letsL, sN]
  | x :: l => by
    have h1 := letsN_len x
    have h2 := letsL_len l
    simp only [letsL, sN, List.length_append]
    split
    · simp; omega
    · omega
end
theorem F43n_r : ∀ (n : Nat) (op : Int) (s : ByteArray) (k : Int) (ks : List T_Node), sN ks < n → sN ks ≤ 1048576 → F43n n op s k ks = some (let1 op s ++ letsL ks) := by
  intro n
  induction n with
  | zero => intro op s k ks h; omega
  | succ n ih =>
    intro op s k ks h h1
    have hl := sN_len ks
    have key : ∀ pre : List ByteArray, pre.length ≤ 1 → L43_0 (F43n n) FU pre 0 op s k ks = some (pre ++ letsL ks) := by
      intro pre hp
      obtain ⟨r, e, hr⟩ := inv_loop (fun n' (q : List ByteArray) i => L43_0 (F43n n) n' q i op s k ks) ks.length (fun i q => q = pre ++ letsL (ks.take i)) (fun r => r = pre ++ letsL ks) (by omega)
        (by
          intro n' i q hi c h2
          refine ⟨q, ?_, ?_⟩
          · simp only [L43_0]; rw [if_neg (by omega)]
          · rw [h2, List.take_of_length_le (by omega)])
        (by
          intro n' i q c h2
          have hm := sN_mem (List.getElem_mem c)
          have hw := wN_eq ks[i]
          have ht := sN_take_le ks (i + 1)
          rw [sN_take c] at ht
          have hll := letsL_len (ks.take i)
          by_cases d : ks[i].op_ = 27
          · refine .inl ⟨q, ?_, ?_⟩
            · simp only [L43_0]
              rw [if_pos (by omega), getI_n (List.getElem?_eq_getElem c), bS_s, if_pos d, wr1 (by omega) (by omega)]; rfl
            · rw [letsL_take c, if_pos d, h2]; simp
          · refine .inl ⟨q ++ letsN ks[i], ?_, ?_⟩
            · have hn := letsN_len ks[i]
              have hq : q.length ≤ 1 + sN (ks.take i) := by rw [h2]; simp; omega
              simp only [L43_0]
              rw [if_pos (by omega), getI_n (List.getElem?_eq_getElem c), bS_s, if_neg d]
              first | rw [bS_s] | skip
              rw [ih _ _ _ _ (by omega) (by omega), ← letsN_eq, bS_s, if_pos (lim_le (by simp only [maxB]; omega)), wr1 (by omega) (by omega)]; rfl
            · rw [letsL_take c, if_neg d, h2, List.append_assoc]) pre (by simp [letsL])
      subst hr; exact e
    show S43 (F43n n) op s k ks = _
    unfold S43 let1
    by_cases c : op = 2
    · rw [if_pos c, if_pos c, key [s] (by simp)]; rfl
    · rw [if_neg c, if_neg c, key [] (by simp)]; rfl
def allN (op : Int) (s : ByteArray) (ks : List T_Node) : List ByteArray := (if op = 27 then wordsL s else []) ++ (let1 op s ++ letsL ks)
theorem F23_r (op : Int) (s : ByteArray) (k : Int) (ks : List T_Node) (h : sN ks ≤ 1048576) (hs : s.size ≤ 1048576) : F23 op s k ks = some (allN op s ks) := by
  have h1 := letsL_len ks
  have h2 := let1_len op s
  have h3 := wordsL_len s
  have e : F43 op s k ks = some (let1 op s ++ letsL ks) := F43n_r FU op s k ks (by unfold FU; omega) h
  unfold F23 allN
  by_cases c : op = 27
  · rw [if_pos c, if_pos c, F42_r s hs, bS_s, e, bS_s, if_pos (lim_le (by simp only [maxB, List.length_append]; omega))]
  · rw [if_neg c, if_neg c, e, bS_s, if_pos (lim_le (by simp only [maxB, List.length_append]; omega))]; rfl
noncomputable instance memDec (x : ByteArray) (l : List ByteArray) : Decidable (x ∈ l) := Classical.propDecidable _
/-- each once -/
noncomputable def dd : List ByteArray → List ByteArray → List ByteArray
  | acc, [] => acc
  | acc, x :: l => if x ∈ acc then dd acc l else dd (acc ++ [x]) l
theorem dd_app : ∀ (a b acc : List ByteArray), dd acc (a ++ b) = dd (dd acc a) b
  | [], b, acc => rfl
  | x :: a, b, acc => by
    simp only [List.cons_append, dd]
    split
    · exact dd_app a b acc
    · exact dd_app a b _
theorem dd_len : ∀ (l acc : List ByteArray), (dd acc l).length ≤ acc.length + l.length
  | [], acc => by simp [dd]
  | x :: l, acc => by
    simp only [dd]
    split
    · have := dd_len l acc; simp; omega
    · have := dd_len l (acc ++ [x]); simp at this ⊢; omega
theorem dd_take {l acc : List ByteArray} {i : Nat} (h : i < l.length) : dd acc (l.take (i + 1)) = dd (dd acc (l.take i)) [l[i]] := by
  rw [List.take_add_one, List.getElem?_eq_getElem h, dd_app]; rfl
theorem F24_r (l : List ByteArray) (s : ByteArray) (h : l.length ≤ 4194303) : F24 l s = some (decide (s ∈ l)) := by
  obtain ⟨r, e, hr⟩ := inv_loop (fun n (_ : Unit) i => L24_0 n l s i) l.length (fun i _ => ∀ j x, j < i → l[j]? = some x → x ≠ s) (fun r => (r = .inl true ∧ s ∈ l) ∨ (r = .inr () ∧ s ∉ l)) h
    (by
      intro n i q hi c h2
      refine ⟨.inr (), ?_, .inr ⟨rfl, ?_⟩⟩
      · simp only [L24_0]; rw [if_neg (by omega)]
      · intro hm
        obtain ⟨j, hj⟩ := List.mem_iff_getElem?.1 hm
        exact h2 j s (by have := (List.getElem?_eq_some_iff.1 hj).1; omega) hj rfl)
    (by
      intro n i q c h2
      by_cases d : l[i] = s
      · refine .inr ⟨_, ?_, .inl ⟨rfl, d ▸ List.getElem_mem c⟩⟩
        simp only [L24_0]
        rw [if_pos (by omega), getI_n (List.getElem?_eq_getElem c), bS_s, if_pos d]
      · refine .inl ⟨(), ?_, ?_⟩
        · simp only [L24_0]
          rw [if_pos (by omega), getI_n (List.getElem?_eq_getElem c), bS_s, if_neg d, wr1 (by omega) (by omega)]; rfl
        · intro j x hj hx
          by_cases e : j = i
          · subst e; rw [List.getElem?_eq_getElem c] at hx; cases hx; exact d
          · exact h2 j x (by omega) hx) () (by intro j x hj; omega)
  unfold F24
  rw [e]
  rcases hr with ⟨rfl, hm⟩ | ⟨rfl, hm⟩
  · simp [hm]
  · simp [hm]
theorem F27_r (l : List ByteArray) (s : ByteArray) (h : l.length ≤ 4194303) : F27 l s = some (decide (s ∈ l)) := by
  obtain ⟨r, e, hr⟩ := inv_loop (fun n (_ : Unit) i => L44_0 n l s l.length i) l.length (fun i _ => ∀ j x, j < i → l[j]? = some x → x ≠ s) (fun r => (∃ k : Int, 0 ≤ k ∧ r = .inl k ∧ s ∈ l) ∨ (r = .inr () ∧ s ∉ l)) h
    (by
      intro n i q hi c h2
      refine ⟨.inr (), ?_, .inr ⟨rfl, ?_⟩⟩
      · simp only [L44_0]; rw [if_neg (by omega)]
      · intro hm
        obtain ⟨j, hj⟩ := List.mem_iff_getElem?.1 hm
        exact h2 j s (by have := (List.getElem?_eq_some_iff.1 hj).1; omega) hj rfl)
    (by
      intro n i q c h2
      by_cases d : s = l[i]
      · refine .inr ⟨_, ?_, .inl ⟨i, by omega, rfl, d ▸ List.getElem_mem c⟩⟩
        simp only [L44_0]
        rw [if_pos (by omega), getI_n (List.getElem?_eq_getElem c), bS_s, if_pos d]
      · refine .inl ⟨(), ?_, ?_⟩
        · simp only [L44_0]
          rw [if_pos (by omega), getI_n (List.getElem?_eq_getElem c), bS_s, if_neg d, wr1 (by omega) (by omega)]; rfl
        · intro j x hj hx
          by_cases e : j = i
          · subst e; rw [List.getElem?_eq_getElem c] at hx; cases hx; exact fun e => d e.symm
          · exact h2 j x (by omega) hx) () (by intro j x hj; omega)
  unfold F27 F44
  rw [e]
  rcases hr with ⟨k, hk, rfl, hm⟩ | ⟨rfl, hm⟩
  · simp [hm, hk]
  · simp [hm]
theorem F7_r (op : Int) (s : ByteArray) (k : Int) (ks : List T_Node) (h : sN ks ≤ 1048576) (hs : s.size ≤ 1048576) : F7 op s k ks = some (dd [] (allN op s ks)) := by
  have hal : (allN op s ks).length ≤ 2097154 := by
    have h1 := letsL_len ks
    have h2 := let1_len op s
    have h3 := wordsL_len s
    unfold allN; rw [List.length_append, List.length_append]
    split
    · omega
    · simp; omega
  unfold F7
  rw [F23_r op s k ks h hs, bS_s]
  generalize allN op s ks = al at hal
  obtain ⟨r, e, hr⟩ := inv_loop (fun n (q : List ByteArray) i => L7_0 n q al i) al.length (fun i q => q = dd [] (al.take i)) (fun r => r = dd [] al) (by omega)
    (by
      intro n i q hi c h2
      refine ⟨q, ?_, ?_⟩
      · simp only [L7_0]; rw [if_neg (by omega)]
      · rw [h2, List.take_of_length_le (by omega)])
    (by
      intro n i q c h2
      have hq : q.length ≤ i := by
        have := dd_len (al.take i) []
        rw [← h2] at this; simp at this; omega
      by_cases d : al[i] ∈ q
      · refine .inl ⟨q, ?_, ?_⟩
        · simp only [L7_0]
          rw [if_pos (by omega), getI_n (List.getElem?_eq_getElem c), bS_s, F24_r _ _ (by omega), bS_s, if_pos (by simp [d]), wr1 (by omega) (by omega)]; rfl
        · rw [dd_take c, ← h2]; simp [dd, d]
      · refine .inl ⟨q ++ [al[i]], ?_, ?_⟩
        · simp only [L7_0]
          rw [if_pos (by omega), getI_n (List.getElem?_eq_getElem c), bS_s, F24_r _ _ (by omega), bS_s, if_neg (by simp [d])]
          first | rw [bS_s] | skip
          rw [if_pos (lim_le (by simp only [maxB]; omega)), wr1 (by omega) (by omega)]; rfl
        · rw [dd_take c, ← h2]; simp [dd, d]) [] (by simp [dd])
  subst hr; rw [e]; rfl
theorem F26_r (s : ByteArray) (out : List ByteArray) (h : out.length ≤ 4194303) : F26 s out = some (dd out [s]) := by
  unfold F26
  rw [F27_r _ _ h, bS_s]
  by_cases d : s ∈ out
  · rw [if_pos (by simp [d])]; simp [dd, d]
  · rw [if_neg (by simp [d]), if_pos (lim_le (by simp only [maxB]; omega))]; simp [dd, d]
theorem F30_r (op : Int) (s : ByteArray) (k : Int) (ks : List T_Node) (out : List ByteArray) (h : out.length ≤ 4194303) : F30 op s k ks out = some (dd out (let1 op s)) := by
  unfold F30 let1
  split
  · rw [F26_r _ _ h]; rfl
  · rfl
theorem F29n_r : ∀ (n : Nat) (op : Int) (s : ByteArray) (k : Int) (ks : List T_Node) (out : List ByteArray), sN ks < n → sN ks ≤ 1048576 → out.length + sN ks ≤ 4194000 → F29n n op s k ks out = some (dd out (letsL ks)) := by
  intro n
  induction n with
  | zero => intro op s k ks out h; omega
  | succ n ih =>
    intro op s k ks out h h1 h2
    have hl := sN_len ks
    show S29 (F29n n) op s k ks out = _
    unfold S29
    obtain ⟨r, e, hr⟩ := inv_loop (fun n' (q : List ByteArray) i => L29_0 (F29n n) n' ks ks.length i q) ks.length (fun i q => q = dd out (letsL (ks.take i))) (fun r => r = dd out (letsL ks)) (by omega)
      (by
        intro n' i q hi c h3
        refine ⟨q, ?_, ?_⟩
        · simp only [L29_0]; rw [if_neg (by omega)]
        · rw [h3, List.take_of_length_le (by omega)])
      (by
        intro n' i q c h3
        have hm := sN_mem (List.getElem_mem c)
        have hw := wN_eq ks[i]
        have ht := sN_take_le ks (i + 1)
        rw [sN_take c] at ht
        have hll := letsL_len (ks.take i)
        have hq : q.length ≤ out.length + sN (ks.take i) := by
          have := dd_len (letsL (ks.take i)) out
          rw [← h3] at this; omega
        have h1l := let1_len ks[i].op_ ks[i].s_
        have hq2 := dd_len (let1 ks[i].op_ ks[i].s_) q
        by_cases d : ks[i].op_ = 27
        · refine .inl ⟨dd q (let1 ks[i].op_ ks[i].s_), ?_, ?_⟩
          · simp only [L29_0]
            rw [if_pos (by omega), getI_n (List.getElem?_eq_getElem c), bS_s, F30_r _ _ _ _ _ (by omega), bS_s, if_pos d, wr1 (by omega) (by omega)]; rfl
          · rw [letsL_take c, if_pos d, List.append_nil, h3]
            unfold let1; rw [if_neg (by omega)]; rfl
        · refine .inl ⟨dd (dd q (let1 ks[i].op_ ks[i].s_)) (letsL ks[i].kids_), ?_, ?_⟩
          · simp only [L29_0]
            rw [if_pos (by omega), getI_n (List.getElem?_eq_getElem c), bS_s, F30_r _ _ _ _ _ (by omega), bS_s, if_neg d, ih _ _ _ _ _ (by omega) (by omega) (by omega), bS_s, wr1 (by omega) (by omega)]; rfl
          · rw [letsL_take c, if_neg d, letsN_eq, dd_app, ← h3, dd_app]) out (by simp [letsL, dd])
    subst hr; rw [e]; rfl
theorem F9_r (op : Int) (s : ByteArray) (k : Int) (ks : List T_Node) (h : sN ks ≤ 1048576) (hs : s.size ≤ 1048576) : F9 op s k ks = some (dd [] (allN op s ks)) := by
  have hw := wordsL_len s
  have key : ∀ out : List ByteArray, out.length ≤ 1048580 → F29 op s k ks out = some (dd out (letsL ks)) := fun out ho => F29n_r FU op s k ks out (by unfold FU; omega) h (by omega)
  have loop : L9_0 FU (wordsL s) (wordsL s).length 0 op s k ks [] = some (dd [] (wordsL s)) := by
    obtain ⟨r, e, hr⟩ := inv_loop (fun n (q : List ByteArray) i => L9_0 n (wordsL s) (wordsL s).length i op s k ks q) (wordsL s).length (fun i q => q = dd [] ((wordsL s).take i)) (fun r => r = dd [] (wordsL s)) (by omega)
      (by
        intro n i q hi c h2
        refine ⟨q, ?_, ?_⟩
        · simp only [L9_0]; rw [if_neg (by omega)]
        · rw [h2, List.take_of_length_le (by omega)])
      (by
        intro n i q c h2
        have hq : q.length ≤ i := by
          have := dd_len ((wordsL s).take i) []
          rw [← h2] at this; simp at this; omega
        refine .inl ⟨dd q [(wordsL s)[i]], ?_, ?_⟩
        · simp only [L9_0]
          rw [if_pos (by omega), getI_n (List.getElem?_eq_getElem c), bS_s, F26_r _ _ (by omega), bS_s, wr1 (by omega) (by omega)]; rfl
        · rw [dd_take c, ← h2]) [] (by simp [dd])
    subst hr; exact e
  have hdl := dd_len (wordsL s) []
  simp only [List.length_nil] at hdl
  unfold F9 allN let1
  by_cases c : op = 27
  · rw [if_pos c, if_pos c, F28_r _ _ _ _ hs, bS_s, loop, bS_s, if_neg (by omega), if_neg (by omega), key _ (by omega)]
    rw [dd_app]; rfl
  · rw [if_neg c, if_neg c]
    by_cases c2 : op = 2
    · have h4 := dd_len [s] []
      simp only [List.length_nil, List.length_cons] at h4
      rw [if_pos c2, if_pos c2, F26_r _ _ (by simp), bS_s, key _ (by omega), List.nil_append, dd_app]; rfl
    · rw [if_neg c2, if_neg c2, key _ (by simp)]; rfl
theorem F3_all {op : Int} {s : ByteArray} {k : Int} {ks : List T_Node} (hs : s.size ≤ 9223372036854775807) (hl : ks.length ≤ 9223372036854775807) (ho : okL ks) : F3 op s k ks = some true := by
  obtain ⟨r, e, hr⟩ := F6n_r FU op s k ks 1048576 hs hl ho (by omega) (by omega) (by unfold FU; omega)
  unfold F3 F6
  rw [e, bS_s]
  by_cases c : r < 0
  · rw [if_pos c]
  rw [if_neg c]
  obtain ⟨h1, h2⟩ := hr.resolve_left c
  have hw : sN ks ≤ 1048576 := by omega
  have hs2 : s.size ≤ 1048576 := by omega
  have e8 : F8 op s k ks = some (op, s, k, ks) := F8n_r FU op s k ks (by unfold FU; omega) hw
  have e11 : F11 op s k ks op s k ks = some true := F11n_r FU op s k ks (by unfold FU; omega) hw
  obtain ⟨m, ys, e20, hyl, hm1, hm2⟩ := F20n_r FU ks 1 (by unfold FU; omega) hw (by omega) (by omega)
  have e20' : F20 ks 1 = some (m, ys) := e20
  have hal : (dd [] (allN op s ks)).length ≤ 4194303 := by
    have h1 := letsL_len ks
    have h2 := let1_len op s
    have h3 := wordsL_len s
    have h4 := dd_len (allN op s ks) []
    refine Nat.le_trans h4 ?_
    unfold allN; rw [List.length_append, List.length_append]
    split
    · simp; omega
    · simp; omega
  obtain ⟨zs, e13, hzl, hz⟩ := F13_r (dd [] (allN op s ks)) 1 hal (by omega) (by omega)
  simp only [e8, bS_s, F7_r op s k ks hw hs2, F9_r op s k ks hw hs2, F10_eq _ hal, if_true, e11, F12, e20', hyl]
  rw [if_neg (by omega)]
  simp only [e13, bS_s, hzl, if_true, F14_r zs 1 (by omega) (by omega) (by omega) (by intro j hj; exact hz j (by omega))]
  rw [if_neg (by omega)]
end Go.Pv
