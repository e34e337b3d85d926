/- What the laws' helpers on outcomes come to; what Begins comes to, in the reference and in the program. No condition. -/
import Derived.Test.YtpjfnjnidmlhcaaAlikeStr
namespace Go.Proofs.Ytpjfnjnidmlhcaa.XFnExactAlike
open Go.RowKit Go.Proofs.YtpjfnjnidmlhcaaW.PrintWords Go.Proofs.Ytpjfnjnidmlhcaa.Pl
set_option linter.unusedVariables false

theorem toOutcome_ev (c : Int) (l : List ByteArray) (hl : l.length ≤ 1048576) : Ev (fun k => laws_toOutcome.f k c l) (c, l) := by
  unfold laws_toOutcome.f
  exact Ev.bind (toStringS_ev l hl) (Ev.now _)
theorem eqOutcome_ev (c : Int) (l : List ByteArray) (hl : l.length ≤ 1048576) : Ev (fun k => laws_eqOutcome.f k c l c l) true := by
  unfold laws_eqOutcome.f
  simp only [if_true]
  refine Ev.bind (eqStringS_ev l l hl) ?_
  simp only [decide_true, if_true]
  exact Ev.now _
theorem szOutcome_ev (c : Int) (l : List ByteArray) (a : Int) (h0 : 0 ≤ a) (ha : a ≤ 1048576) (hl : l.length ≤ maxLen) (hs : ∀ s ∈ l, s.size ≤ maxLen) :
    ∃ r, Ev (fun k => laws_szOutcome.f k c l a) r ∧ (r = -1 ∨ 0 ≤ r ∧ r + l.length + sizes l = a) := by
  obtain ⟨r, hr, hq⟩ := szStringS_ev l a h0 ha hl hs
  refine ⟨r, ?_, hq⟩
  unfold laws_szOutcome.f
  refine Ev.bind hr ?_
  rcases hq with rfl | ⟨h1, _⟩
  · exact Ev.now _
  · simp only [if_neg (show ¬ r < 0 by omega)]
    exact Ev.now _


def isPre (l l' : List ByteArray) : Bool := decide (l.length ≤ l'.length) && decide (l = l'.take l.length)

theorem now_one {α : Type} {g : Nat → Option α} {r : α} (h : ∀ k, g (k + 1) = some r) : Ev g r := ⟨1, fun k hk => by
  obtain ⟨m, rfl⟩ : ∃ m, k = m + 1 := ⟨k - 1, by omega⟩
  exact h m⟩
theorem now_all {α : Type} {g : Nat → Option α} {r : α} (h : ∀ k, g k = some r) : Ev g r := ⟨0, fun k _ => h k⟩

theorem equal_ev (l l' : List ByteArray) (hm : l.length ≤ 1048576) : Ev (fun k => slices_Equal_string_string.f k l l') (decide (l = l')) := by
  by_cases hl : l.length = l'.length
  · have key := eq_loop l l' hl (by omega) (fun k i => slices_Equal_string_string.l0 k l l' (l.length : Int) i) (by
      intro k
      simp only [slices_Equal_string_string.l0]
      rw [if_neg (by omega)]) (by
      intro i hi e r hr
      refine Ev.step (fun k => ?_) hr
      simp only [slices_Equal_string_string.l0]
      rw [if_pos (by omega), if_pos (by omega), if_pos (by omega), if_pos (by omega), rdOf_nat _ _ _ hi, rdOf_nat _ _ _ (by omega), if_pos (by rw [e]), w64n i (by omega)]) (by
      intro i hi e
      refine now_one (fun k => ?_)
      simp only [slices_Equal_string_string.l0]
      rw [if_pos (by omega), if_pos (by omega), if_pos (by omega), if_pos (by omega), rdOf_nat _ _ _ hi, rdOf_nat _ _ _ (by omega), if_neg (by rw [ba_eq]; exact e)])
    refine Ev.congr (fun k => ?_) key
    unfold slices_Equal_string_string.f
    rw [if_pos (by omega)]
  · refine now_all (fun k => ?_)
    unfold slices_Equal_string_string.f
    rw [if_neg (by omega), decide_eq_false (fun h => hl (by rw [h]))]

theorem pre_cons (l l' : List ByteArray) (i : Nat) (h : i < l.length) (h' : i < l'.length) : isPre (l.drop i) (l'.drop i) = (decide (l[i] = l'[i]) && isPre (l.drop (i + 1)) (l'.drop (i + 1))) := by
  have h1 := List.drop_eq_getElem_cons h
  have h2 := List.drop_eq_getElem_cons h'
  unfold isPre
  rw [h1, h2]
  simp only [List.length_cons, List.take_succ_cons, List.cons.injEq, Nat.add_le_add_iff_right, Bool.decide_and]
  cases decide (l[i] = l'[i]) <;> simp

theorem spec_begins_ev (a b : Int) (l l' : List ByteArray) (hm : l.length ≤ 1048576) (hm' : l'.length ≤ 1048576) : Ev (fun k => spec_Begins.f k a l b l') (isPre l l') := by
  unfold spec_Begins.f
  have key := ev_for (fun k i (_ : Unit) => spec_Begins.l0 k i a l b l') (min l.length l'.length) (fun i _ => isPre (l.drop i) (l'.drop i)) (by
    intro _
    have e : ∀ k, spec_Begins.l0 (k + 1) ((min l.length l'.length : Nat) : Int) a l b l' = spec_Begins.j1 k ((min l.length l'.length : Nat) : Int) false a l b l' := by
      intro k
      simp only [spec_Begins.l0]
      by_cases h : l.length ≤ l'.length
      · rw [if_neg (by omega)]
      · rw [if_pos (by omega), decide_eq_false (by omega)]
    refine Ev.step e (now_one (fun k => ?_))
    simp only [spec_Begins.j1, Bool.false_eq_true, if_false]
    unfold isPre
    by_cases h : l.length ≤ l'.length
    · have h1 : l.drop (min l.length l'.length) = [] := List.drop_eq_nil_of_le (by omega)
      rw [h1, decide_eq_true (by omega : (l.length : Int) ≤ (l'.length : Int))]
      simp
    · rw [decide_eq_false (by omega : ¬ (l.length : Int) ≤ (l'.length : Int)), List.length_drop, List.length_drop, decide_eq_false (by omega), Bool.false_and]) (by
    intro i _ hi ih
    have e : ∀ k, spec_Begins.l0 (k + 1) (i : Int) a l b l' = spec_Begins.j1 k (i : Int) true a l b l' := by
      intro k
      simp only [spec_Begins.l0]
      rw [if_pos (by omega), decide_eq_true (by omega)]
    rw [pre_cons l l' i (by omega) (by omega)]
    refine Ev.step e ?_
    by_cases h : l[i]'(by omega) = l'[i]'(by omega)
    · rw [decide_eq_true h, Bool.true_and]
      refine Ev.step (fun k => ?_) (ih ())
      simp only [spec_Begins.j1, if_true]
      rw [if_pos (by omega), if_pos (by omega), if_pos (by omega), rdOf_nat _ _ _ (by omega), rdOf_nat _ _ _ (by omega), if_pos (by rw [h]), w64n i (by omega)]
    · rw [decide_eq_false h, Bool.false_and]
      refine now_one (fun k => ?_)
      simp only [spec_Begins.j1, if_true]
      rw [if_pos (by omega), if_pos (by omega), if_pos (by omega), rdOf_nat _ _ _ (by omega), rdOf_nat _ _ _ (by omega), if_neg (by rw [ba_eq]; exact h)]) 0 () (Nat.zero_le _)
  simpa using key

theorem alike_ev (a b : Int) (l l' : List ByteArray) (hm : l.length ≤ 1048576) : Ev (fun k => impl_Alike.f k a l b l') (decide (a = b) && decide (l = l')) := by
  unfold impl_Alike.f
  by_cases h : a = b
  · simp only [if_pos h]
    rw [decide_eq_true h, Bool.true_and]
    exact Ev.bind (equal_ev l l' hm) (Ev.now _)
  · simp only [if_neg h]
    rw [decide_eq_false h, Bool.false_and]
    exact Ev.now _
theorem pre_same (l l' : List ByteArray) : (isPre l l' && ((l.length : Int) == (l'.length : Int))) = decide (l = l') := by
  unfold isPre
  by_cases h : l.length = l'.length
  · have h1 : l'.take l.length = l' := by rw [h]; exact List.take_length
    rw [h1, decide_eq_true (by omega : l.length ≤ l'.length), show ((l.length : Int) == (l'.length : Int)) = true from beq_iff_eq.2 (by omega)]
    simp
  · rw [show ((l.length : Int) == (l'.length : Int)) = false from beq_eq_false_iff_ne.2 (by omega), Bool.and_false]
    exact (decide_eq_false (fun e => h (by rw [e]))).symm
theorem spec_alike_ev (a b : Int) (l l' : List ByteArray) (hm : l.length ≤ 1048576) (hm' : l'.length ≤ 1048576) : Ev (fun k => spec_Alike.f k a l b l') (decide (a = b) && decide (l = l')) := by
  unfold spec_Alike.f
  by_cases h : a = b
  · simp only [if_pos h]
    rw [decide_eq_true h, Bool.true_and, ← pre_same]
    refine Ev.bind (spec_begins_ev a b l l' hm hm') ?_
    cases isPre l l'
    · exact Ev.now _
    · exact Ev.now _
  · simp only [if_neg h]
    rw [decide_eq_false h, Bool.false_and]
    exact Ev.now _
theorem law (a b : Int) (l l' : List ByteArray) (hl : l.length ≤ maxLen) (hs : ∀ s ∈ l, s.size ≤ maxLen) (hl' : l'.length ≤ maxLen) (hs' : ∀ s ∈ l', s.size ≤ maxLen) : ∃ k, laws_FnExactAlike.f k a l b l' = some true := by
  refine Ev.rounds ?_
  unfold laws_FnExactAlike.f
  obtain ⟨z, hz, hq⟩ := szOutcome_ev a l 1048576 (by omega) (by omega) hl hs
  refine Ev.bind hz ?_
  rcases hq with rfl | ⟨h1, h2⟩
  · exact Ev.now _
  simp only [if_neg (show ¬ z < 0 by omega)]
  obtain ⟨y, hy, hq'⟩ := szOutcome_ev b l' z (by omega) (by omega) hl' hs'
  refine Ev.bind hy ?_
  rcases hq' with rfl | ⟨h3, h4⟩
  · exact Ev.now _
  simp only [if_neg (show ¬ y < 0 by omega)]
  refine Ev.bind (toOutcome_ev a l (by omega)) (Ev.bind (toOutcome_ev b l' (by omega)) ?_)
  refine Ev.bind (spec_alike_ev a b l l' (by omega) (by omega)) ?_
  refine Ev.bind (toOutcome_ev a l (by omega)) (Ev.bind (toOutcome_ev b l' (by omega)) ?_)
  refine Ev.bind (alike_ev a b l l' (by omega)) ?_
  simp only [bne_self_eq_false, Bool.false_eq_true, if_false]
  refine Ev.bind (toOutcome_ev a l (by omega)) (Ev.bind (eqOutcome_ev a l (by omega)) ?_)
  simp only [if_true]
  refine Ev.bind (toOutcome_ev b l' (by omega)) (Ev.bind (eqOutcome_ev b l' (by omega)) ?_)
  simp only [if_true]
  exact Ev.now _
end Go.Proofs.Ytpjfnjnidmlhcaa.XFnExactAlike
