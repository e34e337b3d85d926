/- The law FnExactFind, of whatever lists of texts and whatever name: the reference's Find and the program's come to the same three. No condition. -/
import Derived.Test.YtpjfnjnidmlhcaaFindStr
namespace Go.Proofs.Ytpjfnjnidmlhcaa.XFnExactFind
open Go.RowKit Go.Proofs.YtpjfnjnidmlhcaaW.PrintWords Go.Proofs.Ytpjfnjnidmlhcaa.Pl
set_option linter.unusedVariables false

theorem now_one {α : Type} {g : Nat → Option α} {r : α} (h : ∀ k, g (k + 1) = some r) : Ev g r := ⟨1, fun k hk => by
  obtain ⟨m, rfl⟩ : ∃ m, k = m + 1 := ⟨k - 1, by omega⟩
  exact h m⟩
theorem now_all {α : Type} {g : Nat → Option α} {r : α} (h : ∀ k, g k = some r) : Ev g r := ⟨0, fun k _ => h k⟩

theorem rd_nat (xs : List (List ByteArray)) (i : Nat) (h : i < xs.length) : rd_L1 xs (i : Int) = xs[i] := getD_nat _ xs i h

theorem szSS_ev (l : List (List ByteArray)) (hl : l.length ≤ maxLen) (hs : ∀ x ∈ l, x.length ≤ maxLen ∧ ∀ s ∈ x, s.size ≤ maxLen) :
    ∃ r, Ev (fun k => laws_szStringSS.f k l 1048576) r ∧ (r = -1 ∨ 0 ≤ r ∧ l.length ≤ 1048576 ∧ ∀ x ∈ l, x.length ≤ 1048576) := by
  have hl0 := hl
  unfold maxLen at hl
  unfold laws_szStringSS.f
  by_cases h1 : 1048576 - (l.length : Int) < 0
  · refine ⟨-1, now_all (fun k => ?_), .inl rfl⟩
    rw [w64 _ (by omega) (by omega), if_pos h1]
  · simp only [w64 (1048576 - l.length) (by omega) (by omega), if_neg h1]
    refine ev_inv (fun k i (s : Int) => laws_szStringSS.l0 k l s i) l.length (fun i s => 0 ≤ s ∧ s ≤ 1048576 ∧ ∀ x ∈ l.take i, x.length ≤ 1048576) (fun r => r = -1 ∨ 0 ≤ r ∧ l.length ≤ 1048576 ∧ ∀ x ∈ l, x.length ≤ 1048576) ?_ ?_ 0 _ (Nat.zero_le _) ⟨by omega, by omega, by simp⟩
    · intro s ⟨q0, q1, q2⟩
      refine ⟨s, now_one (fun k => ?_), .inr ⟨q0, by omega, by rw [List.take_length] at q2; exact q2⟩⟩
      simp only [laws_szStringSS.l0]
      rw [if_neg (by omega)]
    · intro i s hi ⟨q0, q1, q2⟩ ih
      obtain ⟨z, hz, hq⟩ := szStringS_ev l[i] s q0 q1 (hs _ (List.getElem_mem hi)).1 (hs _ (List.getElem_mem hi)).2
      have e : ∀ k, laws_szStringSS.l0 (k + 1) l s (i : Int) = (laws_szStringS.f k l[i] s).bind fun t => if t < 0 then some (-1) else laws_szStringSS.l0 k l t ((i + 1 : Nat) : Int) := by
        intro k
        simp only [laws_szStringSS.l0]
        rw [if_pos (by omega), if_pos (by omega), rd_nat _ _ hi, w64n i (by omega)]
      rcases hq with rfl | ⟨h2, h3⟩
      · exact ⟨-1, Ev.step e (Ev.bind hz (Ev.now _)), .inl rfl⟩
      · obtain ⟨r, hr, hq⟩ := ih z ⟨h2, by omega, by
          rw [List.take_succ_eq_append_getElem hi]
          intro x hx
          rcases List.mem_append.1 hx with hx | hx
          · exact q2 x hx
          · rw [List.mem_singleton.1 hx]; omega⟩
        refine ⟨r, Ev.step e (Ev.bind hz ?_), hq⟩
        simp only [if_neg (show ¬ z < 0 by omega)]
        exact hr

theorem toSS_ev (l : List (List ByteArray)) (hl : l.length ≤ 1048576) (hs : ∀ x ∈ l, x.length ≤ 1048576) : Ev (fun k => laws_toStringSS.f k l) l := by
  have key := copy_loop l (fun x => x) ([] : List ByteArray) (by omega) (fun k ys i => laws_toStringSS.l0 k l ys i) (by
    intro k ys hy
    simp only [laws_toStringSS.l0]
    rw [if_neg (by omega)]) (by
    intro i hi ys hy r hr
    have e : ∀ k, laws_toStringSS.l0 (k + 1) l ys (i : Int) = (laws_toStringS.f k l[i]).bind fun t => laws_toStringSS.l0 k l (ys.set i t) ((i + 1 : Nat) : Int) := by
      intro k
      simp only [laws_toStringSS.l0, if_pos (show (i : Int) < (l.length : Int) by omega), if_pos (show (0 : Int) ≤ (i : Int) by omega), if_pos (show (i : Int) < (ys.length : Int) by omega), rd_nat _ _ hi, w64n i (by omega), Int.toNat_natCast]
    exact Ev.step e (Ev.bind (toStringS_ev _ (hs _ (List.getElem_mem hi))) hr))
  rw [List.map_id'] at key
  refine Ev.congr (fun k => ?_) key
  unfold laws_toStringSS.f
  rw [if_pos (by omega), if_pos (by rw [Int.toNat_natCast]; omega), Int.toNat_natCast]

theorem eqSS_ev (l : List (List ByteArray)) (hm : l.length ≤ 1048576) (hs : ∀ x ∈ l, x.length ≤ 1048576) : Ev (fun k => laws_eqStringSS.f k l l) true := by
  have key := eq_loop l l rfl (by omega) (fun k i => laws_eqStringSS.l0 k l l i) (by
    intro k
    simp only [laws_eqStringSS.l0]
    rw [if_neg (by omega)]) (by
    intro i hi e r hr
    have e : ∀ k, laws_eqStringSS.l0 (k + 1) l l (i : Int) = (laws_eqStringS.f k l[i] l[i]).bind fun t => if t = true then laws_eqStringSS.l0 k l l ((i + 1 : Nat) : Int) else some false := by
      intro k
      simp only [laws_eqStringSS.l0, if_pos (show (i : Int) < (l.length : Int) by omega), if_pos (show (0 : Int) ≤ (i : Int) by omega), rd_nat _ _ hi, w64n i (by omega)]
    refine Ev.step e (Ev.bind (eqStringS_ev _ _ (hs _ (List.getElem_mem hi))) ?_)
    simp only [decide_true, if_true]
    exact hr) (by
    intro i hi e
    exact absurd rfl e)
  rw [decide_eq_true rfl] at key
  refine Ev.congr (fun k => ?_) key
  unfold laws_eqStringSS.f
  rw [if_pos rfl]

def idxFrom (name : ByteArray) : List ByteArray → Nat → Option Nat
  | [], _ => none
  | x :: xs, j => if x = name then some j else idxFrom name xs (j + 1)
def found (name : ByteArray) : List (List ByteArray) → Nat → Int × Int × Bool
  | [], _ => (0, 0, false)
  | x :: r, d => match idxFrom name x 0 with
    | some j => ((d : Int), (j : Int), true)
    | none => found name r (d + 1)

theorem rev_drop (l : List (List ByteArray)) (i : Nat) (h : i < l.length) : l.reverse.drop i = l[l.length - 1 - i]'(by omega) :: l.reverse.drop (i + 1) := by
  have := List.drop_eq_getElem_cons (l := l.reverse) (i := i) (by simpa using h)
  rw [this, List.getElem_reverse]

theorem place (n i : Nat) (hn : n ≤ 1048576) (h : i < n) : wrap64 ((wrap64 ((n : Int) - 1)) - (i : Int)) = ((n - 1 - i : Nat) : Int) := by
  rw [w64 ((n : Int) - 1) (by omega) (by omega), w64 _ (by omega) (by omega)]
  omega

theorem spec_inner (l : List (List ByteArray)) (name : ByteArray) (d : Nat) (x : List ByteArray) (hx : x.length ≤ 1048576) (hd : d < 1048576) (r : Int × Int × Bool) (hr : Ev (fun k => spec_Find.l0 k l name ((d + 1 : Nat) : Int)) r) :
    Ev (fun k => spec_Find.l1 k l name (d : Int) x 0) (match idxFrom name x 0 with | some j => ((d : Int), (j : Int), true) | none => r) := by
  have key := ev_for (fun k i (_ : Unit) => spec_Find.l1 k l name (d : Int) x i) x.length (fun i _ => match idxFrom name (x.drop i) i with | some j => ((d : Int), (j : Int), true) | none => r) (by
    intro _
    rw [List.drop_length]
    refine Ev.step (fun k => ?_) hr
    simp only [spec_Find.l1]
    rw [if_neg (by omega), w64n d (by omega)]) (by
    intro i _ hi ih
    rw [List.drop_eq_getElem_cons hi]
    unfold idxFrom
    by_cases h : x[i] = name
    · rw [if_pos h]
      refine now_one (fun k => ?_)
      simp only [spec_Find.l1]
      rw [if_pos (by omega), if_pos (by omega), rdOf_nat _ _ _ hi, if_pos (by rw [h])]
    · rw [if_neg h]
      refine Ev.step (fun k => ?_) (ih ())
      simp only [spec_Find.l1]
      rw [if_pos (by omega), if_pos (by omega), rdOf_nat _ _ _ hi, if_neg (by rw [ba_eq]; exact h), w64n i (by omega)]) 0 () (Nat.zero_le _)
  simpa using key

theorem spec_find (l : List (List ByteArray)) (name : ByteArray) (hl : l.length ≤ 1048576) (hs : ∀ x ∈ l, x.length ≤ 1048576) : Ev (fun k => spec_Find.f k l name) (found name l.reverse 0) := by
  unfold spec_Find.f
  have key := ev_for (fun k i (_ : Unit) => spec_Find.l0 k l name i) l.length (fun i _ => found name (l.reverse.drop i) i) (by
    intro _
    rw [List.drop_eq_nil_of_le (by simp)]
    refine now_one (fun k => ?_)
    simp only [spec_Find.l0]
    rw [if_neg (by omega)]
    rfl) (by
    intro i _ hi ih
    rw [rev_drop _ _ hi]
    unfold found
    refine Ev.step (fun k => ?_) (spec_inner l name i (l[l.length - 1 - i]'(by omega)) (hs _ (List.getElem_mem _)) (by omega) _ (ih ()))
    simp only [spec_Find.l0]
    rw [if_pos (by omega), place _ _ hl hi, if_pos (by omega), if_pos (by omega), rd_nat _ _ (by omega)]) 0 () (Nat.zero_le _)
  simpa using key

theorem index_ev (x : List ByteArray) (name : ByteArray) (hx : x.length ≤ 1048576) : Ev (fun k => slices_Index_string_string.f k x name) (match idxFrom name x 0 with | some j => (j : Int) | none => -1) := by
  unfold slices_Index_string_string.f
  have key := ev_for (fun k i (_ : Unit) => slices_Index_string_string.l0 k x name (x.length : Int) i) x.length (fun i _ => match idxFrom name (x.drop i) i with | some j => (j : Int) | none => -1) (by
    intro _
    rw [List.drop_length]
    refine now_one (fun k => ?_)
    simp only [slices_Index_string_string.l0]
    rw [if_neg (by omega)]
    rfl) (by
    intro i _ hi ih
    rw [List.drop_eq_getElem_cons hi]
    unfold idxFrom
    by_cases h : x[i] = name
    · rw [if_pos h]
      refine now_one (fun k => ?_)
      simp only [slices_Index_string_string.l0]
      rw [if_pos (by omega), if_pos (by omega), if_pos (by omega), rdOf_nat _ _ _ hi, if_pos (by rw [h])]
    · rw [if_neg h]
      refine Ev.step (fun k => ?_) (ih ())
      simp only [slices_Index_string_string.l0]
      rw [if_pos (by omega), if_pos (by omega), if_pos (by omega), rdOf_nat _ _ _ hi, if_neg (by rw [ba_eq]; exact fun e => h e.symm), w64n i (by omega)]) 0 () (Nat.zero_le _)
  simpa using key

theorem impl_find (l : List (List ByteArray)) (name : ByteArray) (hl : l.length ≤ 1048576) (hs : ∀ x ∈ l, x.length ≤ 1048576) : Ev (fun k => impl_Find.f k l name) (found name l.reverse 0) := by
  unfold impl_Find.f
  have key := ev_for (fun k i (_ : Unit) => impl_Find.l0 k l name i) l.length (fun i _ => found name (l.reverse.drop i) i) (by
    intro _
    rw [List.drop_eq_nil_of_le (by simp)]
    refine now_one (fun k => ?_)
    simp only [impl_Find.l0]
    rw [if_neg (by omega)]
    rfl) (by
    intro i _ hi ih
    rw [rev_drop _ _ hi]
    unfold found
    have e : ∀ k, impl_Find.l0 (k + 1) l name (i : Int) = (slices_Index_string_string.f k (l[l.length - 1 - i]'(by omega)) name).bind fun t => if t ≥ 0 then some ((i : Int), t, true) else impl_Find.l0 k l name ((i + 1 : Nat) : Int) := by
      intro k
      simp only [impl_Find.l0]
      rw [if_pos (by omega), place _ _ hl hi, if_pos (by omega), if_pos (by omega), rd_nat _ _ (by omega), w64n i (by omega)]
    refine Ev.step e (Ev.bind (index_ev _ name (hs _ (List.getElem_mem _))) ?_)
    cases h : idxFrom name (l[l.length - 1 - i]'(by omega)) 0 with
    | some j =>
      simp only [if_pos (show ((j : Int) ≥ 0) by omega)]
      exact Ev.now _
    | none =>
      simp only [if_neg (show ¬ ((-1 : Int) ≥ 0) by omega)]
      exact ih ()) 0 () (Nat.zero_le _)
  simpa using key

theorem law (l : List (List ByteArray)) (name : ByteArray) (hl : l.length ≤ maxLen) (hs : ∀ x ∈ l, x.length ≤ maxLen ∧ ∀ s ∈ x, s.size ≤ maxLen) : ∃ k, laws_FnExactFind.f k l name = some true := by
  refine Ev.rounds ?_
  unfold laws_FnExactFind.f
  by_cases h0 : (name.size : Int) > 1048576
  · simp only [if_pos h0]
    exact Ev.now _
  simp only [if_neg h0]
  obtain ⟨z, hz, hq⟩ := szSS_ev l hl hs
  refine Ev.bind hz ?_
  rcases hq with rfl | ⟨h1, h2, h3⟩
  · exact Ev.now _
  simp only [if_neg (show ¬ z < 0 by omega)]
  refine Ev.bind (toSS_ev l h2 h3) (Ev.bind (spec_find l name h2 h3) (Ev.bind (toSS_ev l h2 h3) (Ev.bind (impl_find l name h2 h3) ?_)))
  simp only [if_true, bne_self_eq_false]
  refine Ev.step (fun k => ?_) (f := fun k => (laws_toStringSS.f k l).bind fun t => (laws_eqStringSS.f k l t).bind fun u => if u = true then some true else some false) (Ev.bind (toSS_ev l h2 h3) (Ev.bind (eqSS_ev l h2 h3) (Ev.now _)))
  simp only [laws_FnExactFind.j0, Bool.false_eq_true, if_false]
end Go.Proofs.Ytpjfnjnidmlhcaa.XFnExactFind
