/- Plain laws on loops over lists, told of any function that goes by the same rows; for the pure side of the laws. No condition. -/
import Derived.Test.YtjlkkappngnbjaaDoorWWords
namespace Go.Proofs.YtjlkkappngnbjaaDoor.Pl
open Go.RowKit Go.Proofs.YtjlkkappngnbjaaDoorW.PrintWords
set_option linter.unusedVariables false

theorem w64 (n : Int) (h0 : -9223372036854775808 ≤ n) (h1 : n ≤ 9223372036854775807) : wrap64 n = n := by unfold wrap64; omega
theorem w64n (i : Nat) (h : i < 9223372036854775807) : wrap64 ((i : Int) + 1) = ((i + 1 : Nat) : Int) := by rw [w64 _ (by omega) (by omega)]; simp

theorem rdOf_nat {α : Type} (d : α) (xs : List α) (i : Nat) (h : i < xs.length) : rdOf d xs (i : Int) = xs[i] := by
  unfold rdOf
  rw [Int.toNat_natCast, List.getD_eq_getElem?_getD, List.getElem?_eq_getElem h]
  rfl
theorem getD_nat {α : Type} (d : α) (xs : List α) (i : Nat) (h : i < xs.length) : xs.getD (i : Int).toNat d = xs[i] := by
  rw [Int.toNat_natCast, List.getD_eq_getElem?_getD, List.getElem?_eq_getElem h]
  rfl

/-- A loop over the places of a list, from place i on: what it comes to, by what one round does. -/
theorem ev_for {β σ : Type} (g : Nat → Int → σ → Option β) (n : Nat) (res : Nat → σ → β)
    (hend : ∀ s, Ev (fun k => g k (n : Int) s) (res n s))
    (hstep : ∀ (i : Nat) s, i < n → (∀ s', Ev (fun k => g k ((i + 1 : Nat) : Int) s') (res (i + 1) s')) → Ev (fun k => g k (i : Int) s) (res i s)) :
    ∀ (i : Nat) s, i ≤ n → Ev (fun k => g k (i : Int) s) (res i s) := by
  have key : ∀ d i s, i + d = n → Ev (fun k => g k (i : Int) s) (res i s) := by
    intro d
    induction d with
    | zero =>
      intro i s h
      obtain rfl : i = n := by omega
      exact hend s
    | succ d ih =>
      intro i s h
      exact hstep i s (by omega) (fun s' => ih (i + 1) s' (by omega))
  intro i s h
  exact key (n - i) i s (by omega)

/-- The same, where what holds of the state at each place is told. -/
theorem ev_inv {β σ : Type} (g : Nat → Int → σ → Option β) (n : Nat) (I : Nat → σ → Prop) (Q : β → Prop)
    (hend : ∀ s, I n s → ∃ r, Ev (fun k => g k (n : Int) s) r ∧ Q r)
    (hstep : ∀ (i : Nat) s, i < n → I i s → (∀ s', I (i + 1) s' → ∃ r, Ev (fun k => g k ((i + 1 : Nat) : Int) s') r ∧ Q r) → ∃ r, Ev (fun k => g k (i : Int) s) r ∧ Q r) :
    ∀ (i : Nat) s, i ≤ n → I i s → ∃ r, Ev (fun k => g k (i : Int) s) r ∧ Q r := by
  have key : ∀ d i s, i + d = n → I i s → ∃ r, Ev (fun k => g k (i : Int) s) r ∧ Q r := by
    intro d
    induction d with
    | zero =>
      intro i s h hi
      obtain rfl : i = n := by omega
      exact hend s hi
    | succ d ih =>
      intro i s h hi
      exact hstep i s (by omega) hi (fun s' hs => ih (i + 1) s' (by omega) hs)
  intro i s h hi
  exact key (n - i) i s (by omega) hi

/-! ### comparing two lists place by place -/
theorem eq_loop {α : Type} (xs ys : List α) (hl : xs.length = ys.length) (hm : xs.length < 9223372036854775807) (g : Nat → Int → Option Bool)
    (hend : ∀ k, g (k + 1) (xs.length : Int) = some true)
    (hstep : ∀ (i : Nat) (h : i < xs.length), xs[i] = ys[i] → ∀ r, Ev (fun k => g k ((i + 1 : Nat) : Int)) r → Ev (fun k => g k (i : Int)) r)
    (hno : ∀ (i : Nat) (h : i < xs.length), xs[i] ≠ ys[i] → Ev (fun k => g k (i : Int)) false) [DecidableEq α] : Ev (fun k => g k 0) (decide (xs = ys)) := by
  have key : ∀ (i : Nat) (s : Unit), i ≤ xs.length → Ev (fun k => (fun k i (_ : Unit) => g k i) k (i : Int) s) (decide (xs.drop i = ys.drop i)) := by
    refine ev_for (fun k i (_ : Unit) => g k i) xs.length (fun i _ => decide (xs.drop i = ys.drop i)) ?_ ?_
    · intro _
      refine ⟨1, fun k hk => ?_⟩
      obtain ⟨m, rfl⟩ : ∃ m, k = m + 1 := ⟨k - 1, by omega⟩
      show g (m + 1) (xs.length : Int) = _
      rw [hend]
      have h1 : xs.drop xs.length = ys.drop xs.length := by rw [List.drop_length, hl, List.drop_length]
      rw [decide_eq_true h1]
    · intro i _ hi ih
      have hy : i < ys.length := by omega
      by_cases e : xs[i] = ys[i]
      · have := hstep i hi e _ (ih ())
        rw [show (decide (List.drop i xs = List.drop i ys)) = decide (List.drop (i + 1) xs = List.drop (i + 1) ys) from by
          have h1 := List.drop_eq_getElem_cons hi
          have h2 := List.drop_eq_getElem_cons hy
          rw [h1, h2, e]
          simp only [List.cons.injEq, true_and]]
        exact this
      · have := hno i hi e
        rw [show (decide (List.drop i xs = List.drop i ys)) = false from by
          have h1 := List.drop_eq_getElem_cons hi
          have h2 := List.drop_eq_getElem_cons hy
          rw [h1, h2]
          simp only [List.cons.injEq, decide_eq_false_iff_not]
          exact fun h => e h.1]
        exact this
  simpa using key 0 () (Nat.zero_le _)

/-! ### copying a list place by place -/
theorem set_take {α : Type} (xs ys : List α) (i : Nat) (h : i < xs.length) (hl : ys.length = xs.length) (hp : ys.take i = xs.take i) : (ys.set i xs[i]).take (i + 1) = xs.take (i + 1) := by
  rw [List.take_succ_eq_append_getElem (by rw [List.length_set]; omega), List.take_succ_eq_append_getElem h]
  congr 1
  · rw [List.take_set_of_le (Nat.le_refl _)]
    exact hp
  · simp
theorem copy_loop {α β : Type} (xs : List α) (f : α → β) (z : β) (hm : xs.length < 9223372036854775807) (g : Nat → List β → Int → Option (List β))
    (hend : ∀ k ys, ys.length = xs.length → g (k + 1) ys (xs.length : Int) = some ys)
    (hstep : ∀ (i : Nat) (h : i < xs.length) ys, ys.length = xs.length → ∀ r, Ev (fun k => g k (ys.set i (f xs[i])) ((i + 1 : Nat) : Int)) r → Ev (fun k => g k ys (i : Int)) r) :
    Ev (fun k => g k (List.replicate xs.length z) 0) (xs.map f) := by
  have key := ev_inv (fun k i (ys : List β) => g k ys i) xs.length (fun i ys => ys.length = xs.length ∧ ys.take i = (xs.map f).take i) (fun r => r = xs.map f) (by
    intro ys ⟨h1, h2⟩
    refine ⟨ys, ⟨1, fun k hk => ?_⟩, ?_⟩
    · obtain ⟨m, rfl⟩ : ∃ m, k = m + 1 := ⟨k - 1, by omega⟩
      exact hend m ys h1
    · rw [List.take_of_length_le (by omega), List.take_of_length_le (by simp)] at h2
      exact h2) (by
    intro i ys hi ⟨h1, h2⟩ ih
    have hmp : (xs.map f)[i]'(by simpa using hi) = f xs[i] := by simp
    obtain ⟨r, hr, hq⟩ := ih (ys.set i (f xs[i])) ⟨by rw [List.length_set]; exact h1, by
      have := set_take (xs.map f) ys i (by simpa using hi) (by simpa using h1) h2
      rw [hmp] at this
      exact this⟩
    exact ⟨r, hstep i hi ys h1 r hr, hq⟩) 0 (List.replicate xs.length z) (Nat.zero_le _) ⟨by simp, by simp⟩
  obtain ⟨r, hr, rfl⟩ := key
  exact hr

/-! ### texts as bytes -/
theorem ba_ext {a b : ByteArray} (h : a.data.toList = b.data.toList) : a = b := by
  cases a; cases b
  simp only [ByteArray.mk.injEq]
  exact Array.toList_inj.1 h
theorem ba_toList (a : ByteArray) : a.toList = a.data.toList := ByteArray.toList_eq a
theorem ba_eq {a b : ByteArray} : a.toList = b.toList ↔ a = b := by
  rw [ba_toList, ba_toList]
  exact ⟨ba_ext, fun h => by rw [h]⟩
end Go.Proofs.YtjlkkappngnbjaaDoor.Pl
