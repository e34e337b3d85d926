/- The law FnExactDeep, of whatever tree: the reference and the program measure alike. No condition. -/
import Derived.Test.YtpjfnjnidmlhcaaDeepNode
import Derived.Test.YtpjfnjnidmlhcaaWMore
namespace Go.Proofs.Ytpjfnjnidmlhcaa.XFnExactDeep
open Go.RowKit Go.Proofs.YtpjfnjnidmlhcaaW.PrintWords Go.Proofs.Ytpjfnjnidmlhcaa.Pl
set_option linter.unusedVariables false

theorem len_le (l : List NB) : l.length ≤ manysB l := by
  induction l with
  | nil => simp
  | cons y r ih =>
    have : 1 ≤ manyB y := by cases y; simp [manyB]
    simp only [manysB, List.length_cons]
    omega

mutual
def deepB : NB → Nat
  | ⟨_, _, _, ks⟩ => deepsB ks + 1
def deepsB : List NB → Nat
  | [] => 0
  | x :: r => max (deepB x) (deepsB r)
end
mutual
theorem deep_le (x : NB) : deepB x ≤ manyB x := by
  cases x with
  | mk o s n ks =>
    have := deeps_le ks
    simp only [deepB, manyB]
    omega
theorem deeps_le (l : List NB) : deepsB l ≤ manysB l := by
  cases l with
  | nil => simp [deepsB]
  | cons x r =>
    have := deep_le x
    have := deeps_le r
    simp only [deepsB, manysB]
    omega
end
theorem deeps_take (l : List NB) (i : Nat) (h : i < l.length) : deepsB (l.take (i + 1)) = max (deepsB (l.take i)) (deepB l[i]) := by
  induction l generalizing i with
  | nil => simp at h
  | cons y r ih =>
    cases i with
    | zero => simp [deepsB]
    | succ i =>
      have h' : i < r.length := by simpa using h
      have := ih i h'
      simp only [List.take_succ_cons, deepsB, List.getElem_cons_succ]
      omega
theorem deeps_take_le (l : List NB) (i : Nat) : deepsB (l.take i) ≤ deepsB l := by
  induction l generalizing i with
  | nil => simp
  | cons y r ih =>
    cases i with
    | zero => simp [deepsB]
    | succ i =>
      have := ih i
      simp only [List.take_succ_cons, deepsB]
      omega
theorem mx_max (a b : Int) : mx a b = max a b := by unfold mx; omega
theorem max_bind {β : Type} (a b : Int) (f : Int → Option β) : (spec_l1Max.f a b).bind f = f (max a b) := by
  unfold spec_l1Max.f
  by_cases h : a > b
  · rw [if_pos h, Option.bind_some, show max a b = a by omega]
  · rw [if_neg h, Option.bind_some, show max a b = b by omega]
theorem spec_ev (N : Nat) : ∀ (x : NB), manyB x ≤ N → N ≤ 1048577 → Ev (fun k => spec_Deep.f k x.f0 x.f1 x.f2 x.f3) (deepB x : Int) := by
  induction N with
  | zero =>
    intro x hm
    cases x
    simp [manyB] at hm
  | succ N ih =>
    intro x hm hN
    obtain ⟨o, s, n, ks⟩ := x
    simp only [manyB] at hm
    have hlen := len_le ks
    have hdp := deeps_le ks
    have key := ev_inv (fun k i (t : Int) => spec_Deep.l0 k t i o s n ks) ks.length (fun i t => t = deepsB (ks.take i)) (fun r => r = 1 + deepsB ks) (by
      intro t ht
      refine ⟨t + 1, now_one (fun k => ?_), by rw [ht, List.take_length]; omega⟩
      simp only [spec_Deep.l0]
      have h2 := deeps_take_le ks ks.length
      rw [if_neg (by omega), w64 _ (by omega) (by omega)]) (by
      intro i t hi ht ih2
      have hmem := List.getElem_mem hi
      have h1 := deeps_take ks i hi
      obtain ⟨r, hr, hq⟩ := ih2 (max t (deepB ks[i])) (by rw [ht, h1]; omega)
      have e : ∀ k, spec_Deep.l0 (k + 1) t (i : Int) o s n ks = (spec_Deep.f k ks[i].f0 ks[i].f1 ks[i].f2 ks[i].f3).bind fun z => spec_Deep.l0 k (max t z) ((i + 1 : Nat) : Int) o s n ks := by
        intro k
        simp only [spec_Deep.l0, if_pos (show (i : Int) < (ks.length : Int) by omega), if_pos (show (0 : Int) ≤ (i : Int) by omega), rdB _ _ hi, w64n i (by omega), max_bind]
      exact ⟨r, Ev.step e (Ev.bind (ih ks[i] (by have := manyB_mem hmem; omega) (by omega)) hr), hq⟩) 0 0 (Nat.zero_le _) (by simp [deepsB])
    obtain ⟨r, hr, rfl⟩ := key
    have h3 : (deepB ⟨o, s, n, ks⟩ : Int) = 1 + deepsB ks := by simp only [deepB]; omega
    rw [h3]
    exact Ev.step (fun k => by simp only [spec_Deep.f]; rfl) hr
theorem impl_ev (N : Nat) : ∀ (x : NB), manyB x ≤ N → N ≤ 1048577 → Ev (fun k => impl_Deep.f k x.f0 x.f1 x.f2 x.f3) (deepB x : Int) := by
  induction N with
  | zero =>
    intro x hm
    cases x
    simp [manyB] at hm
  | succ N ih =>
    intro x hm hN
    obtain ⟨o, s, n, ks⟩ := x
    simp only [manyB] at hm
    have hlen := len_le ks
    have hdp := deeps_le ks
    have key := ev_inv (fun k i (t : Int) => impl_Deep.l0 k t ks (ks.length : Int) i) ks.length (fun i t => t = deepsB (ks.take i)) (fun r => r = 1 + deepsB ks) (by
      intro t ht
      refine ⟨t + 1, now_one (fun k => ?_), by rw [ht, List.take_length]; omega⟩
      simp only [impl_Deep.l0]
      have h2 := deeps_take_le ks ks.length
      rw [if_neg (by omega), w64 _ (by omega) (by omega)]) (by
      intro i t hi ht ih2
      have hmem := List.getElem_mem hi
      have h1 := deeps_take ks i hi
      obtain ⟨r, hr, hq⟩ := ih2 (max t (deepB ks[i])) (by rw [ht, h1]; omega)
      have e : ∀ k, impl_Deep.l0 (k + 1) t ks (ks.length : Int) (i : Int) = (impl_Deep.f k ks[i].f0 ks[i].f1 ks[i].f2 ks[i].f3).bind fun z => impl_Deep.l0 k (max t z) ks (ks.length : Int) ((i + 1 : Nat) : Int) := by
        intro k
        simp only [impl_Deep.l0, if_pos (show (i : Int) < (ks.length : Int) by omega), if_pos (show (0 : Int) ≤ (i : Int) by omega), rdB _ _ hi, w64n i (by omega), mx_max]
      exact ⟨r, Ev.step e (Ev.bind (ih ks[i] (by have := manyB_mem hmem; omega) (by omega)) hr), hq⟩) 0 0 (Nat.zero_le _) (by simp [deepsB])
    obtain ⟨r, hr, rfl⟩ := key
    have h3 : (deepB ⟨o, s, n, ks⟩ : Int) = 1 + deepsB ks := by simp only [deepB]; omega
    rw [h3]
    exact Ev.step (fun k => by simp only [impl_Deep.f]; rfl) hr
theorem law (x : NA) (hf : fits x) : ∃ k, laws_FnExactDeep.f k x.f0 x.f1 x.f2 x.f3 = some true := by
  refine Ev.rounds ?_
  unfold laws_FnExactDeep.f
  obtain ⟨z, hz, hq⟩ := sz_ev (many x) x 1048576 (Nat.le_refl _) hf (by omega) (by omega)
  refine Ev.bind hz ?_
  rcases hq with rfl | ⟨h1, h2⟩
  · exact Ev.now _
  simp only [if_neg (show ¬ z < 0 by omega)]
  have hb : bulk x ≤ 1048576 := by omega
  have hm : manyB (conv x) ≤ 1048577 := by rw [manyB_conv]; have := many_le x; omega
  have ht := to_ev (many x) x (Nat.le_refl _) hb
  refine Ev.bind ht (Ev.bind (spec_ev 1048577 (conv x) hm (Nat.le_refl _)) (Ev.bind ht (Ev.bind (impl_ev 1048577 (conv x) hm (Nat.le_refl _)) ?_)))
  simp only [if_true]
  refine Ev.bind ht (Ev.bind (eq_ev 1048577 (conv x) hm (Nat.le_refl _)) ?_)
  simp only [if_true]
  exact Ev.now _
end Go.Proofs.Ytpjfnjnidmlhcaa.XFnExactDeep
