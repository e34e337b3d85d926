/- The law FnExactSize, of whatever tree: the reference and the program count alike. No condition. -/
import Derived.Test.YtpjfnjnidmlhcaaSizeNode
namespace Go.Proofs.Ytpjfnjnidmlhcaa.XFnExactSize
open Go.RowKit Go.Proofs.YtpjfnjnidmlhcaaW.PrintWords Go.Proofs.Ytpjfnjnidmlhcaa.Pl
set_option linter.unusedVariables false

theorem manysB_take (l : List NB) (i : Nat) (h : i < l.length) : manysB (l.take (i + 1)) = manysB (l.take i) + manyB l[i] := by
  induction l generalizing i with
  | nil => simp at h
  | cons y r ih =>
    cases i with
    | zero => simp [manysB]
    | succ i =>
      have h' : i < r.length := by simpa using h
      have := ih i h'
      simp only [List.take_succ_cons, manysB, List.getElem_cons_succ]
      omega
theorem manysB_take_le (l : List NB) (i : Nat) : manysB (l.take i) ≤ manysB l := by
  induction l generalizing i with
  | nil => simp
  | cons y r ih =>
    cases i with
    | zero => simp [manysB]
    | succ i =>
      have := ih i
      simp only [List.take_succ_cons, manysB]
      omega
theorem len_le (l : List NB) : l.length ≤ manysB l := by
  induction l with
  | nil => simp
  | cons y r ih =>
    have : 1 ≤ manyB y := by cases y; simp [manyB]
    simp only [manysB, List.length_cons]
    omega

theorem spec_ev (N : Nat) : ∀ (x : NB), manyB x ≤ N → N ≤ 1048577 → Ev (fun k => spec_Size.f k x.f0 x.f1 x.f2 x.f3) (manyB x : Int) := by
  induction N with
  | zero =>
    intro x hm
    cases x
    simp [manyB] at hm
  | succ N ih =>
    intro x hm hN
    obtain ⟨o, s, n, ks⟩ := x
    simp only [manyB] at hm
    have hlen := len_le ks
    have key := ev_inv (fun k i (t : Int) => spec_Size.l0 k t i o s n ks) ks.length (fun i t => t = 1 + manysB (ks.take i)) (fun r => r = 1 + manysB ks) (by
      intro t ht
      refine ⟨t, now_one (fun k => ?_), by rw [ht, List.take_length]⟩
      simp only [spec_Size.l0]
      rw [if_neg (by omega)]) (by
      intro i t hi ht ih2
      have hmem := List.getElem_mem hi
      have h1 := manysB_take ks i hi
      have h2 := manysB_take_le ks (i + 1)
      obtain ⟨r, hr, hq⟩ := ih2 (t + manyB ks[i]) (by rw [ht, h1]; omega)
      have e : ∀ k, spec_Size.l0 (k + 1) t (i : Int) o s n ks = (spec_Size.f k ks[i].f0 ks[i].f1 ks[i].f2 ks[i].f3).bind fun z => spec_Size.l0 k (wrap64 (t + z)) ((i + 1 : Nat) : Int) o s n ks := by
        intro k
        simp only [spec_Size.l0, if_pos (show (i : Int) < (ks.length : Int) by omega), if_pos (show (0 : Int) ≤ (i : Int) by omega), rdB _ _ hi, w64n i (by omega)]
      refine ⟨r, Ev.step e (Ev.bind (ih ks[i] (by have := manyB_mem hmem; omega) (by omega)) ?_), hq⟩
      rw [w64 _ (by omega) (by omega)]
      exact hr) 0 1 (Nat.zero_le _) (by simp [manysB])
    obtain ⟨r, hr, rfl⟩ := key
    have h3 : (manyB ⟨o, s, n, ks⟩ : Int) = 1 + manysB ks := by simp only [manyB]; omega
    rw [h3]
    exact Ev.step (fun k => by simp only [spec_Size.f]; rfl) hr

theorem impl_ev (N : Nat) : ∀ (x : NB), manyB x ≤ N → N ≤ 1048577 → Ev (fun k => impl_Size.f k x.f0 x.f1 x.f2 x.f3) (manyB x : Int) := by
  induction N with
  | zero =>
    intro x hm
    cases x
    simp [manyB] at hm
  | succ N ih =>
    intro x hm hN
    obtain ⟨o, s, n, ks⟩ := x
    simp only [manyB] at hm
    have hlen := len_le ks
    have key := ev_inv (fun k i (t : Int) => impl_Size.l0 k t ks (ks.length : Int) i) ks.length (fun i t => t = 1 + manysB (ks.take i)) (fun r => r = 1 + manysB ks) (by
      intro t ht
      refine ⟨t, now_one (fun k => ?_), by rw [ht, List.take_length]⟩
      simp only [impl_Size.l0]
      rw [if_neg (by omega)]) (by
      intro i t hi ht ih2
      have hmem := List.getElem_mem hi
      have h1 := manysB_take ks i hi
      have h2 := manysB_take_le ks (i + 1)
      obtain ⟨r, hr, hq⟩ := ih2 (t + manyB ks[i]) (by rw [ht, h1]; omega)
      have e : ∀ k, impl_Size.l0 (k + 1) t ks (ks.length : Int) (i : Int) = (impl_Size.f k ks[i].f0 ks[i].f1 ks[i].f2 ks[i].f3).bind fun z => impl_Size.l0 k (wrap64 (t + z)) ks (ks.length : Int) ((i + 1 : Nat) : Int) := by
        intro k
        simp only [impl_Size.l0, if_pos (show (i : Int) < (ks.length : Int) by omega), if_pos (show (0 : Int) ≤ (i : Int) by omega), rdB _ _ hi, w64n i (by omega)]
      refine ⟨r, Ev.step e (Ev.bind (ih ks[i] (by have := manyB_mem hmem; omega) (by omega)) ?_), hq⟩
      rw [w64 _ (by omega) (by omega)]
      exact hr) 0 1 (Nat.zero_le _) (by simp [manysB])
    obtain ⟨r, hr, rfl⟩ := key
    have h3 : (manyB ⟨o, s, n, ks⟩ : Int) = 1 + manysB ks := by simp only [manyB]; omega
    rw [h3]
    exact Ev.step (fun k => by simp only [impl_Size.f]; rfl) hr

theorem law (x : NA) (hf : fits x) : ∃ k, laws_FnExactSize.f k x.f0 x.f1 x.f2 x.f3 = some true := by
  refine Ev.rounds ?_
  unfold laws_FnExactSize.f
  obtain ⟨z, hz, hq⟩ := sz_ev (many x) x 1048576 (Nat.le_refl _) hf (by omega) (by omega)
  refine Ev.bind hz ?_
  rcases hq with rfl | ⟨h1, h2⟩
  · exact Ev.now _
  simp only [if_neg (show ¬ z < 0 by omega)]
  have hb : bulk x ≤ 1048576 := by omega
  have hm : manyB (conv x) ≤ 1048577 := by rw [manyB_conv]; have := many_le x; omega
  have ht := to_ev (many x) x (Nat.le_refl _) hb
  refine Ev.bind ht (Ev.bind (spec_ev 1048577 (conv x) hm (Nat.le_refl _)) (Ev.bind ht (Ev.bind (impl_ev 1048577 (conv x) hm (Nat.le_refl _)) ?_)))
  simp only [if_true]
  refine Ev.bind ht (Ev.bind (eq_ev 1048577 (conv x) hm (Nat.le_refl _)) ?_)
  simp only [if_true]
  exact Ev.now _
end Go.Proofs.Ytpjfnjnidmlhcaa.XFnExactSize
