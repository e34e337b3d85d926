/- The law FnExactUnitOk, of whatever unit: the reference and the program say the same. No condition but the kind's range. -/
import Derived.Test.YtahcicfcnehafaaXFnExactUnitOk
import Derived.Test.YtahcicfcnehafaaUnitStr
namespace Go.Proofs.Ytahcicfcnehafaa.XFnExactUnitOk
open Go.RowKit Go.Proofs.YtahcicfcnehafaaW.PrintWords Go.Proofs.Ytahcicfcnehafaa.Pl
set_option linter.unusedVariables false
set_option linter.unusedSimpArgs false

def i64 (n : Int) : Prop := -9223372036854775808 ≤ n ∧ n ≤ 9223372036854775807
abbrev LS := S141
abbrev LC := S113
abbrev IS := S78
abbrev IC := S76
theorem ev_late {β : Type} {g h : Nat → Option β} {r : β} (K : Nat) (e : ∀ k, K ≤ k → g (k + 1) = h k) : Ev h r → Ev g r := fun ⟨M, hM⟩ => ⟨K + M + 1, fun k hk => by
  obtain ⟨m, rfl⟩ : ∃ m, k = m + 1 := ⟨k - 1, by omega⟩
  rw [e m (by omega)]
  exact hM m (by omega)⟩
theorem ev_one {β : Type} {g : Nat → Option β} {r : β} (e : ∀ k, g (k + 1) = some r) : Ev g r := ⟨1, fun k hk => by
  obtain ⟨m, rfl⟩ : ∃ m, k = m + 1 := ⟨k - 1, by omega⟩
  exact e m⟩
theorem in_spec (a b c : Int) : spec_l1In.f a b c = some (decide (b ≤ a ∧ a ≤ c)) := by
  unfold spec_l1In.f
  by_cases h : a ≥ b
  · rw [if_pos h]; simp [show b ≤ a from h]
  · rw [if_neg h]; simp; omega
theorem in_impl (a b c : Int) : impl_within.f a b c = some (decide (b ≤ a ∧ a ≤ c)) := by
  unfold impl_within.f
  by_cases h : a ≥ b
  · rw [if_pos h]; simp [show b ≤ a from h]
  · rw [if_neg h]; simp; omega
theorem rdLS (xs : List LS) (i : Nat) (h : i < xs.length) : rd_T141 xs (i : Int) = xs[i] := getD_nat _ xs i h
theorem rdLC (xs : List LC) (i : Nat) (h : i < xs.length) : rd_T113 xs (i : Int) = xs[i] := getD_nat _ xs i h
theorem rdIS (xs : List IS) (i : Nat) (h : i < xs.length) : rd_T78 xs (i : Int) = xs[i] := getD_nat _ xs i h
theorem rdIC (xs : List IC) (i : Nat) (h : i < xs.length) : rd_T76 xs (i : Int) = xs[i] := getD_nat _ xs i h

/-! One step -/
theorem ite_some (c : Bool) (x : Bool) : (if c = true then some x else some false) = some (c && x) := by cases c <;> rfl
theorem step_same (C : List IC) (T : List ByteArray) (n v : Int) (st : List IS) (op a b : Int) : ∃ r, ∀ k, spec_l15Step.f (k + 3) C T n v st op a b = some r ∧ impl_partsOk.f (k + 3) C T n v st op a b = some r := by
  by_cases h1 : op = 1
  · subst h1
    refine ⟨decide (-2147483648 ≤ a ∧ a ≤ 2147483647) && (b == 0), fun k => ⟨?_, ?_⟩⟩
    · unfold spec_l15Step.f
      rw [if_pos rfl, in_spec, Option.bind_some, ite_some]
    · unfold impl_partsOk.f
      rw [if_pos rfl, in_impl, in_impl, Option.bind_some, Option.bind_some, ite_some]
      rw [show decide ((1 : Int) ≤ 1 ∧ (1 : Int) ≤ 25) = true from rfl, if_pos rfl]
  · by_cases hA : op = 2 ∨ op = 9 ∨ op = 10 ∨ op = 25
    · have e : (decide (1 ≤ op ∧ op ≤ 25)) = true := decide_eq_true (by omega)
      refine ⟨decide (0 ≤ a ∧ a ≤ wrap64 ((T.length : Int) - 1)) && (b == 0), fun k => ?_⟩
      have q1 : spec_l15Step.j0 (k + 3) (a == 0) (b == 0) op true C T n v st op a b = some (decide (0 ≤ a ∧ a ≤ wrap64 ((T.length : Int) - 1)) && (b == 0)) ∧ impl_partsOk.j0 (k + 3) (a == 0) (b == 0) op true C T n v st op a b = some (decide (0 ≤ a ∧ a ≤ wrap64 ((T.length : Int) - 1)) && (b == 0)) := by
        simp only [spec_l15Step.j0, impl_partsOk.j0, in_spec, in_impl, Option.bind_some, if_true, e, ite_some, Bool.true_and, and_self]
      obtain ⟨q2, q3⟩ := q1
      unfold spec_l15Step.f impl_partsOk.f
      rw [if_neg h1, if_neg h1]
      rcases hA with rfl | rfl | rfl | rfl
      · exact ⟨by simpa using q2, by simpa using q3⟩
      · exact ⟨by simpa using q2, by simpa using q3⟩
      · exact ⟨by simpa using q2, by simpa using q3⟩
      · exact ⟨by simpa using q2, by simpa using q3⟩
    · have s0 : ∀ k, spec_l15Step.f (k + 3) C T n v st op a b = spec_l15Step.j0 (k + 3) (a == 0) (b == 0) op false C T n v st op a b := by
        intro k
        unfold spec_l15Step.f
        rw [if_neg h1, if_neg (by omega), if_neg (by omega), if_neg (by omega), show (op == 25) = false by simp; omega]
      have i0 : ∀ k, impl_partsOk.f (k + 3) C T n v st op a b = impl_partsOk.j0 (k + 3) (a == 0) (b == 0) op false C T n v st op a b := by
        intro k
        unfold impl_partsOk.f
        rw [if_neg h1, if_neg (by omega), if_neg (by omega), if_neg (by omega), show (op == 25) = false by simp; omega]
      simp only [s0, i0]
      by_cases hB : op = 7 ∨ op = 8
      · have e : (decide (1 ≤ op ∧ op ≤ 25)) = true := decide_eq_true (by omega)
        refine ⟨decide (0 ≤ a ∧ a ≤ 40) && decide (0 ≤ b ∧ b ≤ 11), fun k => ?_⟩
        have q2 : spec_l15Step.j1 (k + 2) (a == 0) (b == 0) op true C T n v st op a b = some (decide (0 ≤ a ∧ a ≤ 40) && decide (0 ≤ b ∧ b ≤ 11)) := by
          simp only [spec_l15Step.j1, in_spec, Option.bind_some, if_true, ite_some]
        have q3 : impl_partsOk.j1 (k + 2) (a == 0) (b == 0) op true C T n v st op a b = some (decide (0 ≤ a ∧ a ≤ 40) && decide (0 ≤ b ∧ b ≤ 11)) := by
          simp only [impl_partsOk.j1, in_impl, Option.bind_some, if_true, e, ite_some, Bool.true_and]
        rcases hB with rfl | rfl
        · exact ⟨by simpa [spec_l15Step.j0] using q2, by simpa [impl_partsOk.j0] using q3⟩
        · exact ⟨by simpa [spec_l15Step.j0] using q2, by simpa [impl_partsOk.j0] using q3⟩
      · have s1 : ∀ k, spec_l15Step.j0 (k + 3) (a == 0) (b == 0) op false C T n v st op a b = spec_l15Step.j1 (k + 2) (a == 0) (b == 0) op false C T n v st op a b := by
          intro k
          simp only [spec_l15Step.j0, Bool.false_eq_true, if_false]
          rw [if_neg (by omega), show (op == 8) = false by simp; omega]
        have i1 : ∀ k, impl_partsOk.j0 (k + 3) (a == 0) (b == 0) op false C T n v st op a b = impl_partsOk.j1 (k + 2) (a == 0) (b == 0) op false C T n v st op a b := by
          intro k
          simp only [impl_partsOk.j0, Bool.false_eq_true, if_false]
          rw [if_neg (by omega), show (op == 8) = false by simp; omega]
        simp only [s1, i1]
        by_cases hC : op = 12
        · subst hC
          refine ⟨decide (0 ≤ a ∧ a ≤ 200) && (b == 0), fun k => ⟨?_, ?_⟩⟩
          · simp only [spec_l15Step.j1, Bool.false_eq_true, if_false, if_true, in_spec, Option.bind_some, ite_some]
          · simp only [impl_partsOk.j1, Bool.false_eq_true, if_false, if_true, in_impl, Option.bind_some, ite_some]
            rw [show decide ((1 : Int) ≤ 12 ∧ (12 : Int) ≤ 25) = true from rfl, Bool.true_and]
        · by_cases hD : op = 20 ∨ op = 21
          · have e : (decide (1 ≤ op ∧ op ≤ 25)) = true := decide_eq_true (by omega)
            refine ⟨decide (0 ≤ a ∧ a ≤ wrap64 ((st.length : Int) - 1)) && (b == 0), fun k => ?_⟩
            have q2 : spec_l15Step.j2 (k + 1) (a == 0) (b == 0) op true C T n v st op a b = some (decide (0 ≤ a ∧ a ≤ wrap64 ((st.length : Int) - 1)) && (b == 0)) := by
              simp only [spec_l15Step.j2, in_spec, Option.bind_some, if_true, ite_some]
            have q3 : impl_partsOk.j2 (k + 1) (a == 0) (b == 0) op true C T n v st op a b = some (decide (0 ≤ a ∧ a ≤ wrap64 ((st.length : Int) - 1)) && (b == 0)) := by
              simp only [impl_partsOk.j2, in_impl, Option.bind_some, if_true, e, ite_some, Bool.true_and]
            rcases hD with rfl | rfl
            · exact ⟨by simpa [spec_l15Step.j1] using q2, by simpa [impl_partsOk.j1] using q3⟩
            · exact ⟨by simpa [spec_l15Step.j1] using q2, by simpa [impl_partsOk.j1] using q3⟩
          · have s2 : ∀ k, spec_l15Step.j1 (k + 2) (a == 0) (b == 0) op false C T n v st op a b = spec_l15Step.j2 (k + 1) (a == 0) (b == 0) op false C T n v st op a b := by
              intro k
              simp only [spec_l15Step.j1, Bool.false_eq_true, if_false]
              rw [if_neg hC, if_neg (by omega), show (op == 21) = false by simp; omega]
            have i2 : ∀ k, impl_partsOk.j1 (k + 2) (a == 0) (b == 0) op false C T n v st op a b = impl_partsOk.j2 (k + 1) (a == 0) (b == 0) op false C T n v st op a b := by
              intro k
              simp only [impl_partsOk.j1, Bool.false_eq_true, if_false]
              rw [if_neg hC, if_neg (by omega), show (op == 21) = false by simp; omega]
            simp only [s2, i2]
            by_cases hE : op = 24
            · subst hE
              refine ⟨decide (0 ≤ a ∧ a ≤ wrap64 ((C.length : Int) - 1)) && (b == 0), fun k => ⟨?_, ?_⟩⟩
              · simp only [spec_l15Step.j2, Bool.false_eq_true, if_false, if_true, in_spec, Option.bind_some, ite_some]
              · simp only [impl_partsOk.j2, Bool.false_eq_true, if_false, if_true, in_impl, Option.bind_some, ite_some]
                rw [show decide ((1 : Int) ≤ 24 ∧ (24 : Int) ≤ 25) = true from rfl, Bool.true_and]
            · refine ⟨decide (1 ≤ op ∧ op ≤ 25) && ((a == 0) && (b == 0)), fun k => ⟨?_, ?_⟩⟩
              · simp only [spec_l15Step.j2, Bool.false_eq_true, if_false, if_neg hE, in_spec, Option.bind_some, ite_some]
              · simp only [impl_partsOk.j2, Bool.false_eq_true, if_false, if_neg hE, in_impl, Option.bind_some, ite_some]
noncomputable def sB (C : List IC) (T : List ByteArray) (n v : Int) (st : List IS) (s : IS) : Bool := Classical.choose (step_same C T n v st s.f0 s.f1 s.f2)
theorem sB_spec (C : List IC) (T : List ByteArray) (n v : Int) (st : List IS) (s : IS) (k : Nat) (hk : 3 ≤ k) : spec_l15Step.f k C T n v st s.f0 s.f1 s.f2 = some (sB C T n v st s) := by
  obtain ⟨m, rfl⟩ : ∃ m, k = m + 3 := ⟨k - 3, by omega⟩
  exact (Classical.choose_spec (step_same C T n v st s.f0 s.f1 s.f2) m).1
theorem sB_impl (C : List IC) (T : List ByteArray) (n v : Int) (st : List IS) (s : IS) (k : Nat) (hk : 3 ≤ k) : impl_partsOk.f k C T n v st s.f0 s.f1 s.f2 = some (sB C T n v st s) := by
  obtain ⟨m, rfl⟩ : ∃ m, k = m + 3 := ⟨k - 3, by omega⟩
  exact (Classical.choose_spec (step_same C T n v st s.f0 s.f1 s.f2) m).2

/-! The steps of a code -/
theorem steps_impl (C : List IC) (T : List ByteArray) (n v : Int) (st : List IS) (hl : st.length ≤ 1048576) : ∀ (d j : Nat), j + d = st.length → ∃ t : Int, Ev (fun k => impl_Step_49_f50.l0 k st (C, T, n, v, st) (j : Int)) t ∧ decide (t ≥ 0) = !((st.drop j).all (sB C T n v st)) := by
  intro d
  induction d with
  | zero =>
    intro j h
    refine ⟨-1, ev_one fun k => ?_, ?_⟩
    · simp only [impl_Step_49_f50.l0]
      rw [if_neg (by omega)]
    · rw [List.drop_eq_nil_of_le (by omega)]; rfl
  | succ d ih =>
    intro j h
    have hj : j < st.length := by omega
    have e : ∀ k, 3 ≤ k → impl_Step_49_f50.l0 (k + 1) st (C, T, n, v, st) (j : Int) = if (!(sB C T n v st st[j])) = true then some (j : Int) else impl_Step_49_f50.l0 k st (C, T, n, v, st) ((j + 1 : Nat) : Int) := by
      intro k hk
      simp only [impl_Step_49_f50.l0, impl_Step_49_f50.g]
      rw [if_pos (by omega), if_pos (by omega), rdIS _ _ hj, sB_impl C T n v st st[j] k hk, w64n j (by omega)]
      rfl
    rw [List.drop_eq_getElem_cons hj, List.all_cons]
    cases hs : sB C T n v st st[j] with
    | true =>
      obtain ⟨t, h1, h2⟩ := ih (j + 1) (by omega)
      exact ⟨t, ev_late 3 (fun k hk => by rw [e k hk, hs]; rfl) h1, by rw [h2, Bool.true_and]⟩
    | false =>
      refine ⟨(j : Int), ⟨4, fun k hk => ?_⟩, by simp⟩
      obtain ⟨m, rfl⟩ : ∃ m, k = m + 1 := ⟨k - 1, by omega⟩
      show impl_Step_49_f50.l0 (m + 1) st (C, T, n, v, st) (j : Int) = _
      rw [e m (by omega), hs]
      rfl
theorem steps_spec (C : List IC) (T : List ByteArray) (n v : Int) (st : List IS) (hl : st.length ≤ 1048576) (i : Nat) (hi : i < 9223372036854775807) (R : Bool) (hR : Ev (fun k => spec_UnitOk.l1 k ((i + 1 : Nat) : Int) C T) R) : ∀ (d j : Nat), j + d = st.length →
    Ev (fun k => spec_UnitOk.l2 k (i : Int) (st.length : Int) (j : Int) C T n v st) (if (st.drop j).all (sB C T n v st) then R else false) := by
  intro d
  induction d with
  | zero =>
    intro j h
    rw [List.drop_eq_nil_of_le (by omega)]
    refine Ev.step (fun k => ?_) hR
    simp only [spec_UnitOk.l2]
    rw [if_neg (by omega), w64n i hi]
  | succ d ih =>
    intro j h
    have hj : j < st.length := by omega
    have e : ∀ k, 3 ≤ k → spec_UnitOk.l2 (k + 1) (i : Int) (st.length : Int) (j : Int) C T n v st = if sB C T n v st st[j] = true then spec_UnitOk.l2 k (i : Int) (st.length : Int) ((j + 1 : Nat) : Int) C T n v st else some false := by
      intro k hk
      simp only [spec_UnitOk.l2]
      rw [if_pos (by omega), if_pos (by omega), if_pos (by omega), rdIS _ _ hj, sB_spec C T n v st st[j] k hk, w64n j (by omega)]
      rfl
    rw [List.drop_eq_getElem_cons hj, List.all_cons]
    cases hs : sB C T n v st st[j] with
    | true => exact ev_late 3 (fun k hk => by rw [e k hk, hs]; rfl) (ih (j + 1) (by omega))
    | false =>
      refine ⟨4, fun k hk => ?_⟩
      obtain ⟨m, rfl⟩ : ∃ m, k = m + 1 := ⟨k - 1, by omega⟩
      show spec_UnitOk.l2 (m + 1) (i : Int) (st.length : Int) (j : Int) C T n v st = _
      rw [e m (by omega), hs]
      rfl

/-! The codes -/
theorem codes (C : List IC) (T : List ByteArray) (hC : C.length ≤ 1048576) (hS : ∀ c ∈ C, c.f2.length ≤ 1048576) : ∀ (d i : Nat), i + d = C.length → ∃ r, Ev (fun k => spec_UnitOk.l1 k (i : Int) C T) r ∧ Ev (fun k => impl_UnitOk.l0 k C (C.length : Int) (i : Int) C T) r := by
  intro d
  induction d with
  | zero =>
    intro i h
    refine ⟨true, ev_one fun k => ?_, ev_one fun k => ?_⟩
    · simp only [spec_UnitOk.l1]
      rw [if_neg (by omega)]
    · simp only [impl_UnitOk.l0]
      rw [if_neg (by omega)]
  | succ d ih =>
    intro i h
    have hi : i < C.length := by omega
    obtain ⟨R, r1, r2⟩ := ih (i + 1) (by omega)
    have hst := hS C[i] (List.getElem_mem hi)
    have hrd := rdIC C i hi
    generalize C[i] = c at hst hrd
    obtain ⟨n, v, st⟩ := c
    dsimp only at hst
    have hz : wrap64 ((st.length : Int) - 1) = (st.length : Int) - 1 := w64 _ (by omega) (by omega)
    have s0 : ∀ k, spec_UnitOk.l1 (k + 1) (i : Int) C T = (if decide (0 ≤ v ∧ v ≤ 12) = true then (if decide (0 ≤ n ∧ n ≤ v) = true then (if decide (1 ≤ (st.length : Int) ∧ (st.length : Int) ≤ 2000) = true then (if 0 ≤ (st.length : Int) - 1 then (if (st.length : Int) - 1 < (st.length : Int) then (spec_UnitOk.j3 k (i : Int) (st.length : Int) ((rd_T78 st ((st.length : Int) - 1)).f0 != 13) C T n v st) else none) else none) else (spec_UnitOk.j3 k (i : Int) (st.length : Int) true C T n v st)) else (spec_UnitOk.j3 k (i : Int) (st.length : Int) true C T n v st)) else (spec_UnitOk.j3 k (i : Int) (st.length : Int) true C T n v st)) := by
      intro k
      simp only [spec_UnitOk.l1]
      rw [if_pos (by omega), if_pos (by omega)]
      simp only [hrd, in_spec, Option.bind_some, hz]
    have i0 : ∀ k, impl_UnitOk.l0 (k + 1) C (C.length : Int) (i : Int) C T = (if decide (0 ≤ n ∧ n ≤ v) = true then (if v > 12 then (impl_UnitOk.j2 k C (C.length : Int) (i : Int) true C T n v st) else (if decide (1 ≤ (st.length : Int) ∧ (st.length : Int) ≤ 2000) = true then (if 0 ≤ (st.length : Int) - 1 then (if (st.length : Int) - 1 < (st.length : Int) then (impl_UnitOk.j2 k C (C.length : Int) (i : Int) ((rd_T78 st ((st.length : Int) - 1)).f0 != 13) C T n v st) else none) else none) else (impl_UnitOk.j2 k C (C.length : Int) (i : Int) true C T n v st))) else (impl_UnitOk.j2 k C (C.length : Int) (i : Int) true C T n v st)) := by
      intro k
      simp only [impl_UnitOk.l0]
      rw [if_pos (by omega), if_pos (by omega), if_pos (by omega)]
      simp only [hrd, in_impl, Option.bind_some, hz]
    have sT : Ev (fun k => spec_UnitOk.j3 k (i : Int) (st.length : Int) true C T n v st) false := ev_one fun k => by simp only [spec_UnitOk.j3, if_true]
    have iT : Ev (fun k => impl_UnitOk.j2 k C (C.length : Int) (i : Int) true C T n v st) false := ev_one fun k => by simp only [impl_UnitOk.j2, if_true]
    by_cases hA : (0 ≤ n ∧ n ≤ v) ∧ v ≤ 12 ∧ (1 ≤ (st.length : Int) ∧ (st.length : Int) ≤ 2000)
    · obtain ⟨a1, a2, a3⟩ := hA
      have s1 : ∀ k, spec_UnitOk.l1 (k + 1) (i : Int) C T = spec_UnitOk.j3 k (i : Int) (st.length : Int) ((rd_T78 st ((st.length : Int) - 1)).f0 != 13) C T n v st := by
        intro k
        rw [s0, decide_eq_true (by omega), if_pos rfl, decide_eq_true a1, if_pos rfl, decide_eq_true a3, if_pos rfl, if_pos (by omega), if_pos (by omega)]
      have i1 : ∀ k, impl_UnitOk.l0 (k + 1) C (C.length : Int) (i : Int) C T = impl_UnitOk.j2 k C (C.length : Int) (i : Int) ((rd_T78 st ((st.length : Int) - 1)).f0 != 13) C T n v st := by
        intro k
        rw [i0, decide_eq_true a1, if_pos rfl, if_neg (by omega), decide_eq_true a3, if_pos rfl, if_pos (by omega), if_pos (by omega)]
      cases hl : ((rd_T78 st ((st.length : Int) - 1)).f0 != 13) with
      | true =>
        rw [hl] at s1 i1
        exact ⟨false, Ev.step s1 sT, Ev.step i1 iT⟩
      | false =>
        rw [hl] at s1 i1
        have sp := steps_spec C T n v st hst i (by omega) R r1 st.length 0 (by omega)
        obtain ⟨t, t1, t2⟩ := steps_impl C T n v st hst st.length 0 (by omega)
        refine ⟨_, Ev.step s1 (Ev.step (fun k => ?_) sp), Ev.step i1 ?_⟩
        · simp only [spec_UnitOk.j3, Bool.false_eq_true, if_false]
          rfl
        · obtain ⟨K, t1⟩ := t1
          dsimp only at t1
          have ef : ∀ k, K ≤ k → impl_UnitOk.j2 (k + 1) C (C.length : Int) (i : Int) false C T n v st = if decide (t ≥ 0) = true then some false else impl_UnitOk.l0 k C (C.length : Int) ((i + 1 : Nat) : Int) C T := by
            intro k hk
            simp only [impl_UnitOk.j2, Bool.false_eq_true, if_false, impl_Step_49_f50.f]
            have t1' := t1 k hk
            rw [show ((0 : Nat) : Int) = 0 from rfl] at t1'
            rw [t1', Option.bind_some, Option.bind_some, w64n i (by omega)]
          cases ha : (st.drop 0).all (sB C T n v st) with
          | true =>
            rw [ha] at t2
            simp only [if_true]
            exact ev_late K (fun k hk => by rw [ef k hk, t2]; rfl) r2
          | false =>
            rw [ha] at t2
            simp only [Bool.false_eq_true, if_false]
            refine ⟨K + 1, fun k hk => ?_⟩
            obtain ⟨m, rfl⟩ : ∃ m, k = m + 1 := ⟨k - 1, by omega⟩
            show impl_UnitOk.j2 (m + 1) C (C.length : Int) (i : Int) false C T n v st = _
            rw [ef m (by omega), t2]
            rfl
    · refine ⟨false, Ev.step (f := fun k => spec_UnitOk.j3 k (i : Int) (st.length : Int) true C T n v st) (fun k => ?_) sT, Ev.step (f := fun k => impl_UnitOk.j2 k C (C.length : Int) (i : Int) true C T n v st) (fun k => ?_) iT⟩
      · rw [s0]
        by_cases b1 : 0 ≤ v ∧ v ≤ 12
        · rw [decide_eq_true b1, if_pos rfl]
          by_cases b2 : 0 ≤ n ∧ n ≤ v
          · rw [decide_eq_true b2, if_pos rfl, decide_eq_false (by omega)]
            rfl
          · rw [decide_eq_false b2]
            rfl
        · rw [decide_eq_false b1]
          rfl
      · rw [i0]
        by_cases b2 : 0 ≤ n ∧ n ≤ v
        · rw [decide_eq_true b2, if_pos rfl]
          by_cases b3 : v > 12
          · rw [if_pos b3]
          · rw [if_neg b3, decide_eq_false (by omega)]
            rfl
        · rw [decide_eq_false b2]
          rfl

/-! The texts, and all -/
theorem texts_spec (C : List IC) (T : List ByteArray) (hT : T.length ≤ 1048576) (R : Bool) (hR : Ev (fun k => spec_UnitOk.l1 k 0 C T) R) : ∀ (d i : Nat), i + d = T.length → Ev (fun k => spec_UnitOk.l0 k (i : Int) C T) (if (T.drop i).all (fun t => decide (¬ (t.size : Int) > 30)) then R else false) := by
  intro d
  induction d with
  | zero =>
    intro i h
    rw [List.drop_eq_nil_of_le (by omega)]
    refine Ev.step (fun k => ?_) hR
    simp only [spec_UnitOk.l0]
    rw [if_neg (by omega)]
  | succ d ih =>
    intro i h
    have hi : i < T.length := by omega
    rw [List.drop_eq_getElem_cons hi, List.all_cons]
    by_cases hb : (T[i].size : Int) > 30
    · rw [decide_eq_false (by omega), Bool.false_and]
      refine ev_one fun k => ?_
      simp only [spec_UnitOk.l0]
      rw [if_pos (by omega), if_pos (by omega), rdOf_nat _ _ _ hi, if_pos hb]
      rfl
    · rw [decide_eq_true hb, Bool.true_and]
      refine Ev.step (fun k => ?_) (ih (i + 1) (by omega))
      simp only [spec_UnitOk.l0]
      rw [if_pos (by omega), if_pos (by omega), rdOf_nat _ _ _ hi, if_neg hb, w64n i (by omega)]
theorem texts_impl (T : List ByteArray) (hT : T.length ≤ 1048576) : ∀ (d i : Nat), i + d = T.length → ∃ t : Int, Ev (fun k => slices_IndexFunc_string_string_f48.l0 k T (T.length : Int) (i : Int)) t ∧ decide (t ≥ 0) = !((T.drop i).all (fun t => decide (¬ (t.size : Int) > 30))) := by
  intro d
  induction d with
  | zero =>
    intro i h
    refine ⟨-1, ev_one fun k => ?_, ?_⟩
    · simp only [slices_IndexFunc_string_string_f48.l0]
      rw [if_neg (by omega)]
    · rw [List.drop_eq_nil_of_le (by omega)]; rfl
  | succ d ih =>
    intro i h
    have hi : i < T.length := by omega
    rw [List.drop_eq_getElem_cons hi, List.all_cons]
    by_cases hb : (T[i].size : Int) > 30
    · rw [decide_eq_false (by omega), Bool.false_and]
      refine ⟨(i : Int), ev_one fun k => ?_, by simp⟩
      simp only [slices_IndexFunc_string_string_f48.l0, impl_UnitOk_1.f, Option.bind_some]
      rw [if_pos (by omega), if_pos (by omega), if_pos (by omega), rdOf_nat _ _ _ hi, decide_eq_true hb, if_pos rfl]
    · rw [decide_eq_true hb, Bool.true_and]
      obtain ⟨t, t1, t2⟩ := ih (i + 1) (by omega)
      refine ⟨t, Ev.step (fun k => ?_) t1, t2⟩
      simp only [slices_IndexFunc_string_string_f48.l0, impl_UnitOk_1.f, Option.bind_some]
      rw [if_pos (by omega), if_pos (by omega), if_pos (by omega), rdOf_nat _ _ _ hi, decide_eq_false hb, w64n i (by omega)]
      rfl
theorem both (C : List IC) (T : List ByteArray) (hC : C.length ≤ 1048576) (hS : ∀ c ∈ C, c.f2.length ≤ 1048576) (hT : T.length ≤ 1048576) : ∃ r, Ev (fun k => spec_UnitOk.f k C T) r ∧ Ev (fun k => impl_UnitOk.f k C T) r := by
  unfold spec_UnitOk.f impl_UnitOk.f
  simp only [in_spec, in_impl, Option.bind_some]
  have sT : Ev (fun k => spec_UnitOk.j0 k true C T) false := ev_one fun k => by simp only [spec_UnitOk.j0, if_true]
  have iT : Ev (fun k => impl_UnitOk.j0 k true C T) false := ev_one fun k => by simp only [impl_UnitOk.j0, if_true]
  by_cases h1 : 1 ≤ (C.length : Int) ∧ (C.length : Int) ≤ 40
  · simp only [decide_eq_true h1, if_true]
    by_cases h2 : (T.length : Int) > 200
    · simp only [decide_eq_true h2, if_pos h2]
      exact ⟨false, sT, iT⟩
    · simp only [decide_eq_false h2, if_neg h2]
      obtain ⟨R, r1, r2⟩ := codes C T hC hS C.length 0 (by omega)
      have s := texts_spec C T hT R r1 T.length 0 (by omega)
      obtain ⟨t, t1, t2⟩ := texts_impl T hT T.length 0 (by omega)
      refine ⟨_, Ev.step (fun k => by simp only [spec_UnitOk.j0, Bool.false_eq_true, if_false]; rfl) s, ?_⟩
      unfold slices_ContainsFunc_string_string_f48.f slices_IndexFunc_string_string_f48.f
      refine Ev.bind (a := decide (t ≥ 0)) (Ev.bind t1 (Ev.now _)) ?_
      rw [t2]
      cases ha : (T.drop 0).all (fun t => decide (¬ (t.size : Int) > 30)) with
      | true =>
        simp only [if_true, Bool.not_true]
        exact Ev.step (fun k => by simp only [impl_UnitOk.j0, Bool.false_eq_true, if_false]; rfl) r2
      | false =>
        simp only [Bool.false_eq_true, if_false, Bool.not_false]
        exact iT
  · simp only [decide_eq_false h1, Bool.false_eq_true, if_false]
    exact ⟨false, sT, iT⟩

/-! What the law does beside -/
def conv (x : LS) : IS := ⟨x.f0, x.f1, x.f2⟩
def convC (x : LC) : IC := ⟨x.f0, x.f1, x.f2.map conv⟩
theorem toStepS_ev (l : List LS) (hl : l.length ≤ 1048576) : Ev (fun k => laws_toStepS.f k l) (l.map conv) := by
  have key := copy_loop l conv z78 (by omega) (fun k ys i => laws_toStepS.l0 k l ys i) (by
    intro k ys hy
    simp only [laws_toStepS.l0]
    rw [if_neg (by omega)]) (by
    intro i hi ys hy r hr
    refine Ev.step (fun k => ?_) hr
    simp only [laws_toStepS.l0, laws_toStep.f, Option.bind_some]
    rw [if_pos (by omega), if_pos (by omega), if_pos (by omega), rdLS _ _ hi, w64n i (by omega), Int.toNat_natCast]
    rfl)
  refine Ev.congr (fun k => ?_) key
  unfold laws_toStepS.f
  rw [if_pos (by omega), if_pos (by rw [Int.toNat_natCast]; omega), Int.toNat_natCast]
theorem toCodeS_ev (l : List LC) (hl : l.length ≤ 1048576) (hs : ∀ c ∈ l, c.f2.length ≤ 1048576) : Ev (fun k => laws_toCodeS.f k l) (l.map convC) := by
  have key := copy_loop l convC z76 (by omega) (fun k ys i => laws_toCodeS.l0 k l ys i) (by
    intro k ys hy
    simp only [laws_toCodeS.l0]
    rw [if_neg (by omega)]) (by
    intro i hi ys hy r hr
    obtain ⟨K, e⟩ := toStepS_ev l[i].f2 (hs _ (List.getElem_mem hi))
    dsimp only at e
    refine ev_late K (fun k hk => ?_) hr
    simp only [laws_toCodeS.l0, laws_toCode.f]
    rw [if_pos (by omega), if_pos (by omega), rdLC _ _ hi, e k hk, Option.bind_some, Option.bind_some, if_pos (by omega), w64n i (by omega), Int.toNat_natCast]
    rfl)
  refine Ev.congr (fun k => ?_) key
  unfold laws_toCodeS.f
  rw [if_pos (by omega), if_pos (by rw [Int.toNat_natCast]; omega), Int.toNat_natCast]
theorem toUnit_ev (C : List LC) (T : List ByteArray) (hl : C.length ≤ 1048576) (hs : ∀ c ∈ C, c.f2.length ≤ 1048576) (hT : T.length ≤ 1048576) : Ev (fun k => laws_toUnit.f k C T) (C.map convC, T) := by
  unfold laws_toUnit.f
  exact Ev.bind (toCodeS_ev C hl hs) (Ev.bind (toStringS_ev T hT) (Ev.now _))
theorem eqStepS_ev (l : List IS) (hl : l.length ≤ 1048576) : Ev (fun k => laws_eqStepS.f k l l) true := by
  obtain ⟨r, hr, rfl⟩ := ev_inv (fun k i (_ : Unit) => laws_eqStepS.l0 k l l i) l.length (fun _ _ => True) (fun r => r = true) (by
    intro _ _
    refine ⟨true, ev_one fun k => ?_, rfl⟩
    simp only [laws_eqStepS.l0]
    rw [if_neg (by omega)]) (by
    intro i _ hi _ ih
    obtain ⟨r, hr, hq⟩ := ih () trivial
    refine ⟨r, Ev.step (fun k => ?_) hr, hq⟩
    simp only [laws_eqStepS.l0, laws_eqStep.f]
    rw [if_pos (by omega), if_pos (by omega), if_pos (by omega)]
    simp only [if_true, Option.bind_some]
    rw [w64n i (by omega)]) 0 () (Nat.zero_le _) trivial
  refine Ev.congr (fun k => ?_) hr
  unfold laws_eqStepS.f
  rw [if_pos rfl]
  rfl
theorem eqCodeS_ev (l : List IC) (hl : l.length ≤ 1048576) (hs : ∀ c ∈ l, c.f2.length ≤ 1048576) : Ev (fun k => laws_eqCodeS.f k l l) true := by
  obtain ⟨r, hr, rfl⟩ := ev_inv (fun k i (_ : Unit) => laws_eqCodeS.l0 k l l i) l.length (fun _ _ => True) (fun r => r = true) (by
    intro _ _
    refine ⟨true, ev_one fun k => ?_, rfl⟩
    simp only [laws_eqCodeS.l0]
    rw [if_neg (by omega)]) (by
    intro i _ hi _ ih
    obtain ⟨r, hr, hq⟩ := ih () trivial
    obtain ⟨K, e⟩ := eqStepS_ev l[i].f2 (hs _ (List.getElem_mem hi))
    dsimp only at e
    refine ⟨r, ev_late K (fun k hk => ?_) hr, hq⟩
    simp only [laws_eqCodeS.l0, laws_eqCode.f]
    rw [if_pos (by omega), if_pos (by omega), if_pos (by omega), rdIC _ _ hi, e k hk]
    simp only [if_true, Option.bind_some]
    rw [w64n i (by omega)]) 0 () (Nat.zero_le _) trivial
  refine Ev.congr (fun k => ?_) hr
  unfold laws_eqCodeS.f
  rw [if_pos rfl]
  rfl
theorem eqUnit_ev (C : List IC) (T : List ByteArray) (hl : C.length ≤ 1048576) (hs : ∀ c ∈ C, c.f2.length ≤ 1048576) (hT : T.length ≤ 1048576) : Ev (fun k => laws_eqUnit.f k C T C T) true := by
  unfold laws_eqUnit.f
  refine Ev.bind (eqCodeS_ev C hl hs) ?_
  simp only [if_true]
  refine Ev.bind (eqStringS_ev T T hT) ?_
  simp only [decide_true, if_true]
  exact Ev.now _
theorem szCodeS_ev (l : List LC) (hl : l.length ≤ maxLen) (hs : ∀ c ∈ l, c.f2.length ≤ maxLen) :
    ∃ r, Ev (fun k => laws_szCodeS.f k l 1048576) r ∧ (r = -1 ∨ 0 ≤ r ∧ r ≤ 1048576 ∧ l.length ≤ 1048576 ∧ ∀ c ∈ l, c.f2.length ≤ 1048576) := by
  unfold maxLen at hl hs
  unfold laws_szCodeS.f
  by_cases h1 : (1048576 : Int) - l.length < 0
  · refine ⟨-1, ⟨0, fun k _ => ?_⟩, .inl rfl⟩
    dsimp only
    rw [w64 _ (by omega) (by omega), if_pos h1]
  · simp only [w64 ((1048576 : Int) - l.length) (by omega) (by omega), if_neg h1]
    refine ev_inv (fun k i (s : Int) => laws_szCodeS.l0 k l s i) l.length (fun i s => 0 ≤ s ∧ s ≤ 1048576 ∧ ∀ c ∈ l.take i, c.f2.length ≤ 1048576) (fun r => r = -1 ∨ 0 ≤ r ∧ r ≤ 1048576 ∧ l.length ≤ 1048576 ∧ ∀ c ∈ l, c.f2.length ≤ 1048576) ?_ ?_ 0 _ (Nat.zero_le _) ⟨by omega, by omega, by simp⟩
    · intro s ⟨q0, q1, q2⟩
      rw [List.take_length] at q2
      refine ⟨s, ev_one fun k => ?_, .inr ⟨q0, q1, by omega, q2⟩⟩
      simp only [laws_szCodeS.l0]
      rw [if_neg (by omega)]
    · intro i s hi ⟨q0, q1, q2⟩ ih
      have hz := hs l[i] (List.getElem_mem hi)
      have e : ∀ k, laws_szCodeS.l0 (k + 1) l s (i : Int) = if s - (l[i].f2.length : Int) < 0 then some (-1) else laws_szCodeS.l0 k l (s - (l[i].f2.length : Int)) ((i + 1 : Nat) : Int) := by
        intro k
        simp only [laws_szCodeS.l0, laws_szCode.f, laws_szStepS.f]
        rw [if_pos (by omega), if_pos (by omega), rdLC _ _ hi, w64 (s - _) (by omega) (by omega), w64n i (by omega)]
        by_cases h2 : s - (l[i].f2.length : Int) < 0
        · simp [h2]
        · simp [h2]
      by_cases h2 : s - (l[i].f2.length : Int) < 0
      · refine ⟨-1, ev_one fun k => ?_, .inl rfl⟩
        rw [e, if_pos h2]
      · obtain ⟨r, hr, hq⟩ := ih (s - (l[i].f2.length : Int)) ⟨by omega, by omega, by
          intro c hc
          rw [List.take_succ_eq_append_getElem hi] at hc
          rcases List.mem_append.1 hc with hc | hc
          · exact q2 c hc
          · rw [List.mem_singleton] at hc
            subst hc
            omega⟩
        exact ⟨r, Ev.step (fun k => by rw [e, if_neg h2]) hr, hq⟩

theorem law (C : List LC) (T : List ByteArray) (hC : C.length ≤ maxLen) (hS : ∀ c ∈ C, c.f2.length ≤ maxLen) (hT : T.length ≤ maxLen) (hU : ∀ s ∈ T, s.size ≤ maxLen) : ∃ k, laws_FnExactUnitOk.f k C T = some true := by
  refine Ev.rounds ?_
  unfold laws_FnExactUnitOk.f laws_szUnit.f
  obtain ⟨r, r1, r2⟩ := szCodeS_ev C hC hS
  rcases r2 with rfl | ⟨q0, q1, q2, q3⟩
  · refine Ev.bind (a := -1) (Ev.bind r1 (Ev.now _)) ?_
    simp only [show (-1 : Int) < 0 by omega, if_true]
    exact Ev.now _
  · obtain ⟨z, z1, z2⟩ := szStringS_ev T r q0 q1 hT hU
    rcases z2 with rfl | ⟨p0, p1⟩
    · refine Ev.bind (a := -1) (Ev.bind r1 ?_) ?_
      · simp only [if_neg (show ¬ r < 0 by omega)]
        exact Ev.bind z1 (Ev.now _)
      · simp only [show (-1 : Int) < 0 by omega, if_true]
        exact Ev.now _
    · refine Ev.bind (a := z) (Ev.bind r1 ?_) ?_
      · simp only [if_neg (show ¬ r < 0 by omega)]
        refine Ev.bind z1 ?_
        simp only [if_neg (show ¬ z < 0 by omega)]
        exact Ev.now _
      · simp only [if_neg (show ¬ z < 0 by omega)]
        have hT' : T.length ≤ 1048576 := by omega
        have tu := toUnit_ev C T q2 q3 hT'
        have hS' : ∀ c ∈ C.map convC, c.f2.length ≤ 1048576 := by
          intro c hc
          obtain ⟨y, hy, rfl⟩ := List.mem_map.1 hc
          simpa [convC] using q3 y hy
        obtain ⟨b, b1, b2⟩ := both (C.map convC) T (by simpa using q2) hS' hT'
        refine Ev.bind tu (Ev.bind b1 (Ev.bind tu (Ev.bind b2 ?_)))
        simp only [show (b != b) = false by simp, Bool.false_eq_true, if_false]
        refine Ev.bind tu (Ev.bind (eqUnit_ev (C.map convC) T (by simpa using q2) hS' hT') ?_)
        simp only [if_true]
        exact Ev.now _
end Go.Proofs.Ytahcicfcnehafaa.XFnExactUnitOk
