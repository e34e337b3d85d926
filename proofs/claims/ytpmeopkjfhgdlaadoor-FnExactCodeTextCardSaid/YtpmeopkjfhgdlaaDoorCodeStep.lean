/- A step's text: the reference's and the program's come to the same. No condition but the kind's range. -/
import Derived.Test.YtpmeopkjfhgdlaaDoorCodeDigits
namespace Go.Proofs.YtpmeopkjfhgdlaaDoor.XFnExactCodeText
open Go.RowKit Go.Proofs.YtpmeopkjfhgdlaaDoorW.PrintWords Go.Proofs.YtpmeopkjfhgdlaaDoor.Pl
set_option linter.unusedVariables false

def names : List ByteArray := [(⟨#[105, 110, 116]⟩ : ByteArray), (⟨#[116, 101, 120, 116]⟩ : ByteArray), (⟨#[117, 110, 100, 101, 102]⟩ : ByteArray), (⟨#[110, 117, 108, 108]⟩ : ByteArray), (⟨#[116, 114, 117, 101]⟩ : ByteArray), (⟨#[102, 97, 108, 115, 101]⟩ : ByteArray), (⟨#[108, 111, 97, 100]⟩ : ByteArray), (⟨#[115, 116, 111, 114, 101]⟩ : ByteArray), (⟨#[103, 101, 116]⟩ : ByteArray), (⟨#[112, 117, 116]⟩ : ByteArray), (⟨#[111, 98, 106]⟩ : ByteArray), (⟨#[99, 97, 108, 108]⟩ : ByteArray), (⟨#[114, 101, 116, 117, 114, 110]⟩ : ByteArray), (⟨#[97, 100, 100]⟩ : ByteArray), (⟨#[115, 117, 98]⟩ : ByteArray), (⟨#[109, 117, 108]⟩ : ByteArray), (⟨#[108, 101, 115, 115]⟩ : ByteArray), (⟨#[115, 97, 109, 101]⟩ : ByteArray), (⟨#[110, 111, 116]⟩ : ByteArray), (⟨#[106, 117, 109, 112]⟩ : ByteArray), (⟨#[101, 108, 115, 101]⟩ : ByteArray), (⟨#[112, 114, 105, 110, 116]⟩ : ByteArray), (⟨#[112, 111, 112]⟩ : ByteArray), (⟨#[102, 117, 110]⟩ : ByteArray), (⟨#[102, 105, 101, 108, 100]⟩ : ByteArray)]
theorem names_len : names.length = 25 := rfl
theorem names_size (i : Nat) (h : i < 25) : (rdOf ByteArray.empty names (i : Int)).size ≤ 10 := by
  have hall : (List.range 25).all (fun i => decide ((rdOf ByteArray.empty names (i : Int)).size ≤ 10)) = true := by decide +kernel
  exact of_decide_eq_true (List.all_eq_true.1 hall i (List.mem_range.2 h))
theorem names_spec : spec_l15Names.f = some ((⟨#[]⟩ : ByteArray) :: names) := rfl
theorem rd_cons (x : ByteArray) (l : List ByteArray) (a : Int) (h : 1 ≤ a) : rdOf ByteArray.empty (x :: l) a = rdOf ByteArray.empty l (a - 1) := by
  unfold rdOf
  obtain ⟨n, rfl⟩ : ∃ n : Nat, a = (n + 1 : Nat) := ⟨(a - 1).toNat, by omega⟩
  rw [show ((n + 1 : Nat) : Int) - 1 = (n : Int) by omega]
  simp

theorem in_spec (a : Int) : spec_l1In.f a 1 25 = some (decide (1 ≤ a ∧ a ≤ 25)) := by
  unfold spec_l1In.f
  by_cases h : a ≥ 1
  · rw [if_pos h]; simp [show 1 ≤ a from h]
  · rw [if_neg h]; simp; omega
theorem in_impl (a : Int) : impl_within.f a 1 25 = some (decide (1 ≤ a ∧ a ≤ 25)) := by
  unfold impl_within.f
  by_cases h : a ≥ 1
  · rw [if_pos h]; simp [show 1 ≤ a from h]
  · rw [if_neg h]; simp; omega

theorem itoa_f (n : Int) (h0 : -9223372036854775808 ≤ n) (h1 : n ≤ 9223372036854775807) : strconv_Itoa.f n = some (mk (Lib.itoa n)) := by
  unfold strconv_Itoa.f
  rw [if_pos ⟨h0, h1⟩]
  rfl

theorem blank_size : (⟨#[32]⟩ : ByteArray).size = 1 := rfl
theorem j0_same (k : Nat) (nm : ByteArray) (fl : Bool) (a b c : Int) (B C : ByteArray) (hb : spec_l7Digits.f k b = some B) (hc : spec_l7Digits.f k c = some C) (hb' : strconv_Itoa.f b = some B) (hc' : strconv_Itoa.f c = some C)
    (hn : nm.size ≤ 100) (hB : B.size ≤ 100) (hC : C.size ≤ 100) :
    ∃ r, spec_StepText.j0 (k + 1) nm a fl a b c = some r ∧ impl_StepText.j0 (k + 1) nm a fl a b c = some r ∧ r.size ≤ 1000 := by
  have c1 : (nm.size + 1 ≤ 9223372036854775807) = True := eq_true (by omega)
  have c2 : ((nm ++ (⟨#[32]⟩ : ByteArray)).size + B.size ≤ 9223372036854775807) = True := eq_true (by rw [ByteArray.size_append, blank_size]; omega)
  have c3 : (((nm ++ (⟨#[32]⟩ : ByteArray)) ++ B).size + 1 ≤ 9223372036854775807) = True := eq_true (by rw [ByteArray.size_append, ByteArray.size_append, blank_size]; omega)
  have c4 : ((((nm ++ (⟨#[32]⟩ : ByteArray)) ++ B) ++ (⟨#[32]⟩ : ByteArray)).size + C.size ≤ 9223372036854775807) = True := eq_true (by rw [ByteArray.size_append, ByteArray.size_append, ByteArray.size_append, blank_size]; omega)
  simp only [spec_StepText.j0, impl_StepText.j0, hb, hc, hb', hc', Option.bind_some, c1, c2, c3, c4, if_true]
  have z1 : nm.size ≤ 1000 := by omega
  have z2 : ((nm ++ (⟨#[32]⟩ : ByteArray)) ++ B).size ≤ 1000 := by rw [ByteArray.size_append, ByteArray.size_append, blank_size]; omega
  have z3 : ((((nm ++ (⟨#[32]⟩ : ByteArray)) ++ B) ++ (⟨#[32]⟩ : ByteArray)) ++ C).size ≤ 1000 := by rw [ByteArray.size_append, ByteArray.size_append, ByteArray.size_append, ByteArray.size_append, blank_size]; omega
  by_cases h : fl = true
  · rw [if_pos h]; exact ⟨_, rfl, rfl, z3⟩
  rw [if_neg h]
  by_cases h : a = 1
  · rw [if_pos h]; exact ⟨_, rfl, rfl, z2⟩
  rw [if_neg h]
  by_cases h : a = 2
  · rw [if_pos h]; exact ⟨_, rfl, rfl, z2⟩
  rw [if_neg h]
  by_cases h : a = 9
  · rw [if_pos h]; exact ⟨_, rfl, rfl, z2⟩
  rw [if_neg h]
  by_cases h : a = 10
  · rw [if_pos h]; exact ⟨_, rfl, rfl, z2⟩
  rw [if_neg h]
  by_cases h : a = 25
  · rw [if_pos h]; exact ⟨_, rfl, rfl, z2⟩
  rw [if_neg h]
  by_cases h : a = 12
  · rw [if_pos h]; exact ⟨_, rfl, rfl, z2⟩
  rw [if_neg h]
  by_cases h : a = 20
  · rw [if_pos h]; exact ⟨_, rfl, rfl, z2⟩
  rw [if_neg h]
  by_cases h : a = 21
  · rw [if_pos h]; exact ⟨_, rfl, rfl, z2⟩
  rw [if_neg h]
  by_cases h : a = 24
  · rw [if_pos h]; exact ⟨_, rfl, rfl, z2⟩
  rw [if_neg h]
  exact ⟨_, rfl, rfl, z1⟩

def i64 (n : Int) : Prop := -9223372036854775808 ≤ n ∧ n ≤ 9223372036854775807

theorem step_ev (a b c : Int) (ha : i64 a) (hb : i64 b) (hc : i64 c) :
    ∃ r, Ev (fun k => spec_StepText.f k a b c) r ∧ Ev (fun k => impl_StepText.f k a b c) r ∧ r.size ≤ 1000 := by
  by_cases h : 1 ≤ a ∧ a ≤ 25
  · obtain ⟨K1, e1⟩ := digits_ev b hb.1 hb.2
    obtain ⟨K2, e2⟩ := digits_ev c hc.1 hc.2
    have hn : (rdOf ByteArray.empty names (a - 1)).size ≤ 100 := by
      have := names_size (a - 1).toNat (by omega)
      rw [show (((a - 1).toNat : Nat) : Int) = a - 1 by omega] at this
      omega
    have hB := itoa_len b hb.1 hb.2
    have hC := itoa_len c hc.1 hc.2
    have both : ∃ r, (∀ k, K1 + K2 ≤ k → spec_StepText.f (k + 1) a b c = some r ∧ impl_StepText.f (k + 1) a b c = some r) ∧ r.size ≤ 1000 := by
      have key : ∀ k, K1 + K2 ≤ k → spec_StepText.f (k + 1) a b c = spec_StepText.j0 (k + 1) (rdOf ByteArray.empty names (a - 1)) a (if a = 7 then (a == 7) else (a == 8)) a b c
          ∧ impl_StepText.f (k + 1) a b c = impl_StepText.j0 (k + 1) (rdOf ByteArray.empty names (a - 1)) a (if a = 7 then (a == 7) else (a == 8)) a b c := by
        intro k hk
        constructor
        · unfold spec_StepText.f
          rw [in_spec, names_spec]
          simp only [Option.bind_some, decide_eq_true h, if_true]
          rw [if_pos (by omega), if_pos (by simp only [List.length_cons, names_len]; omega), rd_cons _ _ _ h.1]
          by_cases h7 : a = 7
          · rw [if_pos h7, if_pos h7]
          · rw [if_neg h7, if_neg h7]
        · unfold impl_StepText.f
          rw [in_impl]
          simp only [Option.bind_some, decide_eq_true h, if_true]
          rw [w64 (a - 1) (by omega) (by omega)]
          change (if 0 ≤ a - 1 then (if a - 1 < (names.length : Int) then (if a = 7 then (impl_StepText.j0 (k + 1) (rdOf ByteArray.empty names (a - 1)) a (a == 7) a b c) else (impl_StepText.j0 (k + 1) (rdOf ByteArray.empty names (a - 1)) a (a == 8) a b c)) else none) else none) = _
          rw [if_pos (by omega), if_pos (by rw [names_len]; omega)]
          by_cases h7 : a = 7
          · rw [if_pos h7, if_pos h7]
          · rw [if_neg h7, if_neg h7]
      have one : ∀ k, K1 + K2 ≤ k → _ := fun k hk => j0_same k (rdOf ByteArray.empty names (a - 1)) (if a = 7 then (a == 7) else (a == 8)) a b c _ _ (e1 k (by omega)) (e2 k (by omega)) (itoa_f b hb.1 hb.2) (itoa_f c hc.1 hc.2) hn (by omega) (by omega)
      obtain ⟨r, r1, r2, r3⟩ := one (K1 + K2) (Nat.le_refl _)
      refine ⟨r, fun k hk => ?_, r3⟩
      obtain ⟨r', q1, q2, _⟩ := one k hk
      obtain ⟨w1, w2⟩ := key k hk
      have m : ∀ d, spec_StepText.j0 (K1 + K2 + 1 + d) (rdOf ByteArray.empty names (a - 1)) a (if a = 7 then (a == 7) else (a == 8)) a b c = some r := by
        intro d
        induction d with
        | zero => exact r1
        | succ d ih => exact spec_StepText.mono_l (K1 + K2 + 1 + d) _ _ _ _ _ _ _ ih
      have e := m (k - (K1 + K2))
      rw [show K1 + K2 + 1 + (k - (K1 + K2)) = k + 1 by omega, q1] at e
      obtain rfl := Option.some.inj e
      exact ⟨by rw [w1, q1], by rw [w2, q2]⟩
    obtain ⟨r, hr, hs⟩ := both
    refine ⟨r, ⟨K1 + K2 + 1, fun k hk => ?_⟩, ⟨K1 + K2 + 1, fun k hk => ?_⟩, hs⟩
    · obtain ⟨m, rfl⟩ : ∃ m, k = m + 1 := ⟨k - 1, by omega⟩
      exact (hr m (by omega)).1
    · obtain ⟨m, rfl⟩ : ∃ m, k = m + 1 := ⟨k - 1, by omega⟩
      exact (hr m (by omega)).2
  · refine ⟨⟨#[]⟩, ⟨0, fun k _ => ?_⟩, ⟨0, fun k _ => ?_⟩, by decide⟩
    · unfold spec_StepText.f
      rw [in_spec]
      simp only [Option.bind_some, decide_eq_false h]
      rfl
    · unfold impl_StepText.f
      rw [in_impl]
      simp only [Option.bind_some, decide_eq_false h]
      rfl
end Go.Proofs.YtpmeopkjfhgdlaaDoor.XFnExactCodeText
