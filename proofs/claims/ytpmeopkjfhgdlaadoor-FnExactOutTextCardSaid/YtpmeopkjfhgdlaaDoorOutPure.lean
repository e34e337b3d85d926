/- The law FnExactOutText, of whatever outcome: the reference's text and the program's are the same. No condition. -/
import Derived.Test.YtpmeopkjfhgdlaaDoorOutDigits
import Derived.Test.YtpmeopkjfhgdlaaDoorOutStr
namespace Go.Proofs.YtpmeopkjfhgdlaaDoor.XFnExactOutText
open Go.RowKit Go.Proofs.YtpmeopkjfhgdlaaDoorW.PrintWords Go.Proofs.YtpmeopkjfhgdlaaDoor.Pl
set_option linter.unusedVariables false

def names : List ByteArray := [(⟨#[101, 110, 100]⟩ : ByteArray), (⟨#[116, 121, 112, 101]⟩ : ByteArray), (⟨#[99, 97, 108, 108, 115]⟩ : ByteArray), (⟨#[102, 117, 101, 108]⟩ : ByteArray), (⟨#[114, 111, 111, 109]⟩ : ByteArray), (⟨#[98, 97, 100]⟩ : ByteArray)]
theorem names_size (i : Nat) (h : i < 6) : (rdOf ByteArray.empty names (i : Int)).size ≤ 10 := by
  have hall : (List.range 6).all (fun i => decide ((rdOf ByteArray.empty names (i : Int)).size ≤ 10)) = true := by decide +kernel
  exact of_decide_eq_true (List.all_eq_true.1 hall i (List.mem_range.2 h))
theorem in_spec (a : Int) : spec_l1In.f a 0 5 = some (decide (0 ≤ a ∧ a ≤ 5)) := by
  unfold spec_l1In.f
  by_cases h : a ≥ 0
  · rw [if_pos h]; simp [show 0 ≤ a from h]
  · rw [if_neg h]; simp; omega
theorem in_impl (a : Int) : impl_within.f a 0 5 = some (decide (0 ≤ a ∧ a ≤ 5)) := by
  unfold impl_within.f
  by_cases h : a ≥ 0
  · rw [if_pos h]; simp [show 0 ≤ a from h]
  · rw [if_neg h]; simp; omega
theorem itoa_f (n : Int) (h0 : -9223372036854775808 ≤ n) (h1 : n ≤ 9223372036854775807) : strconv_Itoa.f n = some (mk (Lib.itoa n)) := by
  unfold strconv_Itoa.f
  rw [if_pos ⟨h0, h1⟩]
  rfl
theorem blank_size : (⟨#[32]⟩ : ByteArray).size = 1 := rfl

def text (c : Int) (n : Nat) : ByteArray := if 0 ≤ c ∧ c ≤ 5 then (rdOf ByteArray.empty names c ++ (⟨#[32]⟩ : ByteArray)) ++ mk (Lib.itoa n) else ⟨#[]⟩
theorem spec_ev (c : Int) (l : List ByteArray) (hl : l.length ≤ 1048576) : Ev (fun k => spec_OutText.f k c l) (text c l.length) := by
  unfold text
  by_cases h : 0 ≤ c ∧ c ≤ 5
  · obtain ⟨K, e⟩ := digits_ev (l.length : Int) (by omega) (by omega)
    have hB := itoa_len (l.length : Int) (by omega) (by omega)
    have hn := names_size c.toNat (by omega)
    rw [show ((c.toNat : Nat) : Int) = c by omega] at hn
    rw [if_pos h]
    refine ⟨K, fun k hk => ?_⟩
    have e1 := e k hk
    dsimp only at e1 ⊢
    unfold spec_OutText.f
    rw [in_spec]
    simp only [Option.bind_some, decide_eq_true h, if_true, e1]
    change (if 0 ≤ c then (if c < (names.length : Int) then (if (rdOf ByteArray.empty names c).size + 1 ≤ 9223372036854775807 then (if ((rdOf ByteArray.empty names c) ++ (⟨#[32]⟩ : ByteArray)).size + (mk (Lib.itoa (l.length : Int))).size ≤ 9223372036854775807 then some (((rdOf ByteArray.empty names c) ++ (⟨#[32]⟩ : ByteArray)) ++ mk (Lib.itoa (l.length : Int))) else none) else none) else none) else none) = _
    rw [if_pos h.1, if_pos (show c < (names.length : Int) from (show c < ((6 : Nat) : Int) by omega)), if_pos (by omega), if_pos (by rw [ByteArray.size_append, blank_size]; omega)]
  · rw [if_neg h]
    refine ⟨0, fun k _ => ?_⟩
    dsimp only
    unfold spec_OutText.f
    rw [in_spec]
    simp only [Option.bind_some, decide_eq_false h]
    rfl
theorem impl_eq (c : Int) (l : List ByteArray) (hl : l.length ≤ 1048576) : impl_OutText.f c l = some (text c l.length) := by
  unfold text
  by_cases h : 0 ≤ c ∧ c ≤ 5
  · have hB := itoa_len (l.length : Int) (by omega) (by omega)
    have hn := names_size c.toNat (by omega)
    rw [show ((c.toNat : Nat) : Int) = c by omega] at hn
    rw [if_pos h]
    unfold impl_OutText.f
    rw [in_impl]
    simp only [Option.bind_some, decide_eq_true h, if_true, itoa_f (l.length : Int) (by omega) (by omega)]
    change (if 0 ≤ c then (if c < (names.length : Int) then (if (rdOf ByteArray.empty names c).size + 1 ≤ 9223372036854775807 then (if ((rdOf ByteArray.empty names c) ++ (⟨#[32]⟩ : ByteArray)).size + (mk (Lib.itoa (l.length : Int))).size ≤ 9223372036854775807 then some (((rdOf ByteArray.empty names c) ++ (⟨#[32]⟩ : ByteArray)) ++ mk (Lib.itoa (l.length : Int))) else none) else none) else none) else none) = _
    rw [if_pos h.1, if_pos (show c < (names.length : Int) from (show c < ((6 : Nat) : Int) by omega)), if_pos (by omega), if_pos (by rw [ByteArray.size_append, blank_size]; omega)]
  · rw [if_neg h]
    unfold impl_OutText.f
    rw [in_impl]
    simp only [Option.bind_some, decide_eq_false h]
    rfl

theorem toOutcome_ev (c : Int) (l : List ByteArray) (hl : l.length ≤ 1048576) : Ev (fun k => laws_toOutcome.f k c l) (c, l) := by
  unfold laws_toOutcome.f
  exact Ev.bind (toStringS_ev l hl) (Ev.now _)
theorem eqOutcome_ev (c : Int) (l : List ByteArray) (hl : l.length ≤ 1048576) : Ev (fun k => laws_eqOutcome.f k c l c l) true := by
  unfold laws_eqOutcome.f
  simp only [if_true]
  refine Ev.bind (eqStringS_ev l l hl) ?_
  simp only [decide_true, if_true]
  exact Ev.now _
theorem szOutcome_ev (c : Int) (l : List ByteArray) (a : Int) (h0 : 0 ≤ a) (ha : a ≤ 1048576) (hl : l.length ≤ maxLen) (hs : ∀ s ∈ l, s.size ≤ maxLen) :
    ∃ r, Ev (fun k => laws_szOutcome.f k c l a) r ∧ (r = -1 ∨ 0 ≤ r ∧ r + l.length + sizes l = a) := by
  obtain ⟨r, hr, hq⟩ := szStringS_ev l a h0 ha hl hs
  refine ⟨r, ?_, hq⟩
  unfold laws_szOutcome.f
  refine Ev.bind hr ?_
  rcases hq with rfl | ⟨h1, _⟩
  · exact Ev.now _
  · simp only [if_neg (show ¬ r < 0 by omega)]
    exact Ev.now _

theorem law (c : Int) (l : List ByteArray) (hl : l.length ≤ maxLen) (hs : ∀ s ∈ l, s.size ≤ maxLen) : ∃ k, laws_FnExactOutText.f k c l = some true := by
  refine Ev.rounds ?_
  unfold laws_FnExactOutText.f
  obtain ⟨z, hz, hq⟩ := szOutcome_ev c l 1048576 (by omega) (by omega) hl hs
  refine Ev.bind hz ?_
  rcases hq with rfl | ⟨h1, h2⟩
  · exact Ev.now _
  · simp only [if_neg (show ¬ z < 0 by omega)]
    refine Ev.bind (toOutcome_ev c l (by omega)) ?_
    refine Ev.bind (spec_ev c l (by omega)) ?_
    refine Ev.bind (toOutcome_ev c l (by omega)) ?_
    simp only [impl_eq c l (by omega), Option.bind_some, if_true]
    refine Ev.bind (toOutcome_ev c l (by omega)) ?_
    refine Ev.bind (eqOutcome_ev c l (by omega)) ?_
    simp only [if_true]
    exact Ev.now _
end Go.Proofs.YtpmeopkjfhgdlaaDoor.XFnExactOutText
