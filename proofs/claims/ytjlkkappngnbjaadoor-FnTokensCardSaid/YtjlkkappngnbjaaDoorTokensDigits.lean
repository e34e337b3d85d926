/- What the reference's own decimal numeral comes to: the library's numeral (Derived/Lib/ItoaNum.lean). No condition but the kind's range. -/
import Derived.Test.YtjlkkappngnbjaaDoorXFnTokens
import Derived.Test.YtjlkkappngnbjaaDoorPl
import Derived.Lib.ItoaNum
import Derived.Lib.ItoaLen
namespace Go.Proofs.YtjlkkappngnbjaaDoor.XFnTokens
open Go.RowKit Go.Proofs.YtjlkkappngnbjaaDoorW.PrintWords Go.Proofs.YtjlkkappngnbjaaDoor.Pl
set_option linter.unusedVariables false

def mk (l : List UInt8) : ByteArray := ⟨l.toArray⟩
theorem mk_append (a b : List UInt8) : mk a ++ mk b = mk (a ++ b) := by apply ba_ext; simp [mk]
theorem mk_size (l : List UInt8) : (mk l).size = l.length := by simp [mk, ByteArray.size]
theorem one_byte (d : Int) (n : Nat) (h : d = (n : Int)) : strOfNums [d] = mk [UInt8.ofNat n] := by
  subst h
  simp [strOfNums, mk]

def digs (u : Nat) : List UInt8 := if u = 0 then [] else Lib.decDigits u
theorem digs_step (u : Nat) (h : u ≠ 0) : digs u = digs (u / 10) ++ [UInt8.ofNat (48 + u % 10)] := by
  unfold digs
  rw [if_neg h]
  by_cases h1 : u < 10
  · rw [Lib.decDigits, dif_pos h1, if_pos (by omega), Nat.mod_eq_of_lt h1]; rfl
  · rw [Lib.decDigits, dif_neg h1, if_neg (by omega)]

theorem l0_ev (neg : Bool) : ∀ (u : Nat), u ≤ 9223372036854775808 → (neg = false → u ≤ 9223372036854775807) → ∀ (l : List UInt8), l.length + (digs u).length ≤ 1000 →
    Ev (fun k => spec_l7Digits.l0 k (if neg = true then -(u : Int) else (u : Int)) neg (mk l)) (mk ((if neg = true then [45] else []) ++ digs u ++ l)) := by
  intro u
  induction u using Nat.strongRecOn with
  | _ u ih =>
    intro hu hn l hl
    by_cases h0 : u = 0
    · subst h0
      refine ⟨1, fun k hk => ?_⟩
      obtain ⟨m, rfl⟩ : ∃ m, k = m + 1 := ⟨k - 1, by omega⟩
      simp only [spec_l7Digits.l0]
      rw [if_pos (by cases neg <;> simp)]
      have hz : (mk l).size = l.length := mk_size l
      cases neg
      · simp [digs]
      · rw [if_pos rfl, if_pos (by rw [hz]; omega)]
        simp only [if_true, digs, List.append_nil]
        exact congrArg some (mk_append [45] l)
    · have hz : (mk l).size = l.length := mk_size l
      have hd : (digs u).length = (digs (u / 10)).length + 1 := by rw [digs_step u h0]; simp
      have st : ∀ k, spec_l7Digits.l0 (k + 1) (if neg = true then -(u : Int) else (u : Int)) neg (mk l) = spec_l7Digits.l0 k (if neg = true then -((u / 10 : Nat) : Int) else ((u / 10 : Nat) : Int)) neg (mk (UInt8.ofNat (48 + u % 10) :: l)) := by
        intro k
        have fin : ∀ d : Int, d = ((48 + u % 10 : Nat) : Int) → ∀ x : Int, x = (if neg = true then -((u / 10 : Nat) : Int) else ((u / 10 : Nat) : Int)) → ((some ([d] : List Int)).bind fun y => if (strOfNums y).size + (mk l).size ≤ 9223372036854775807 then spec_l7Digits.l0 k x neg (strOfNums y ++ mk l) else none) = spec_l7Digits.l0 k (if neg = true then -((u / 10 : Nat) : Int) else ((u / 10 : Nat) : Int)) neg (mk (UInt8.ofNat (48 + u % 10) :: l)) := by
          intro d he x hx
          subst hx
          rw [Option.bind_some, strOfNums_size, hz, if_pos (by simp; omega), one_byte d _ he, mk_append]
          rfl
        simp only [spec_l7Digits.l0]
        have hcast : ((u / 10 : Nat) : Int) = (u : Int) / 10 := by omega
        have hmod : ((u % 10 : Nat) : Int) = (u : Int) % 10 := by omega
        cases neg
        · simp only [Bool.false_eq_true, if_false] at fin ⊢
          have hu' := hn rfl
          have t1 : Int.tmod (u : Int) 10 = ((u % 10 : Nat) : Int) := by rw [Int.tmod_eq_emod_of_nonneg (by omega)]; omega
          have t2 : Int.tdiv (u : Int) 10 = ((u / 10 : Nat) : Int) := by rw [Int.tdiv_eq_ediv_of_nonneg (by omega)]; omega
          rw [if_neg (by omega), t1, if_neg (by omega), t2]
          exact fin _ (by rw [w64 _ (by omega) (by omega)]; omega) _ (w64 _ (by omega) (by omega))
        · simp only [if_true] at fin ⊢
          have t1 : Int.tmod (-(u : Int)) 10 = -((u % 10 : Nat) : Int) := by rw [Int.neg_tmod, Int.tmod_eq_emod_of_nonneg (by omega)]; omega
          have t2 : Int.tdiv (-(u : Int)) 10 = -((u / 10 : Nat) : Int) := by rw [Int.neg_tdiv, Int.tdiv_eq_ediv_of_nonneg (by omega)]; omega
          rw [if_neg (by omega), t1, t2]
          by_cases h9 : u % 10 = 0
          · rw [if_neg (by omega)]
            exact fin _ (by rw [w64 _ (by omega) (by omega)]; omega) _ (w64 _ (by omega) (by omega))
          · rw [if_pos (by omega)]
            exact fin _ (by rw [w64 (- -_) (by omega) (by omega), w64 _ (by omega) (by omega)]; omega) _ (w64 _ (by omega) (by omega))
      have := ih (u / 10) (by omega) (by omega) (by omega) (UInt8.ofNat (48 + u % 10) :: l) (by simp only [List.length_cons]; omega)
      refine Ev.step st ?_
      rw [digs_step u h0]
      simpa using this

theorem itoa_len (n : Int) (h0 : -9223372036854775808 ≤ n) (h1 : n ≤ 9223372036854775807) : (mk (Lib.itoa n)).size ≤ 21 := by
  rw [mk_size]
  exact Lib.itoa_length_le n h0 h1

theorem digits_ev (n : Int) (h0 : -9223372036854775808 ≤ n) (h1 : n ≤ 9223372036854775807) : Ev (fun k => spec_l7Digits.f k n) (mk (Lib.itoa n)) := by
  by_cases hz : n = 0
  · subst hz
    refine ⟨0, fun k _ => ?_⟩
    simp only [spec_l7Digits.f, if_true]
    have : Lib.itoa 0 = [48] := by unfold Lib.itoa; rw [if_neg (by omega), Lib.decDigits, dif_pos (by decide)]; rfl
    rw [this]; rfl
  · have hlen := itoa_len n h0 h1
    rw [mk_size] at hlen
    have hd : digs n.natAbs = Lib.decDigits n.natAbs := by unfold digs; rw [if_neg (by omega)]
    by_cases hn : n < 0
    · have hi : Lib.itoa n = 45 :: Lib.decDigits n.natAbs := by unfold Lib.itoa; rw [if_pos hn]
      have := l0_ev true n.natAbs (by omega) (by intro h; cases h) [] (by rw [hd]; rw [hi] at hlen; simp at hlen ⊢; omega)
      rw [hd] at this
      simp only [if_true, List.append_nil, show (-(n.natAbs : Int)) = n by omega] at this
      rw [hi]
      refine Ev.congr (fun k => ?_) this
      simp only [spec_l7Digits.f, if_neg hz, decide_eq_true hn]
      rfl
    · have hi : Lib.itoa n = Lib.decDigits n.natAbs := by unfold Lib.itoa; rw [if_neg hn, show n.toNat = n.natAbs by omega]
      have := l0_ev false n.natAbs (by omega) (by intro h; omega) [] (by rw [hd]; rw [hi] at hlen; simp at hlen ⊢; omega)
      rw [hd] at this
      simp only [Bool.false_eq_true, if_false, List.nil_append, List.append_nil, show ((n.natAbs : Nat) : Int) = n by omega] at this
      rw [hi]
      refine Ev.congr (fun k => ?_) this
      simp only [spec_l7Digits.f, if_neg hz, decide_eq_false hn]
      rfl
end Go.Proofs.YtjlkkappngnbjaaDoor.XFnTokens
