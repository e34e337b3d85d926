/- The law FnExactWord called with whatever value reads as a token answers true. No condition. -/
import Derived.Test.YtpjfnjnidmlhcaaWordPure
import Derived.Test.YtpjfnjnidmlhcaaOpen
import Derived.KernelRfl
namespace Go.Proofs.Ytpjfnjnidmlhcaa.WordWalk
open Go.RowKit Go.WideShapes Go.Proofs.YtpjfnjnidmlhcaaW.PrintWords Go.Proofs.Ytpjfnjnidmlhcaa.Open
set_option linter.unusedVariables false
theorem cells23 : Try.prog.cellsOf 23 = 4 := by kernel_rfl
theorem walk {H : Type} (enc : TypeId × Value → H) (W : World) (base : Nat) (v0 : Value) (d0 : DataW H) (p0 : List MemPlace) (o0 : Value.okWide Try.prog W .any base 23 v0) (h0 : DataW.Trod enc Try.prog W 0 (fun _ => true) true 23 v0 d0 p0)
    {ts : List TypeId} {ds : List (DataW H)} (hsz : (DataW.weightsEach Try.prog ts ds).all (· ≤ reachBytes) = true) :
    Calls Try.prog 3 #[v0] W fun e W' => e = .returned (.bool true) ∧ Below W.heap.size W W' := by
  obtain ⟨cs, rfl, hs⟩ := okWide_struct Try.underlying23 o0
  obtain ⟨fuel, h⟩ := h0
  have hl : cs.toList.length = 4 := by rw [Array.length_toList, hs]; exact cells23
  change DataW.trod enc Try.prog W 0 (fun _ => true) true fuel 23 cs.toList = _ at h
  obtain ⟨x0, k0, _⟩ := field Try.underlying23 h 0 0 1 3 rfl (by kernel_rfl) (RD.int (k := .i64) (by kernel_rfl))
  obtain ⟨x1, k1, _⟩ := field Try.underlying23 h 1 1 1 9 rfl (by kernel_rfl) (RD.string (by kernel_rfl))
  obtain ⟨x2, k2, _⟩ := field Try.underlying23 h 2 2 1 3 rfl (by kernel_rfl) (RD.int (k := .i64) (by kernel_rfl))
  obtain ⟨x3, k3, _⟩ := field Try.underlying23 h 3 3 1 3 rfl (by kernel_rfl) (RD.int (k := .i64) (by kernel_rfl))
  have e : cs.toList = [.int .i64 x0, .string x1, .int .i64 x2, .int .i64 x3] := by
    rw [join0 cs.toList 1, join cs.toList 1 1, join cs.toList 2 1, join cs.toList 3 1, join_end _ 4 hl, k0, k1, k2, k3]
    rfl
  rw [array_of_list e]
  exact (PFnExactWord.laws_FnExactWord.calls 13 x0 x1 x2 x3 true W (WordPure.word_true x0 x1 x2 x3))
end Go.Proofs.Ytpjfnjnidmlhcaa.WordWalk
