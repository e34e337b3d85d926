/- The law FnExactFind called with whatever values read as lists of texts and a text answers true. No condition. -/
import Derived.Test.YtpjfnjnidmlhcaaFindPure
import Derived.Test.YtpjfnjnidmlhcaaOpen
import Derived.KernelRfl
namespace Go.Proofs.Ytpjfnjnidmlhcaa.FindWalk
open Go.RowKit Go.WideShapes Go.Proofs.YtpjfnjnidmlhcaaW.PrintWords Go.Proofs.Ytpjfnjnidmlhcaa.Open
set_option linter.unusedVariables false
theorem walk {H : Type} (enc : TypeId × Value → H) (W : World) (base : Nat) (v0 : Value) (d0 : DataW H) (p0 : List MemPlace) (v1 : Value) (d1 : DataW H) (p1 : List MemPlace) (o0 : Value.okWide Try.prog W .any base 50 v0) (o1 : Value.okWide Try.prog W .any base 9 v1)
    (h0 : DataW.Trod enc Try.prog W 0 (fun _ => true) true 50 v0 d0 p0) (h1 : DataW.Trod enc Try.prog W 0 (fun _ => true) true 9 v1 d1 p1)
    {ts : List TypeId} {ds : List (DataW H)} (hsz : (DataW.weightsEach Try.prog ts ds).all (· ≤ reachBytes) = true) :
    Calls Try.prog 9 #[v0, v1] W fun e W' => e = .returned (.bool true) ∧ Below W.heap.size W W' := by
  obtain ⟨A0, n0, c0, rfl⟩ := okWide_slice (e := 29) (by kernel_rfl) o0
  obtain ⟨s, rfl⟩ := okWide_string (by kernel_rfl) o1
  obtain ⟨fuel, h⟩ := h0
  obtain ⟨l, ⟨A, n, e, hn, hc⟩, hl, hs⟩ := RD.slice (e := 29) (d := Kd.slice 9 Kd.string) (by kernel_rfl) (by kernel_rfl) (RD.slice (e := 9) (d := Kd.string) (by kernel_rfl) (by kernel_rfl) (RD.string (by kernel_rfl))) fuel _ _ h
  have e' : Value.slice A0 n0 c0 = Value.slice A l.length n := by simpa [Value.cells] using e
  rw [e']
  obtain ⟨k, hk⟩ := XFnExactFind.law l s hl hs
  exact XFnExactFind.laws_FnExactFind.calls k A n l s true W hc hn hk
end Go.Proofs.Ytpjfnjnidmlhcaa.FindWalk
