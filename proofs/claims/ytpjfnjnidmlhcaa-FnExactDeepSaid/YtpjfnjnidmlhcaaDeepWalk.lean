/- A value that reads as a tree; the law FnExactDeep called with it answers true. No condition. -/
import Derived.Test.YtpjfnjnidmlhcaaDeepPure
import Derived.Test.YtpjfnjnidmlhcaaOpen
import Derived.KernelRfl
namespace Go.Proofs.Ytpjfnjnidmlhcaa.DeepWalk
open Go.RowKit Go.WideShapes Go.Proofs.YtpjfnjnidmlhcaaW.PrintWords Go.Proofs.Ytpjfnjnidmlhcaa.Open Go.Proofs.Ytpjfnjnidmlhcaa.XFnExactDeep
set_option linter.unusedVariables false
theorem cellsT : Try.prog.cellsOf 41 = 4 := by kernel_rfl
theorem readNode {H : Type} (enc : TypeId × Value → H) (W : World) (N : Nat) : RDF enc Try.prog W N 41 k41 fits := by
  induction N with
  | zero => exact RDF.zero
  | succ N ih =>
    intro fuel hf cs y h
    have hl : cs.length = 4 := (struct_len Try.underlying41 h).trans cellsT
    have hks : RDF enc Try.prog W N 39 (Kd.slice 41 k41) (fun xs => xs.length ≤ maxLen ∧ ∀ x ∈ xs, fits x) := (RDF.slice (e := 41) (by kernel_rfl) (by kernel_rfl) ih).mono (by omega)
    obtain ⟨x0, k0, _⟩ := fieldF Try.underlying41 h hf 0 0 1 3 rfl (by kernel_rfl) ((RD.int (k := .i64) (by kernel_rfl)).to N)
    obtain ⟨x1, k1, q1⟩ := fieldF Try.underlying41 h hf 1 1 1 9 rfl (by kernel_rfl) ((RD.string (by kernel_rfl)).to N)
    obtain ⟨x2, k2, _⟩ := fieldF Try.underlying41 h hf 2 2 1 3 rfl (by kernel_rfl) ((RD.int (k := .i64) (by kernel_rfl)).to N)
    obtain ⟨x3, k3, q3⟩ := fieldF Try.underlying41 h hf 3 3 1 39 rfl (by kernel_rfl) hks
    obtain ⟨A, c, k3, hn, hc⟩ := k3
    have e : cs = [.int .i64 x0, .string x1, .int .i64 x2, .slice A x3.length c] := by
      rw [join0 cs 1, join cs 1 1, join cs 2 1, join cs 3 1, join_end _ 4 hl, k0, k1, k2, k3]
      rfl
    exact ⟨⟨x0, x1, x2, x3⟩, by rw [e]; exact k41_mk W ⟨x0, x1, x2, x3⟩ hn hc, q1, q3.1, fitss_of q3.2⟩
theorem walk {H : Type} (enc : TypeId × Value → H) (W : World) (base : Nat) (v0 : Value) (d0 : DataW H) (p0 : List MemPlace) (o0 : Value.okWide Try.prog W .any base 41 v0) (h0 : DataW.Trod enc Try.prog W 0 (fun _ => true) true 41 v0 d0 p0)
    {ts : List TypeId} {ds : List (DataW H)} (hsz : (DataW.weightsEach Try.prog ts ds).all (· ≤ reachBytes) = true) :
    Calls Try.prog 8 #[v0] W fun e W' => e = .returned (.bool true) ∧ Below W.heap.size W W' := by
  obtain ⟨cs, rfl, hs⟩ := okWide_struct Try.underlying41 o0
  obtain ⟨fuel, h⟩ := h0
  change DataW.trod enc Try.prog W 0 (fun _ => true) true fuel 41 cs.toList = _ at h
  obtain ⟨x, hk, hf⟩ := RDF.all (fun N => readNode enc W N) fuel _ _ h
  obtain ⟨A, c, e, hn, hc⟩ := k41_open hk
  obtain ⟨k, hlaw⟩ := law x hf
  rw [array_of_list e]
  exact laws_FnExactDeep.calls k x.f0 x.f1 x.f2 A c x.f3 true W hc hn hlaw
end Go.Proofs.Ytpjfnjnidmlhcaa.DeepWalk
