/- Proof: the law Moved called with whatever values read as a slab and a number answers true. No condition. -/
import Derived.Test.YthddchcckpmgoaaIw
import Derived.Test.YthddchcckpmgoaaEqG
set_option autoImplicit true
set_option relaxedAutoImplicit true
set_option linter.unusedSimpArgs false
set_option linter.unusedVariables false
namespace Go.Pv
open Go.RowKit Go.WideShapes
set_option linter.unusedVariables false
set_option maxRecDepth 100000
theorem walkMoved {H : Type} (enc : TypeId × Value → H) (W : World) (base : Nat) (v0 : Value) (d0 : DataW H) (p0 : List MemPlace) (v1 : Value) (d1 : DataW H) (p1 : List MemPlace) (o0 : Value.okWide Go.Proofs.Try.prog W .any base 24 v0) (o1 : Value.okWide Go.Proofs.Try.prog W .any base 3 v1) (h0 : DataW.Trod enc Go.Proofs.Try.prog W 0 (fun _ => true) true 24 v0 d0 p0) (h1 : DataW.Trod enc Go.Proofs.Try.prog W 0 (fun _ => true) true 3 v1 d1 p1)
    {ts : List TypeId} {ds : List (DataW H)} (hsz : (DataW.weightsEach Go.Proofs.Try.prog ts ds).all (· ≤ reachBytes) = true) :
    Calls Go.Proofs.Try.prog 4 #[v0, v1] W fun e W' => e = .returned (.bool true) ∧ Below W.heap.size W W' := by
  obtain ⟨ws, hlen, hx⟩ := slab_read enc W base v0 d0 p0 o0 h0
  obtain ⟨n, rfl⟩ := okWide_int Go.Proofs.Try.underlying3 o1
  refine call_of_ev (v := .tu []) rfl (e4 ws n (by simp only [maxLen] at hlen; omega)) ?_
  have := XRL.cons _ [int n] _ [.int .i64 n] [] [] hx (XRL.cons _ [] _ [] [] [] (.sc _ rfl) .nil)
  simpa using this
end Go.Pv
