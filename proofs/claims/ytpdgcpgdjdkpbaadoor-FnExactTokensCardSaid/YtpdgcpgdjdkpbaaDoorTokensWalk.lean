/- The law FnExactTokens called with whatever value reads as a text answers true. No condition but what the library's own variables hold. -/
import Derived.Test.YtpdgcpgdjdkpbaaDoorTokensPure
import Derived.Test.YtpdgcpgdjdkpbaaDoorXFnExactTokens
import Derived.SizedLaws
import Derived.ChangeOld
import Derived.ChangeMaps5
import Derived.OpenShut
import Derived.KernelRfl
namespace Go.Proofs.YtpdgcpgdjdkpbaaDoor.TokensWalk
open Go.RowKit Go.WideShapes Go.ChangeMaps Go.Proofs.YtpdgcpgdjdkpbaaDoorW.PrintWords Go.Proofs.YtpdgcpgdjdkpbaaDoor.XFnExactTokens
set_option linter.unusedVariables false
set_option maxRecDepth 100000 in
theorem walk {H : Type} (enc : TypeId × Value → H) (W : World) (hT : TabX W) (base : Nat) (v0 : Value) (d0 : DataW H) (p0 : List MemPlace) (o0 : Value.okWide Tryd.prog W .any base 9 v0) (h0 : DataW.Trod enc Tryd.prog W 0 (fun _ => true) true 9 v0 d0 p0)
    {ts : List TypeId} {ds : List (DataW H)} (hsz : (DataW.weightsEach Tryd.prog (9 :: ts) (d0 :: ds)).all (· ≤ reachBytes) = true) :
    Calls Tryd.prog 6 #[v0] W fun e W' => e = .returned (.bool true) ∧ Below W.heap.size W W' := by
  obtain ⟨s, rfl, rfl, rfl, y0⟩ := open_string (by kernel_rfl) o0 h0
  have w0 : s.size ≤ 140737488351232 := by
    have z := sized_string hsz (j := 0) (t := 9) rfl rfl
    rw [Array.length_toList] at z
    exact z
  obtain ⟨k, hk⟩ := XFnExactTokens.law s w0
  exact XFnExactTokens.laws_FnExactTokens.calls k s true W hT hk
end Go.Proofs.YtpdgcpgdjdkpbaaDoor.TokensWalk
