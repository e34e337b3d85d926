/- The law FnExactStepText called with whatever value reads as a step answers true. No condition but the table of the numerals' library. -/
import Derived.Test.YtpmeopkjfhgdlaaDoorStepLaw
import Derived.Test.YtpmeopkjfhgdlaaDoorOpen
import Derived.KernelRfl
namespace Go.Proofs.YtpmeopkjfhgdlaaDoor.StepWalk
open Go.RowKit Go.WideShapes Go.Proofs.YtpmeopkjfhgdlaaDoorW.PrintWords Go.Proofs.YtpmeopkjfhgdlaaDoor.Open
set_option linter.unusedVariables false
theorem cellsT : Tryd.prog.cellsOf 23 = 3 := by kernel_rfl
theorem wf64 {n : Int} (h : (Lit.int .i64 n).wf = true) : XFnExactStepText.i64 n := by
  simpa [Lit.wf, IntKind.min, IntKind.max, IntKind.signed, IntKind.bits, XFnExactStepText.i64] using h
theorem openStep {H : Type} {enc : TypeId × Value → H} {W : World} {base : Nat} {v0 : Value} {d0 : DataW H} {p0 : List MemPlace} (o0 : Value.okWide Tryd.prog W .any base 23 v0) (h0 : DataW.Trod enc Tryd.prog W 0 (fun _ => true) true 23 v0 d0 p0) :
    ∃ (a b c : Int), v0 = .agg #[.int .i64 a, .int .i64 b, .int .i64 c] ∧ XFnExactStepText.i64 a ∧ XFnExactStepText.i64 b ∧ XFnExactStepText.i64 c := by
  obtain ⟨cs, rfl, hs⟩ := okWide_struct Tryd.underlying23 o0
  obtain ⟨fuel, h⟩ := h0
  have hl : cs.toList.length = 3 := by rw [Array.length_toList, hs]; exact cellsT
  change DataW.trod enc Tryd.prog W 0 (fun _ => true) true fuel 23 cs.toList = _ at h
  obtain ⟨x0, k0, w0⟩ := field Tryd.underlying23 h 0 0 1 3 rfl (by kernel_rfl) (RD.int (k := .i64) (by kernel_rfl))
  obtain ⟨x1, k1, w1⟩ := field Tryd.underlying23 h 1 1 1 3 rfl (by kernel_rfl) (RD.int (k := .i64) (by kernel_rfl))
  obtain ⟨x2, k2, w2⟩ := field Tryd.underlying23 h 2 2 1 3 rfl (by kernel_rfl) (RD.int (k := .i64) (by kernel_rfl))
  have e : cs.toList = [.int .i64 x0, .int .i64 x1, .int .i64 x2] := by
    rw [join0 cs.toList 1, join cs.toList 1 1, join cs.toList 2 1, join_end _ 3 hl, k0, k1, k2]
    rfl
  exact ⟨x0, x1, x2, by rw [array_of_list e], wf64 w0, wf64 w1, wf64 w2⟩
theorem walk {H : Type} (enc : TypeId × Value → H) (W : World) (hT : Lib.TabIs Tryd.prog W "internal/strconv.uint64pow10" .u64 Lib.pow10Tab) (base : Nat) (v0 : Value) (d0 : DataW H) (p0 : List MemPlace) (o0 : Value.okWide Tryd.prog W .any base 23 v0) (h0 : DataW.Trod enc Tryd.prog W 0 (fun _ => true) true 23 v0 d0 p0)
    {ts : List TypeId} {ds : List (DataW H)} (hsz : (DataW.weightsEach Tryd.prog ts ds).all (· ≤ reachBytes) = true) :
    Calls Tryd.prog 3 #[v0] W fun e W' => e = .returned (.bool true) ∧ Below W.heap.size W W' := by
  obtain ⟨a, b, c, rfl, ha, hb, hc⟩ := openStep o0 h0
  obtain ⟨k, hk⟩ := XFnExactStepText.law a b c ha hb hc
  exact XFnExactStepText.laws_FnExactStepText.calls k a b c true W hT hk
end Go.Proofs.YtpmeopkjfhgdlaaDoor.StepWalk
