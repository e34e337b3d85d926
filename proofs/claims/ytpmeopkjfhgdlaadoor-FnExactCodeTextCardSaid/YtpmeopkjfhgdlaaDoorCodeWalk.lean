/- The law FnExactCodeText called with whatever value reads as a code answers true. No condition but the table of the numerals' library. -/
import Derived.Test.YtpmeopkjfhgdlaaDoorCodePure
import Derived.Test.YtpmeopkjfhgdlaaDoorOpen
import Derived.KernelRfl
namespace Go.Proofs.YtpmeopkjfhgdlaaDoor.CodeWalk
open Go.RowKit Go.WideShapes Go.Proofs.YtpmeopkjfhgdlaaDoorW.PrintWords Go.Proofs.YtpmeopkjfhgdlaaDoor.Open Go.Proofs.YtpmeopkjfhgdlaaDoor.XFnExactCodeText
set_option linter.unusedVariables false
theorem wf64 {n : Int} (h : (Lit.int .i64 n).wf = true) : i64 n := by
  simpa [Lit.wf, IntKind.min, IntKind.max, IntKind.signed, IntKind.bits, i64] using h
theorem cellsS : Tryd.prog.cellsOf 23 = 3 := by kernel_rfl
theorem cellsT : Tryd.prog.cellsOf 39 = 3 := by kernel_rfl
theorem rdStep {H : Type} {enc : TypeId × Value → H} {W : World} : RD enc Tryd.prog W 23 k23 (fun x => i64 x.f0 ∧ i64 x.f1 ∧ i64 x.f2) := by
  intro fuel cs y h
  have hl : cs.length = 3 := (struct_len Tryd.underlying23 h).trans cellsS
  obtain ⟨x0, k0, w0⟩ := field Tryd.underlying23 h 0 0 1 3 rfl (by kernel_rfl) (RD.int (k := .i64) (by kernel_rfl))
  obtain ⟨x1, k1, w1⟩ := field Tryd.underlying23 h 1 1 1 3 rfl (by kernel_rfl) (RD.int (k := .i64) (by kernel_rfl))
  obtain ⟨x2, k2, w2⟩ := field Tryd.underlying23 h 2 2 1 3 rfl (by kernel_rfl) (RD.int (k := .i64) (by kernel_rfl))
  have e : cs = [.int .i64 x0, .int .i64 x1, .int .i64 x2] := by
    rw [join0 cs 1, join cs 1 1, join cs 2 1, join_end _ 3 hl, k0, k1, k2]
    rfl
  subst e
  exact ⟨⟨x0, x1, x2⟩, k23_mk W ⟨x0, x1, x2⟩, wf64 w0, wf64 w1, wf64 w2⟩
theorem openCode {H : Type} {enc : TypeId × Value → H} {W : World} {base : Nat} {v0 : Value} {d0 : DataW H} {p0 : List MemPlace} (o0 : Value.okWide Tryd.prog W .any base 39 v0) (h0 : DataW.Trod enc Tryd.prog W 0 (fun _ => true) true 39 v0 d0 p0) :
    ∃ (a b : Int) (A : Option Addr) (n : Nat) (l : List S23), v0 = .agg #[.int .i64 a, .int .i64 b, .slice A l.length n] ∧ Kd.C k23 W A l.length l ∧ l.length ≤ n ∧ l.length ≤ maxLen ∧ ∀ x ∈ l, i64 x.f0 ∧ i64 x.f1 ∧ i64 x.f2 := by
  obtain ⟨cs, rfl, hs⟩ := okWide_struct Tryd.underlying39 o0
  obtain ⟨fuel, h⟩ := h0
  have hl : cs.toList.length = 3 := by rw [Array.length_toList, hs]; exact cellsT
  change DataW.trod enc Tryd.prog W 0 (fun _ => true) true fuel 39 cs.toList = _ at h
  obtain ⟨x0, k0, w0⟩ := field Tryd.underlying39 h 0 0 1 3 rfl (by kernel_rfl) (RD.int (k := .i64) (by kernel_rfl))
  obtain ⟨x1, k1, w1⟩ := field Tryd.underlying39 h 1 1 1 3 rfl (by kernel_rfl) (RD.int (k := .i64) (by kernel_rfl))
  obtain ⟨x2, k2, q2⟩ := field Tryd.underlying39 h 2 2 1 37 rfl (by kernel_rfl) (RD.slice (e := 23) (d := k23) (by kernel_rfl) (by kernel_rfl) rdStep)
  obtain ⟨A, n, k2, hn, hc⟩ := k2
  have e : cs.toList = [.int .i64 x0, .int .i64 x1, .slice A x2.length n] := by
    rw [join0 cs.toList 1, join cs.toList 1 1, join cs.toList 2 1, join_end _ 3 hl, k0, k1, k2]
    rfl
  exact ⟨x0, x1, A, n, x2, by rw [array_of_list e], hc, hn, q2.1, q2.2⟩
theorem walk {H : Type} (enc : TypeId × Value → H) (W : World) (hT : Lib.TabIs Tryd.prog W "internal/strconv.uint64pow10" .u64 Lib.pow10Tab) (base : Nat) (v0 : Value) (d0 : DataW H) (p0 : List MemPlace) (o0 : Value.okWide Tryd.prog W .any base 39 v0) (h0 : DataW.Trod enc Tryd.prog W 0 (fun _ => true) true 39 v0 d0 p0)
    {ts : List TypeId} {ds : List (DataW H)} (hsz : (DataW.weightsEach Tryd.prog ts ds).all (· ≤ reachBytes) = true) :
    Calls Tryd.prog 5 #[v0] W fun e W' => e = .returned (.bool true) ∧ Below W.heap.size W W' := by
  obtain ⟨a, b, A, n, l, rfl, hc, hn, hl, hs⟩ := openCode o0 h0
  obtain ⟨k, hk⟩ := XFnExactCodeText.law a b l hl hs
  exact XFnExactCodeText.laws_FnExactCodeText.calls k a b A n l true W hT hc hn hk
end Go.Proofs.YtpmeopkjfhgdlaaDoor.CodeWalk
