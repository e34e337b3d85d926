/- The law FnExactOutText called with whatever value reads as an outcome answers true. No condition. -/
import Derived.Test.YtpmeopkjfhgdlaaDoorOutPure
import Derived.Test.YtpmeopkjfhgdlaaDoorOpen
import Derived.KernelRfl
namespace Go.Proofs.YtpmeopkjfhgdlaaDoor.OutWalk
open Go.RowKit Go.WideShapes Go.Proofs.YtpmeopkjfhgdlaaDoorW.PrintWords Go.Proofs.YtpmeopkjfhgdlaaDoor.Open
set_option linter.unusedVariables false
theorem cellsT : Tryd.prog.cellsOf 30 = 2 := by kernel_rfl
/-- A value that reads as an outcome. -/
theorem openOutcome {H : Type} {enc : TypeId × Value → H} {W : World} {base : Nat} {v0 : Value} {d0 : DataW H} {p0 : List MemPlace} (o0 : Value.okWide Tryd.prog W .any base 30 v0) (h0 : DataW.Trod enc Tryd.prog W 0 (fun _ => true) true 30 v0 d0 p0) :
    ∃ (c : Int) (A : Option Addr) (n : Nat) (l : List ByteArray), v0 = .agg #[.int .i64 c, .slice A l.length n] ∧ Kd.C Kd.string W A l.length l ∧ l.length ≤ n ∧ l.length ≤ maxLen ∧ ∀ s ∈ l, s.size ≤ maxLen := by
  obtain ⟨cs, rfl, hs⟩ := okWide_struct Tryd.underlying30 o0
  obtain ⟨fuel, h⟩ := h0
  have hl : cs.toList.length = 2 := by rw [Array.length_toList, hs]; exact cellsT
  change DataW.trod enc Tryd.prog W 0 (fun _ => true) true fuel 30 cs.toList = _ at h
  obtain ⟨x0, k0, _⟩ := field Tryd.underlying30 h 0 0 1 3 rfl (by kernel_rfl) (RD.int (k := .i64) (by kernel_rfl))
  obtain ⟨x1, k1, q1⟩ := field Tryd.underlying30 h 1 1 1 28 rfl (by kernel_rfl) (RD.slice (e := 9) (d := Kd.string) (by kernel_rfl) (by kernel_rfl) (RD.string (by kernel_rfl)))
  obtain ⟨A, n, k1, hn, hc⟩ := k1
  have e : cs.toList = [.int .i64 x0, .slice A x1.length n] := by
    rw [join0 cs.toList 1, join cs.toList 1 1, join_end _ 2 hl, k0, k1]
    rfl
  exact ⟨x0, A, n, x1, by rw [array_of_list e], hc, hn, q1.1, q1.2⟩
theorem walk {H : Type} (enc : TypeId × Value → H) (W : World) (hT : Lib.TabIs Tryd.prog W "internal/strconv.uint64pow10" .u64 Lib.pow10Tab) (base : Nat) (v0 : Value) (d0 : DataW H) (p0 : List MemPlace) (o0 : Value.okWide Tryd.prog W .any base 30 v0) (h0 : DataW.Trod enc Tryd.prog W 0 (fun _ => true) true 30 v0 d0 p0)
    {ts : List TypeId} {ds : List (DataW H)} (hsz : (DataW.weightsEach Tryd.prog ts ds).all (· ≤ reachBytes) = true) :
    Calls Tryd.prog 4 #[v0] W fun e W' => e = .returned (.bool true) ∧ Below W.heap.size W W' := by
  obtain ⟨c, A, n, l, rfl, hc, hn, hl, hs⟩ := openOutcome o0 h0
  obtain ⟨k, hk⟩ := XFnExactOutText.law c l hl hs
  exact XFnExactOutText.laws_FnExactOutText.calls k c A n l true W hT hc hn hk
end Go.Proofs.YtpmeopkjfhgdlaaDoor.OutWalk
