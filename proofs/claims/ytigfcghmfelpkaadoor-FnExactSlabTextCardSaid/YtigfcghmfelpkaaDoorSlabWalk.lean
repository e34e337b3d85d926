/- The law FnExactSlabText called with whatever value reads as a slab answers true. No condition but the table of the numerals' library. -/
import Derived.Test.YtigfcghmfelpkaaDoorSlabPure
import Derived.Test.YtigfcghmfelpkaaDoorOpen
import Derived.KernelRfl
namespace Go.Proofs.YtigfcghmfelpkaaDoor.SlabWalk
open Go.RowKit Go.WideShapes Go.Proofs.YtigfcghmfelpkaaDoorW.PrintWords Go.Proofs.YtigfcghmfelpkaaDoor.Open Go.Proofs.YtigfcghmfelpkaaDoor.XFnExactSlabText
set_option linter.unusedVariables false
theorem wf64 {n : Int} (h : (Lit.int .i64 n).wf = true) : i64 n := by
  simpa [Lit.wf, IntKind.min, IntKind.max, IntKind.signed, IntKind.bits, i64] using h
theorem cellsT : Tryd.prog.cellsOf 24 = 1 := by kernel_rfl
theorem openSlab {H : Type} {enc : TypeId × Value → H} {W : World} {base : Nat} {v0 : Value} {d0 : DataW H} {p0 : List MemPlace} (o0 : Value.okWide Tryd.prog W .any base 24 v0) (h0 : DataW.Trod enc Tryd.prog W 0 (fun _ => true) true 24 v0 d0 p0) :
    ∃ (A : Option Addr) (n : Nat) (l : List Int), v0 = .agg #[.slice A l.length n] ∧ Kd.C (Kd.int .i64) W A l.length l ∧ l.length ≤ n ∧ l.length ≤ maxLen ∧ ∀ x ∈ l, i64 x := by
  obtain ⟨cs, rfl, hs⟩ := okWide_struct Tryd.underlying24 o0
  obtain ⟨fuel, h⟩ := h0
  have hl : cs.toList.length = 1 := by rw [Array.length_toList, hs]; exact cellsT
  change DataW.trod enc Tryd.prog W 0 (fun _ => true) true fuel 24 cs.toList = _ at h
  obtain ⟨x2, k2, q2⟩ := field Tryd.underlying24 h 0 0 1 22 rfl (by kernel_rfl) (RD.slice (e := 3) (d := Kd.int .i64) (by kernel_rfl) (by kernel_rfl) (RD.int (k := .i64) (by kernel_rfl)))
  obtain ⟨A, n, k2, hn, hc⟩ := k2
  have e : cs.toList = [.slice A x2.length n] := by
    rw [join0 cs.toList 1, join_end _ 1 hl, k2]
    rfl
  exact ⟨A, n, x2, by rw [array_of_list e], hc, hn, q2.1, fun x hx => wf64 (q2.2 x hx)⟩
theorem walk {H : Type} (enc : TypeId × Value → H) (W : World) (hT : Lib.TabIs Tryd.prog W "internal/strconv.uint64pow10" .u64 Lib.pow10Tab) (base : Nat) (v0 : Value) (d0 : DataW H) (p0 : List MemPlace) (o0 : Value.okWide Tryd.prog W .any base 24 v0) (h0 : DataW.Trod enc Tryd.prog W 0 (fun _ => true) true 24 v0 d0 p0)
    {ts : List TypeId} {ds : List (DataW H)} (hsz : (DataW.weightsEach Tryd.prog ts ds).all (· ≤ reachBytes) = true) :
    Calls Tryd.prog 3 #[v0] W fun e W' => e = .returned (.bool true) ∧ Below W.heap.size W W' := by
  obtain ⟨A, n, l, rfl, hc, hn, hl, hs⟩ := openSlab o0 h0
  obtain ⟨k, hk⟩ := XFnExactSlabText.law l hl hs
  exact XFnExactSlabText.laws_FnExactSlabText.calls k A n l true W hT hc hn hk
end Go.Proofs.YtigfcghmfelpkaaDoor.SlabWalk
