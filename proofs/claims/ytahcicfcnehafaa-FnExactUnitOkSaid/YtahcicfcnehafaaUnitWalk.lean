/- The law FnExactUnitOk called with whatever value reads as a unit answers true. No condition. -/
import Derived.Test.YtahcicfcnehafaaUnitPure
import Derived.Test.YtahcicfcnehafaaOpen
import Derived.KernelRfl
namespace Go.Proofs.Ytahcicfcnehafaa.UnitWalk
open Go.RowKit Go.WideShapes Go.Proofs.YtahcicfcnehafaaW.PrintWords Go.Proofs.Ytahcicfcnehafaa.Open Go.Proofs.Ytahcicfcnehafaa.XFnExactUnitOk
set_option linter.unusedVariables false
theorem wf64 {n : Int} (h : (Lit.int .i64 n).wf = true) : i64 n := by
  simpa [Lit.wf, IntKind.min, IntKind.max, IntKind.signed, IntKind.bits, i64] using h
theorem cellsS : Try.prog.cellsOf 141 = 3 := by kernel_rfl
theorem cellsT : Try.prog.cellsOf 113 = 3 := by kernel_rfl
theorem cellsU : Try.prog.cellsOf 25 = 2 := by kernel_rfl
theorem rdStep {H : Type} {enc : TypeId × Value → H} {W : World} : RD enc Try.prog W 141 k141 (fun x => i64 x.f0 ∧ i64 x.f1 ∧ i64 x.f2) := by
  intro fuel cs y h
  have hl : cs.length = 3 := (struct_len Try.underlying141 h).trans cellsS
  obtain ⟨x0, k0, w0⟩ := field Try.underlying141 h 0 0 1 3 rfl (by kernel_rfl) (RD.int (k := .i64) (by kernel_rfl))
  obtain ⟨x1, k1, w1⟩ := field Try.underlying141 h 1 1 1 3 rfl (by kernel_rfl) (RD.int (k := .i64) (by kernel_rfl))
  obtain ⟨x2, k2, w2⟩ := field Try.underlying141 h 2 2 1 3 rfl (by kernel_rfl) (RD.int (k := .i64) (by kernel_rfl))
  have e : cs = [.int .i64 x0, .int .i64 x1, .int .i64 x2] := by
    rw [join0 cs 1, join cs 1 1, join cs 2 1, join_end _ 3 hl, k0, k1, k2]
    rfl
  subst e
  exact ⟨⟨x0, x1, x2⟩, k141_mk W ⟨x0, x1, x2⟩, wf64 w0, wf64 w1, wf64 w2⟩
theorem rdCode {H : Type} {enc : TypeId × Value → H} {W : World} : RD enc Try.prog W 113 k113 (fun x => x.f2.length ≤ maxLen) := by
  intro fuel cs y h
  have hl : cs.length = 3 := (struct_len Try.underlying113 h).trans cellsT
  obtain ⟨x0, k0, w0⟩ := field Try.underlying113 h 0 0 1 3 rfl (by kernel_rfl) (RD.int (k := .i64) (by kernel_rfl))
  obtain ⟨x1, k1, w1⟩ := field Try.underlying113 h 1 1 1 3 rfl (by kernel_rfl) (RD.int (k := .i64) (by kernel_rfl))
  obtain ⟨x2, k2, q2⟩ := field Try.underlying113 h 2 2 1 111 rfl (by kernel_rfl) (RD.slice (e := 141) (d := k141) (by kernel_rfl) (by kernel_rfl) rdStep)
  obtain ⟨A, n, k2, hn, hc⟩ := k2
  have e : cs = [.int .i64 x0, .int .i64 x1, .slice A x2.length n] := by
    rw [join0 cs 1, join cs 1 1, join cs 2 1, join_end _ 3 hl, k0, k1, k2]
    rfl
  subst e
  exact ⟨⟨x0, x1, x2⟩, k113_mk W ⟨x0, x1, x2⟩ hn hc, q2.1⟩
set_option maxRecDepth 100000 in
theorem walk {H : Type} (enc : TypeId × Value → H) (W : World) (base : Nat) (v0 : Value) (d0 : DataW H) (p0 : List MemPlace) (o0 : Value.okWide Try.prog W .any base 25 v0) (h0 : DataW.Trod enc Try.prog W 0 (fun _ => true) true 25 v0 d0 p0)
    {ts : List TypeId} {ds : List (DataW H)} (hsz : (DataW.weightsEach Try.prog ts ds).all (· ≤ reachBytes) = true) :
    Calls Try.prog 3 #[v0] W fun e W' => e = .returned (.bool true) ∧ Below W.heap.size W W' := by
  obtain ⟨cs, rfl, hs⟩ := okWide_struct Try.underlying25 o0
  obtain ⟨fuel, h⟩ := h0
  have hl : cs.toList.length = 2 := by rw [Array.length_toList, hs]; exact cellsU
  change DataW.trod enc Try.prog W 0 (fun _ => true) true fuel 25 cs.toList = _ at h
  obtain ⟨x0, k0, q0⟩ := field Try.underlying25 h 0 0 1 22 rfl (by kernel_rfl) (RD.slice (e := 113) (d := k113) (by kernel_rfl) (by kernel_rfl) rdCode)
  obtain ⟨x1, k1, q1⟩ := field Try.underlying25 h 1 1 1 23 rfl (by kernel_rfl) (RD.slice (e := 9) (d := Kd.string) (by kernel_rfl) (by kernel_rfl) (RD.string (by kernel_rfl)))
  obtain ⟨A, n, k0, hn, hc⟩ := k0
  obtain ⟨B, m, k1, hm, hd⟩ := k1
  have e : cs.toList = [.slice A x0.length n, .slice B x1.length m] := by
    rw [join0 cs.toList 1, join cs.toList 1 1, join_end _ 2 hl, k0, k1]
    rfl
  obtain ⟨k, hk⟩ := XFnExactUnitOk.law x0 x1 q0.1 q0.2 q1.1 q1.2
  rw [array_of_list e]
  exact XFnExactUnitOk.laws_FnExactUnitOk.calls k A n x0 B m x1 true W hc hn hd hm hk
end Go.Proofs.Ytahcicfcnehafaa.UnitWalk
