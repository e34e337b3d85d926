/- The package variables that the library's calls lean on, as one fact that goes on holding behind a call: the table uint64pow10, and that ErrRange holds an error. -/
import Derived.Test.YtjlkkappngnbjaaDoorProg
import Derived.Lib.LaidTab
import Derived.Lib.AppendIntMem
import Derived.WalkKit
import Derived.KernelRfl
namespace Go.Proofs.YtjlkkappngnbjaaDoorW.PrintWords
open Go.RowKit
def TabX (w : World) : Prop := Lib.TabIs Tryd.prog w "internal/strconv.uint64pow10" .u64 Lib.pow10Tab ∧ ∃ (tp : TypeId) (p : Value), w.var? Tryd.prog "strconv.ErrRange" = some #[.iface tp p]
theorem TabX.itoa {w : World} (h : TabX w) : Lib.TabIs Tryd.prog w "internal/strconv.uint64pow10" .u64 Lib.pow10Tab := h.1
theorem TabX.atoi {w : World} (h : TabX w) : ∃ (tp : TypeId) (p : Value), w.var? Tryd.prog "strconv.ErrRange" = some #[.iface tp p] := h.2
theorem tabBelow {w W : World} (h : TabX w) (hb : Below w.heap.size w W) : TabX W := by
  refine ⟨Lib.tabBelow_of_tabIs h.1 W hb, ?_⟩
  obtain ⟨tp, p, hv⟩ := h.2
  refine ⟨tp, p, ?_⟩
  unfold World.var? at hv ⊢
  cases hg : Tryd.prog.globalNamed "strconv.ErrRange" with
  | none => simp [hg] at hv
  | some g =>
    simp only [hg, Option.bind_some] at hv ⊢
    have hlt : g < w.heap.size := by
      rcases Nat.lt_or_ge g w.heap.size with h' | h'
      · exact h'
      · rw [Array.getElem?_eq_none h'] at hv; simp at hv
    rw [hb.block g hlt]
    exact hv
end Go.Proofs.YtjlkkappngnbjaaDoorW.PrintWords
