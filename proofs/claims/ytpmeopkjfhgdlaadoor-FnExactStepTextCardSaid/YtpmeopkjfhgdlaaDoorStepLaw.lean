/- The law on a step's text answers true. -/
import Derived.Test.YtpmeopkjfhgdlaaDoorStepPure
namespace Go.Proofs.YtpmeopkjfhgdlaaDoor.XFnExactStepText
open Go.RowKit Go.Proofs.YtpmeopkjfhgdlaaDoorW.PrintWords Go.Proofs.YtpmeopkjfhgdlaaDoor.Pl
theorem law (a b c : Int) (ha : i64 a) (hb : i64 b) (hc : i64 c) : ∃ k, laws_FnExactStepText.f k a b c = some true := by
  obtain ⟨r, ⟨K1, e1⟩, ⟨K2, e2⟩, _⟩ := step_ev a b c ha hb hc
  refine ⟨K1 + K2, ?_⟩
  have q1 := e1 (K1 + K2) (by omega)
  have q2 := e2 (K1 + K2) (by omega)
  dsimp only at q1 q2
  unfold laws_FnExactStepText.f laws_toStep.f
  simp only [Option.bind_some, q1, q2, if_true]
end Go.Proofs.YtpmeopkjfhgdlaaDoor.XFnExactStepText
