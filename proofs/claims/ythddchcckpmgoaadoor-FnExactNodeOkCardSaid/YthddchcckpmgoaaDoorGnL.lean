/- Proof: what the law FnExactNodeOk evaluates to. No condition. -/
import Derived.Test.YthddchcckpmgoaaDoorGnD
set_option autoImplicit true
set_option relaxedAutoImplicit true
set_option linter.unusedSimpArgs false
set_option linter.unusedVariables false
namespace Go.Pv
set_option maxRecDepth 100000
set_option maxHeartbeats 40000000
set_option linter.unusedSimpArgs false
set_option linter.unusedVariables false
theorem Fw_FnExactNodeOk_true (a0_1 : Int) (a0_2 : ByteArray) (a0_3 : Int) (a0_4 : List T_Node) (h_ : Fw_FnExactNodeOk a0_1 a0_2 a0_3 a0_4 = some true) : ev EE (.call 4 [.ag [.sc (.int .i64 a0_1), .sc (.string a0_2), .sc (.int .i64 a0_3), .ls false (r_Node false a0_4)]] []) = some (.val (.sc (.bool true)) []) := by
  rw [ev_eq]
  simp only [Fw_FnExactNodeOk] at h_
  obtain ⟨r6, h1_, h_⟩ := bS_some h_
  have h1_f := Fw_szNode_ok a0_1 a0_2 a0_3 a0_4 1048576 _ h1_
  try simp [Fw_szNode_ans] at h1_f
  rcases bI h_ with ⟨h2_, h_⟩ | ⟨h2_, h_⟩
  · cases h_
    simp (maxSteps := 2000000) (decide := true) [-getElem?_pos, ir4, h1_f, h2_, Fw_FnExactNodeOk_ans]
  · obtain ⟨⟨r13, r14, r15, r16⟩, h3_, h_⟩ := bS_some h_
    try dsimp only at h_
    have h3_f := Fw_toNode_ok a0_1 a0_2 a0_3 a0_4 _ h3_
    try simp [Fw_toNode_ans] at h3_f
    obtain ⟨r129, h4_, h_⟩ := bS_some h_
    have h4_f := Fs_NodeOk_ok r13 r14 r15 r16 _ h4_
    try simp [Fs_NodeOk_ans] at h4_f
    obtain ⟨r232, h5_, h_⟩ := bS_some h_
    have h5_f := Fi_NodeOk_ok r13 r14 r15 r16 _ h5_
    try simp [Fi_NodeOk_ans] at h5_f
    rcases bI h_ with ⟨h6_, h_⟩ | ⟨h6_, h_⟩
    · obtain ⟨r236, h7_, h_⟩ := bS_some h_
      have h7_f := Fw_eqNode_ok r13 r14 r15 r16 r13 r14 r15 r16 _ h7_
      try simp [Fw_eqNode_ans] at h7_f
      rcases bI h_ with ⟨h8_, h_⟩ | ⟨h8_, h_⟩
      · cases h_
        simp (maxSteps := 2000000) (decide := true) [-getElem?_pos, ir4, h1_f, h2_, h3_f, h4_f, h5_f, eq_true h6_, h7_f, h8_, Fw_FnExactNodeOk_ans]
      · cases h_
    · cases h_
end Go.Pv
