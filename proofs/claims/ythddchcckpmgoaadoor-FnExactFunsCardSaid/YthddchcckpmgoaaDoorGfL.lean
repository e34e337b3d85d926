/- Proof: what the law FnExactFuns evaluates to. No condition. -/
import Derived.Test.YthddchcckpmgoaaDoorGfD
set_option autoImplicit true
set_option relaxedAutoImplicit true
set_option linter.unusedSimpArgs false
set_option linter.unusedVariables false
namespace Go.Pv
set_option maxRecDepth 100000
set_option maxHeartbeats 40000000
set_option linter.unusedSimpArgs false
set_option linter.unusedVariables false
theorem Fw_FnExactFuns_true (a0_1 : Int) (a0_2 : ByteArray) (a0_3 : Int) (a0_4 : List T_Node) (h_ : Fw_FnExactFuns a0_1 a0_2 a0_3 a0_4 = some true) : ev EE (.call 5 [.ag [.sc (.int .i64 a0_1), .sc (.string a0_2), .sc (.int .i64 a0_3), .ls false (r_Node false a0_4)]] []) = some (.val (.sc (.bool true)) []) := by
  rw [ev_eq]
  simp only [Fw_FnExactFuns] at h_
  obtain ⟨r6, h1_, h_⟩ := bS_some h_
  have h1_f := Fw_szNode_ok a0_1 a0_2 a0_3 a0_4 1048576 _ h1_
  try simp [Fw_szNode_ans] at h1_f
  rcases bI h_ with ⟨h2_, h_⟩ | ⟨h2_, h_⟩
  · cases h_
    simp (maxSteps := 2000000) (decide := true) [-getElem?_pos, ir5, h1_f, h2_, Fw_FnExactFuns_ans]
  · obtain ⟨⟨r13, r14, r15, r16⟩, h3_, h_⟩ := bS_some h_
    try dsimp only at h_
    have h3_f := Fw_toNode_ok a0_1 a0_2 a0_3 a0_4 _ h3_
    try simp [Fw_toNode_ans] at h3_f
    obtain ⟨r147, h4_, h_⟩ := bS_some h_
    have h4_f := Fs_Funs_ok r13 r14 r15 r16 _ h4_
    try simp [Fs_Funs_ans] at h4_f
    obtain ⟨r269, h5_, h_⟩ := bS_some h_
    have h5_f := Fi_Funs_ok r13 r14 r15 r16 _ h5_
    try simp [Fi_Funs_ans] at h5_f
    obtain ⟨r273, h6_, h_⟩ := bS_some h_
    have h6_f := Fw_eqNodeS_ok r269 r147 _ h6_
    try simp [Fw_eqNodeS_ans] at h6_f
    rcases bI h_ with ⟨h7_, h_⟩ | ⟨h7_, h_⟩
    · obtain ⟨r275, h8_, h_⟩ := bS_some h_
      have h8_f := Fw_eqNode_2_ok r13 r14 r15 r16 r13 r14 r15 r16 _ h8_
      try simp [Fw_eqNode_2_ans] at h8_f
      rcases bI h_ with ⟨h9_, h_⟩ | ⟨h9_, h_⟩
      · obtain ⟨⟨r284, r285, r286, r287, r288⟩, h10_, h_⟩ := bS_some h_
        try dsimp only at h_
        have h10_f := Fw_markNode_ok r13 r14 r15 r16 1 _ h10_
        try simp [Fw_markNode_ans] at h10_f
        obtain ⟨h11_, h_⟩ := bP h_
        have h11_t : List.take r16.length r288 = r288 := List.take_of_length_le (Nat.le_of_eq h11_)
        rcases bI h_ with ⟨h13_, h_⟩ | ⟨h13_, h_⟩
        · cases h_
        · obtain ⟨⟨r289, r290⟩, h14_, h_⟩ := bS_some h_
          try dsimp only at h_
          have h14_f := Fw_markNodeS_ok r269 1 _ h14_
          try simp [Fw_markNodeS_ans, h11_, h11_t] at h14_f
          obtain ⟨h15_, h_⟩ := bP h_
          have h15_t : List.take r269.length r290 = r290 := List.take_of_length_le (Nat.le_of_eq h15_)
          obtain ⟨r296, h17_, h_⟩ := bS_some h_
          have h17_f := Fw_heldNodeS_ok r290 1 _ h17_
          try simp [Fw_heldNodeS_ans, h11_, h11_t, h15_, h15_t] at h17_f
          rcases bI h_ with ⟨h18_, h_⟩ | ⟨h18_, h_⟩
          · cases h_
          · rcases bI h_ with ⟨h19_, h_⟩ | ⟨h19_, h_⟩
            · cases h_
              simp (maxSteps := 2000000) (decide := true) [-getElem?_pos, ir5, h1_f, h2_, h3_f, h4_f, h5_f, h6_f, h7_, h8_f, h9_, h10_f, h11_, h11_t, h13_, h14_f, h15_, h15_t, h17_f, h18_, eq_true h19_, Fw_FnExactFuns_ans]
            · cases h_
      · cases h_
    · cases h_
end Go.Pv
