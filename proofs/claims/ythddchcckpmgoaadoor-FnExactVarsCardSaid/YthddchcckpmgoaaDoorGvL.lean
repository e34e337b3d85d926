/- Proof: what the law FnExactVars evaluates to. No condition. -/
import Derived.Test.YthddchcckpmgoaaDoorGvC
set_option autoImplicit true
set_option relaxedAutoImplicit true
set_option linter.unusedSimpArgs false
set_option linter.unusedVariables false
namespace Go.Pv
set_option maxRecDepth 100000
set_option maxHeartbeats 40000000
set_option linter.unusedSimpArgs false
set_option linter.unusedVariables false
theorem F3_true (a0_1 : Int) (a0_2 : ByteArray) (a0_3 : Int) (a0_4 : List T_Node) (h_ : F3 a0_1 a0_2 a0_3 a0_4 = some true) : ev EE (.call 3 [.ag [.sc (.int .i64 a0_1), .sc (.string a0_2), .sc (.int .i64 a0_3), .ls false (r_Node false a0_4)]] []) = some (.val (.sc (.bool true)) []) := by
  rw [ev_eq]
  simp only [F3] at h_
  obtain ⟨r6, h1_, h_⟩ := bS_some h_
  have h1_f := F6_ok a0_1 a0_2 a0_3 a0_4 1048576 _ h1_
  try simp [F6_ans] at h1_f
  by_cases h2_ : r6 < 0
  · rw [if_pos h2_] at h_
    cases h_
    simp (maxSteps := 2000000) (decide := true) [-getElem?_pos, ir3, h1_f, h2_, F3_ans]
  · rw [if_neg h2_] at h_
    obtain ⟨⟨r13, r14, r15, r16⟩, h3_, h_⟩ := bS_some h_
    try dsimp only at h_
    have h3_f := F8_ok a0_1 a0_2 a0_3 a0_4 _ h3_
    try simp [F8_ans] at h3_f
    obtain ⟨r28, h4_, h_⟩ := bS_some h_
    have h4_f := F7_ok r13 r14 r15 r16 _ h4_
    try simp [F7_ans] at h4_f
    obtain ⟨r46, h5_, h_⟩ := bS_some h_
    have h5_f := F9_ok r13 r14 r15 r16 _ h5_
    try simp [F9_ans] at h5_f
    obtain ⟨r48, h6_, h_⟩ := bS_some h_
    have h6_f := F10_ok r46 r28 _ h6_
    try simp [F10_ans] at h6_f
    by_cases h7_ : r48 = true
    · rw [if_pos h7_] at h_
      obtain ⟨r52, h8_, h_⟩ := bS_some h_
      have h8_f := F11_ok r13 r14 r15 r16 r13 r14 r15 r16 _ h8_
      try simp [F11_ans] at h8_f
      by_cases h9_ : r52 = true
      · rw [if_pos h9_] at h_
        obtain ⟨⟨r61, r62, r63, r64, r65⟩, h10_, h_⟩ := bS_some h_
        try dsimp only at h_
        have h10_f := F12_ok r13 r14 r15 r16 1 _ h10_
        try simp [F12_ans] at h10_f
        by_cases h11_ : r65.length = r16.length
        · rw [if_pos h11_] at h_
          have h11_t : List.take r16.length r65 = r65 := List.take_of_length_le (Nat.le_of_eq h11_)
          by_cases h13_ : r61 < 0
          · rw [if_pos h13_] at h_
            cases h_
          · rw [if_neg h13_] at h_
            obtain ⟨⟨r69, r70⟩, h14_, h_⟩ := bS_some h_
            try dsimp only at h_
            have h14_f := F13_ok r46 1 _ h14_
            try simp [F13_ans, h11_, h11_t] at h14_f
            by_cases h15_ : r70.length = r46.length
            · rw [if_pos h15_] at h_
              have h15_t : List.take r46.length r70 = r70 := List.take_of_length_le (Nat.le_of_eq h15_)
              obtain ⟨r75, h17_, h_⟩ := bS_some h_
              have h17_f := F14_ok r70 1 _ h17_
              try simp [F14_ans, h11_, h11_t, h15_, h15_t] at h17_f
              by_cases h18_ : r75 < 0
              · rw [if_pos h18_] at h_
                cases h_
              · rw [if_neg h18_] at h_
                by_cases h19_ : r75 = r69
                · rw [if_pos h19_] at h_
                  cases h_
                  simp (maxSteps := 2000000) (decide := true) [-getElem?_pos, ir3, h1_f, h2_, h3_f, h4_f, h5_f, h6_f, h7_, h8_f, h9_, h10_f, h11_, h11_t, h13_, h14_f, h15_, h15_t, h17_f, h18_, eq_true h19_, F3_ans]
                · rw [if_neg h19_] at h_
                  cases h_
            · rw [if_neg h15_] at h_
              cases h_
        · rw [if_neg h11_] at h_
          cases h_
      · rw [if_neg h9_] at h_
        cases h_
    · rw [if_neg h7_] at h_
      cases h_
end Go.Pv
