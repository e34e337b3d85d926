/- Proof: what the law FnExactRoots evaluates to. No condition. -/
import Derived.Test.YthddchcckpmgoaaGaC
set_option autoImplicit true
set_option relaxedAutoImplicit true
set_option linter.unusedSimpArgs false
set_option linter.unusedVariables false
namespace Go.Pv
set_option maxRecDepth 100000
set_option maxHeartbeats 40000000
set_option linter.unusedSimpArgs false
set_option linter.unusedVariables false
theorem F6_true (a0_1 : List T_Code) (a0_2 : List ByteArray) (a0_3 : List Int) (a0_4 : Int) (a0_5 : List Int) (a0_6 : List Int) (a0_7 : Int) (a0_8 : List T_Step) (a0_9 : List Int) (a0_10 : List ByteArray) (a0_11 : Bool) (a0_12 : Int) (h_ : F6 a0_1 a0_2 a0_3 a0_4 a0_5 a0_6 a0_7 a0_8 a0_9 a0_10 a0_11 a0_12 = some true) : ev EE (.call 6 [.ag [.ls false (r_Code false a0_1), .ls false (strs a0_2), .ls false (ints a0_3), .sc (.int .i64 a0_4), .ls false (ints a0_5), .ls false (ints a0_6), .sc (.int .i64 a0_7), .ls false (r_Step a0_8), .ls false (ints a0_9), .ls false (strs a0_10), .sc (.bool a0_11), .sc (.int .i64 a0_12)]] []) = some (.val (.sc (.bool true)) []) := by
  rw [ev_eq]
  simp only [F6] at h_
  obtain ⟨r20, h1_, h_⟩ := bS_some h_
  have h1_f := F23_ok a0_1 a0_2 a0_3 a0_4 a0_5 a0_6 a0_7 a0_8 a0_9 a0_10 a0_11 a0_12 1048576 _ h1_
  try simp [F23_ans] at h1_f
  by_cases h2_ : r20 < 0
  · rw [if_pos h2_] at h_
    cases h_
    simp (maxSteps := 2000000) (decide := true) [-getElem?_pos, ir6, h1_f, h2_, F6_ans]
  · rw [if_neg h2_] at h_
    obtain ⟨⟨r51, r52, r53, r54, r55, r56, r57, r58, r59, r60, r61, r62⟩, h3_, h_⟩ := bS_some h_
    try dsimp only at h_
    have h3_f := F25_ok a0_1 a0_2 a0_3 a0_4 a0_5 a0_6 a0_7 a0_8 a0_9 a0_10 a0_11 a0_12 _ h3_
    try simp [F25_ans] at h3_f
    obtain ⟨r64, h4_, h_⟩ := bS_some h_
    have h4_f := F24_ok r51 r52 r53 r54 r55 r56 r57 r58 r59 r60 r61 r62 _ h4_
    try simp [F24_ans] at h4_f
    obtain ⟨r67, h5_, h_⟩ := bS_some h_
    have h5_f := F26_ok r51 r52 r53 r54 r55 r56 r57 r58 r59 r60 r61 r62 _ h5_
    try simp [F26_ans] at h5_f
    obtain ⟨r69, h6_, h_⟩ := bS_some h_
    have h6_f := F12_ok r67 r64 _ h6_
    try simp [F12_ans] at h6_f
    by_cases h7_ : r69 = true
    · rw [if_pos h7_] at h_
      obtain ⟨r89, h8_, h_⟩ := bS_some h_
      have h8_f := F27_ok r51 r52 r53 r54 r55 r56 r57 r58 r59 r60 r61 r62 r51 r52 r53 r54 r55 r56 r57 r58 r59 r60 r61 r62 _ h8_
      try simp [F27_ans] at h8_f
      by_cases h9_ : r89 = true
      · rw [if_pos h9_] at h_
        obtain ⟨⟨r130, r131, r132, r133, r134, r135, r136, r137, r138, r139, r140, r141, r142⟩, h10_, h_⟩ := bS_some h_
        try dsimp only at h_
        have h10_f := F28_ok r51 r52 r53 r54 r55 r56 r57 r58 r59 r60 r61 r62 1 _ h10_
        try simp [F28_ans] at h10_f
        by_cases h11_ : r131.length = r51.length
        · rw [if_pos h11_] at h_
          have h11_t : List.take r51.length r131 = r131 := List.take_of_length_le (Nat.le_of_eq h11_)
          by_cases h13_ : r132.length = r52.length
          · rw [if_pos h13_] at h_
            have h13_t : List.take r52.length r132 = r132 := List.take_of_length_le (Nat.le_of_eq h13_)
            by_cases h15_ : r133.length = r53.length
            · rw [if_pos h15_] at h_
              have h15_t : List.take r53.length r133 = r133 := List.take_of_length_le (Nat.le_of_eq h15_)
              by_cases h17_ : r135.length = r55.length
              · rw [if_pos h17_] at h_
                have h17_t : List.take r55.length r135 = r135 := List.take_of_length_le (Nat.le_of_eq h17_)
                by_cases h19_ : r136.length = r56.length
                · rw [if_pos h19_] at h_
                  have h19_t : List.take r56.length r136 = r136 := List.take_of_length_le (Nat.le_of_eq h19_)
                  by_cases h21_ : r138.length = r58.length
                  · rw [if_pos h21_] at h_
                    have h21_t : List.take r58.length r138 = r138 := List.take_of_length_le (Nat.le_of_eq h21_)
                    by_cases h23_ : r139.length = r59.length
                    · rw [if_pos h23_] at h_
                      have h23_t : List.take r59.length r139 = r139 := List.take_of_length_le (Nat.le_of_eq h23_)
                      by_cases h25_ : r140.length = r60.length
                      · rw [if_pos h25_] at h_
                        have h25_t : List.take r60.length r140 = r140 := List.take_of_length_le (Nat.le_of_eq h25_)
                        by_cases h27_ : r130 < 0
                        · rw [if_pos h27_] at h_
                          cases h_
                        · rw [if_neg h27_] at h_
                          obtain ⟨⟨r143, r144⟩, h28_, h_⟩ := bS_some h_
                          try dsimp only at h_
                          have h28_f := F15_ok r67 1 _ h28_
                          try simp [F15_ans, h11_, h11_t, h13_, h13_t, h15_, h15_t, h17_, h17_t, h19_, h19_t, h21_, h21_t, h23_, h23_t, h25_, h25_t] at h28_f
                          by_cases h29_ : r144.length = r67.length
                          · rw [if_pos h29_] at h_
                            have h29_t : List.take r67.length r144 = r144 := List.take_of_length_le (Nat.le_of_eq h29_)
                            obtain ⟨r148, h31_, h_⟩ := bS_some h_
                            have h31_f := F16_ok r144 1 _ h31_
                            try simp [F16_ans, h11_, h11_t, h13_, h13_t, h15_, h15_t, h17_, h17_t, h19_, h19_t, h21_, h21_t, h23_, h23_t, h25_, h25_t, h29_, h29_t] at h31_f
                            by_cases h32_ : r148 < 0
                            · rw [if_pos h32_] at h_
                              cases h_
                            · rw [if_neg h32_] at h_
                              by_cases h33_ : r148 = r143
                              · rw [if_pos h33_] at h_
                                cases h_
                                subst h33_
                                simp (maxSteps := 2000000) (decide := true) [-getElem?_pos, ir6, h1_f, h2_, h3_f, h4_f, h5_f, h6_f, h7_, h8_f, h9_, h10_f, h11_, h11_t, h13_, h13_t, h15_, h15_t, h17_, h17_t, h19_, h19_t, h21_, h21_t, h23_, h23_t, h25_, h25_t, h27_, h28_f, h29_, h29_t, h31_f, h32_, F6_ans]
                              · rw [if_neg h33_] at h_
                                cases h_
                          · rw [if_neg h29_] at h_
                            cases h_
                      · rw [if_neg h25_] at h_
                        cases h_
                    · rw [if_neg h23_] at h_
                      cases h_
                  · rw [if_neg h21_] at h_
                    cases h_
                · rw [if_neg h19_] at h_
                  cases h_
              · rw [if_neg h17_] at h_
                cases h_
            · rw [if_neg h15_] at h_
              cases h_
          · rw [if_neg h13_] at h_
            cases h_
        · rw [if_neg h11_] at h_
          cases h_
      · rw [if_neg h9_] at h_
        cases h_
    · rw [if_neg h7_] at h_
      cases h_
end Go.Pv
