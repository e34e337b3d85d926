/- Proof: what the law FnExactTold evaluates to. No condition. -/
import Derived.Test.YthddchcckpmgoaaGaC
set_option autoImplicit true
set_option relaxedAutoImplicit true
set_option linter.unusedSimpArgs false
set_option linter.unusedVariables false
namespace Go.Pv
set_option maxRecDepth 100000
set_option maxHeartbeats 40000000
set_option linter.unusedSimpArgs false
set_option linter.unusedVariables false
theorem F7_true (a0_157 : List T_Code) (a0_158 : List ByteArray) (a0_159 : List Int) (a0_160 : Int) (a0_161 : List Int) (a0_162 : List Int) (a0_163 : Int) (a0_164 : List T_Step) (a0_165 : List Int) (a0_166 : List ByteArray) (a0_167 : Bool) (a0_168 : Int) (h_ : F7 a0_157 a0_158 a0_159 a0_160 a0_161 a0_162 a0_163 a0_164 a0_165 a0_166 a0_167 a0_168 = some true) : ev EE (.call 7 [.ag [.ls false (r_Code false a0_157), .ls false (strs a0_158), .ls false (ints a0_159), .sc (.int .i64 a0_160), .ls false (ints a0_161), .ls false (ints a0_162), .sc (.int .i64 a0_163), .ls false (r_Step a0_164), .ls false (ints a0_165), .ls false (strs a0_166), .sc (.bool a0_167), .sc (.int .i64 a0_168)]] []) = some (.val (.sc (.bool true)) []) := by
  rw [ev_eq]
  simp only [F7] at h_
  obtain ⟨r149, h1_, h_⟩ := bS_some h_
  have h1_f := F23_ok a0_157 a0_158 a0_159 a0_160 a0_161 a0_162 a0_163 a0_164 a0_165 a0_166 a0_167 a0_168 1048576 _ h1_
  try simp [F23_ans] at h1_f
  by_cases h2_ : r149 < 0
  · rw [if_pos h2_] at h_
    cases h_
    simp (maxSteps := 2000000) (decide := true) [-getElem?_pos, ir7, h1_f, h2_, F7_ans]
  · rw [if_neg h2_] at h_
    obtain ⟨⟨r150, r151, r152, r153, r154, r155, r156, r157, r158, r159, r160, r161⟩, h3_, h_⟩ := bS_some h_
    try dsimp only at h_
    have h3_f := F25_ok a0_157 a0_158 a0_159 a0_160 a0_161 a0_162 a0_163 a0_164 a0_165 a0_166 a0_167 a0_168 _ h3_
    try simp [F25_ans] at h3_f
    obtain ⟨⟨r162, r163⟩, h4_, h_⟩ := bS_some h_
    try dsimp only at h_
    have h4_f := F29_ok r150 r151 r152 r153 r154 r155 r156 r157 r158 r159 r160 r161 _ h4_
    try simp [F29_ans] at h4_f
    obtain ⟨⟨r164, r165⟩, h5_, h_⟩ := bS_some h_
    try dsimp only at h_
    have h5_f := F30_ok r150 r151 r152 r153 r154 r155 r156 r157 r158 r159 r160 r161 _ h5_
    try simp [F30_ans] at h5_f
    obtain ⟨r167, h6_, h_⟩ := bS_some h_
    have h6_f := F31_ok r164 r165 r162 r163 _ h6_
    try simp [F31_ans] at h6_f
    by_cases h7_ : r167 = true
    · rw [if_pos h7_] at h_
      obtain ⟨r168, h8_, h_⟩ := bS_some h_
      have h8_f := F27_ok r150 r151 r152 r153 r154 r155 r156 r157 r158 r159 r160 r161 r150 r151 r152 r153 r154 r155 r156 r157 r158 r159 r160 r161 _ h8_
      try simp [F27_ans] at h8_f
      by_cases h9_ : r168 = true
      · rw [if_pos h9_] at h_
        obtain ⟨⟨r169, r170, r171, r172, r173, r174, r175, r176, r177, r178, r179, r180, r181⟩, h10_, h_⟩ := bS_some h_
        try dsimp only at h_
        have h10_f := F28_ok r150 r151 r152 r153 r154 r155 r156 r157 r158 r159 r160 r161 1 _ h10_
        try simp [F28_ans] at h10_f
        by_cases h11_ : r170.length = r150.length
        · rw [if_pos h11_] at h_
          have h11_t : List.take r150.length r170 = r170 := List.take_of_length_le (Nat.le_of_eq h11_)
          by_cases h13_ : r171.length = r151.length
          · rw [if_pos h13_] at h_
            have h13_t : List.take r151.length r171 = r171 := List.take_of_length_le (Nat.le_of_eq h13_)
            by_cases h15_ : r172.length = r152.length
            · rw [if_pos h15_] at h_
              have h15_t : List.take r152.length r172 = r172 := List.take_of_length_le (Nat.le_of_eq h15_)
              by_cases h17_ : r174.length = r154.length
              · rw [if_pos h17_] at h_
                have h17_t : List.take r154.length r174 = r174 := List.take_of_length_le (Nat.le_of_eq h17_)
                by_cases h19_ : r175.length = r155.length
                · rw [if_pos h19_] at h_
                  have h19_t : List.take r155.length r175 = r175 := List.take_of_length_le (Nat.le_of_eq h19_)
                  by_cases h21_ : r177.length = r157.length
                  · rw [if_pos h21_] at h_
                    have h21_t : List.take r157.length r177 = r177 := List.take_of_length_le (Nat.le_of_eq h21_)
                    by_cases h23_ : r178.length = r158.length
                    · rw [if_pos h23_] at h_
                      have h23_t : List.take r158.length r178 = r178 := List.take_of_length_le (Nat.le_of_eq h23_)
                      by_cases h25_ : r179.length = r159.length
                      · rw [if_pos h25_] at h_
                        have h25_t : List.take r159.length r179 = r179 := List.take_of_length_le (Nat.le_of_eq h25_)
                        by_cases h27_ : r169 < 0
                        · rw [if_pos h27_] at h_
                          cases h_
                        · rw [if_neg h27_] at h_
                          obtain ⟨⟨r184, r185, r186⟩, h28_, h_⟩ := bS_some h_
                          try dsimp only at h_
                          have h28_f := F32_ok r164 r165 1 _ h28_
                          try simp [F32_ans, h11_, h11_t, h13_, h13_t, h15_, h15_t, h17_, h17_t, h19_, h19_t, h21_, h21_t, h23_, h23_t, h25_, h25_t] at h28_f
                          by_cases h29_ : r186.length = r165.length
                          · rw [if_pos h29_] at h_
                            have h29_t : List.take r165.length r186 = r186 := List.take_of_length_le (Nat.le_of_eq h29_)
                            obtain ⟨r192, h31_, h_⟩ := bS_some h_
                            have h31_f := F33_ok r164 r186 1 _ h31_
                            try simp [F33_ans, h11_, h11_t, h13_, h13_t, h15_, h15_t, h17_, h17_t, h19_, h19_t, h21_, h21_t, h23_, h23_t, h25_, h25_t, h29_, h29_t] at h31_f
                            by_cases h32_ : r192 < 0
                            · rw [if_pos h32_] at h_
                              cases h_
                            · rw [if_neg h32_] at h_
                              by_cases h33_ : r192 = r184
                              · rw [if_pos h33_] at h_
                                cases h_
                                subst h33_
                                simp (maxSteps := 2000000) (decide := true) [-getElem?_pos, ir7, h1_f, h2_, h3_f, h4_f, h5_f, h6_f, h7_, h8_f, h9_, h10_f, h11_, h11_t, h13_, h13_t, h15_, h15_t, h17_, h17_t, h19_, h19_t, h21_, h21_t, h23_, h23_t, h25_, h25_t, h27_, h28_f, h29_, h29_t, h31_f, h32_, F7_ans]
                              · rw [if_neg h33_] at h_
                                cases h_
                          · rw [if_neg h29_] at h_
                            cases h_
                      · rw [if_neg h25_] at h_
                        cases h_
                    · rw [if_neg h23_] at h_
                      cases h_
                  · rw [if_neg h21_] at h_
                    cases h_
                · rw [if_neg h19_] at h_
                  cases h_
              · rw [if_neg h17_] at h_
                cases h_
            · rw [if_neg h15_] at h_
              cases h_
          · rw [if_neg h13_] at h_
            cases h_
        · rw [if_neg h11_] at h_
          cases h_
      · rw [if_neg h9_] at h_
        cases h_
    · rw [if_neg h7_] at h_
      cases h_
end Go.Pv
