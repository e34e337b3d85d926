/- Proof: what the law FnTrees evaluates to. No condition. -/
import Derived.Test.YtaadneenebhnoaaGtC
set_option autoImplicit true
set_option relaxedAutoImplicit true
set_option linter.unusedSimpArgs false
set_option linter.unusedVariables false
namespace Go.Pv
set_option maxRecDepth 100000
set_option maxHeartbeats 40000000
set_option linter.unusedSimpArgs false
set_option linter.unusedVariables false
theorem Fw_FnTrees_true (a0_1 : List Int) (h_ : Fw_FnTrees a0_1 = some true) : ev EE (.call 3 [.ls false (byi a0_1)] []) = some (.val (.sc (.bool true)) []) := by
  rw [ev_eq]
  simp only [Fw_FnTrees] at h_
  obtain ⟨r1, h1_, h_⟩ := bS_some h_
  have h1_f := Fw_big_ok a0_1 _ h1_
  try simp [Fw_big_ans] at h1_f
  rcases bI h_ with ⟨h2_, h_⟩ | ⟨h2_, h_⟩
  · cases h_
    simp +decide [-getElem?_pos, ir3, h1_f, h2_, Fw_FnTrees_ans]
  obtain ⟨⟨r646, r647, r648, r649⟩, h3_, h_⟩ := bS_some h_
  try dsimp only at h_
  have h3_f := Fs_DrawSize_ok a0_1 _ h3_
  try simp [Fs_DrawSize_ans] at h3_f
  obtain ⟨⟨r656, r657⟩, h4_, h_⟩ := bS_some h_
  try dsimp only at h_
  have h4_f := Lw_FnTrees_0_ok FU a0_1 1 0 0 r646 r647 r648 r649 _ h4_
  try simp [Lw_FnTrees_0_ans] at h4_f
  obtain ⟨⟨r667, r668, r669, r670⟩, h5_, h_⟩ := bS_some h_
  try dsimp only at h_
  have h5_f := Fs_DrawDeep_ok a0_1 _ h5_
  try simp [Fs_DrawDeep_ans] at h5_f
  obtain ⟨r671, h6_, h_⟩ := bS_some h_
  have h6_f := Fi_Size_ok r646 r647 r648 r649 _ h6_
  try simp [Fi_Size_ans] at h6_f
  rcases bI h_ with ⟨h7_, h_⟩ | ⟨h7_, h_⟩
  · obtain ⟨r672, h8_, h_⟩ := bS_some h_
    have h8_f := Fi_Deep_ok r646 r647 r648 r649 _ h8_
    try simp [Fi_Deep_ans] at h8_f
    rcases bI h_ with ⟨h9_, h_⟩ | ⟨h9_, h_⟩
    · obtain ⟨r673, h10_, h_⟩ := bS_some h_
      have h10_f := Fi_Deep_ok r667 r668 r669 r670 _ h10_
      try simp [Fi_Deep_ans] at h10_f
      obtain ⟨r674, h11_, h_⟩ := bS_some h_
      have h11_f := Fs_Deep_ok r667 r668 r669 r670 _ h11_
      try simp [Fs_Deep_ans] at h11_f
      rcases bI h_ with ⟨h12_, h_⟩ | ⟨h12_, h_⟩
      · obtain ⟨r675, h13_, h_⟩ := bS_some h_
        have h13_f := Fi_Size_ok r667 r668 r669 r670 _ h13_
        try simp [Fi_Size_ans] at h13_f
        obtain ⟨r676, h14_, h_⟩ := bS_some h_
        have h14_f := Fs_Size_ok r667 r668 r669 r670 _ h14_
        try simp [Fs_Size_ans] at h14_f
        have hT_ := Option.some.inj h_; simp at hT_
        simp +decide [-getElem?_pos, ir3, h1_f, h2_, h3_f, h4_f, h5_f, h6_f, eq_true h7_, h8_f, eq_true h9_, h10_f, h11_f, eq_true h12_, h13_f, h14_f, hT_]
      cases h_
    cases h_
  cases h_
end Go.Pv
