/- Proof: what the law FnExactWrite evaluates to. No condition. -/
import Derived.Test.YtaadneenebhnoaaGreatDoorGwD
set_option autoImplicit true
set_option relaxedAutoImplicit true
set_option linter.unusedSimpArgs false
set_option linter.unusedVariables false
namespace Go.Pv
set_option maxRecDepth 100000
set_option maxHeartbeats 40000000
set_option linter.unusedSimpArgs false
set_option linter.unusedVariables false
theorem zfx (a0_1 : Int) (a0_2 : ByteArray) (a0_3 : Int) (a0_4 : List T_Node) (h_ : zcH a0_1 a0_2 a0_3 a0_4 = some true) : ev EE (.call 3 [.ag [.sc (.int .i64 a0_1), .sc (.string a0_2), .sc (.int .i64 a0_3), .ls false (r_Node false a0_4)]] []) = some (.val (.sc (.bool true)) []) := by
 rw [zw]
 simp only [zcH] at h_
 obtain ⟨r6, h1_, h_⟩ := za h_
 have h1_f := zka a0_1 a0_2 a0_3 a0_4 1048576 _ h1_
 try simp [za0] at h1_f
 rcases bI h_ with ⟨h2_, h_⟩ | ⟨h2_, h_⟩
 ·cases h_
  simp +decide [-getElem?_pos, ir3, h1_f, h2_, zdL]
 obtain ⟨⟨r13, r14, r15, r16⟩, h3_, h_⟩ := za h_
 try dsimp only at h_
 have h3_f := zkb a0_1 a0_2 a0_3 a0_4 _ h3_
 try simp [zbH] at h3_f
 obtain ⟨r156, h4_, h_⟩ := za h_
 have h4_f := zla r13 r14 r15 r16 _ h4_
 try simp [zdO] at h4_f
 obtain ⟨r294, h5_, h_⟩ := za h_
 have h5_f := zlh r13 r14 r15 r16 _ h5_
 try simp [zdV] at h5_f
 rcases bI h_ with ⟨h6_, h_⟩ | ⟨h6_, h_⟩
 ·obtain ⟨r298, h7_, h_⟩ := za h_
  have h7_f := zks r13 r14 r15 r16 r13 r14 r15 r16 _ h7_
  try simp [zar] at h7_f
  rcases bI h_ with ⟨h8_, h_⟩ | ⟨h8_, h_⟩
  ·cases h_
   simp +decide [-getElem?_pos, ir3, h1_f, h2_, h3_f, h4_f, h5_f, eq_true h6_, h7_f, h8_, zdL]
  cases h_
 cases h_
end Go.Pv
