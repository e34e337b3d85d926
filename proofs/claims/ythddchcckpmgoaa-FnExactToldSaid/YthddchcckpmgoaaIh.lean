/- Proof: the small steps are the program's. No condition. -/
import Derived.Test.YthddchcckpmgoaaIm
import Derived.Test.YthddchcckpmgoaaPvF
import Derived.Test.YthddchcckpmgoaaProg
set_option autoImplicit true
set_option relaxedAutoImplicit true
set_option linter.unusedSimpArgs false
set_option linter.unusedVariables false
set_option maxRecDepth 100000
namespace Go.Pv
theorem irok6 : irOf Go.Proofs.Try.prog [] [] 6 = some ir6 := by kernel_rfl
theorem irok7 : irOf Go.Proofs.Try.prog [] [] 7 = some ir7 := by kernel_rfl
theorem irok8 : irOf Go.Proofs.Try.prog [] [] 8 = some ir8 := by kernel_rfl
theorem irok10 : irOf Go.Proofs.Try.prog [] [] 10 = some ir10 := by kernel_rfl
theorem irok12 : irOf Go.Proofs.Try.prog [] [] 12 = some ir12 := by kernel_rfl
theorem irok13 : irOf Go.Proofs.Try.prog [] [] 13 = some ir13 := by kernel_rfl
theorem irok14 : irOf Go.Proofs.Try.prog [0] [] 14 = some ir14 := by kernel_rfl
theorem irok15 : irOf Go.Proofs.Try.prog [0] [] 15 = some ir15 := by kernel_rfl
theorem irok16 : irOf Go.Proofs.Try.prog [] [] 16 = some ir16 := by kernel_rfl
theorem irok20 : irOf Go.Proofs.Try.prog [] [] 20 = some ir20 := by kernel_rfl
theorem irok23 : irOf Go.Proofs.Try.prog [] [] 23 = some ir23 := by kernel_rfl
theorem irok24 : irOf Go.Proofs.Try.prog [] [] 24 = some ir24 := by kernel_rfl
theorem irok25 : irOf Go.Proofs.Try.prog [] [] 25 = some ir25 := by kernel_rfl
theorem irok26 : irOf Go.Proofs.Try.prog [] [] 26 = some ir26 := by kernel_rfl
theorem irok27 : irOf Go.Proofs.Try.prog [] [] 27 = some ir27 := by kernel_rfl
theorem irok28 : irOf Go.Proofs.Try.prog [0] [] 28 = some ir28 := by kernel_rfl
theorem irok29 : irOf Go.Proofs.Try.prog [] [] 29 = some ir29 := by kernel_rfl
theorem irok30 : irOf Go.Proofs.Try.prog [] [] 30 = some ir30 := by kernel_rfl
theorem irok31 : irOf Go.Proofs.Try.prog [] [] 31 = some ir31 := by kernel_rfl
theorem irok32 : irOf Go.Proofs.Try.prog [0] [] 32 = some ir32 := by kernel_rfl
theorem irok33 : irOf Go.Proofs.Try.prog [] [] 33 = some ir33 := by kernel_rfl
theorem irok34 : irOf Go.Proofs.Try.prog [] [] 34 = some ir34 := by kernel_rfl
theorem irok52 : irOf Go.Proofs.Try.prog [] [] 52 = some ir52 := by kernel_rfl
theorem irok53 : irOf Go.Proofs.Try.prog [] [] 53 = some ir53 := by kernel_rfl
theorem irok54 : irOf Go.Proofs.Try.prog [] [] 54 = some ir54 := by kernel_rfl
theorem irok55 : irOf Go.Proofs.Try.prog [] [] 55 = some ir55 := by kernel_rfl
theorem irok56 : irOf Go.Proofs.Try.prog [] [] 56 = some ir56 := by kernel_rfl
theorem irok57 : irOf Go.Proofs.Try.prog [] [] 57 = some ir57 := by kernel_rfl
theorem irok58 : irOf Go.Proofs.Try.prog [] [] 58 = some ir58 := by kernel_rfl
theorem irok59 : irOf Go.Proofs.Try.prog [] [] 59 = some ir59 := by kernel_rfl
theorem irok60 : irOf Go.Proofs.Try.prog [] [] 60 = some ir60 := by kernel_rfl
theorem irok61 : irOf Go.Proofs.Try.prog [] [] 61 = some ir61 := by kernel_rfl
theorem irok62 : irOf Go.Proofs.Try.prog [] [] 62 = some ir62 := by kernel_rfl
theorem irok63 : irOf Go.Proofs.Try.prog [] [] 63 = some ir63 := by kernel_rfl
theorem irok64 : irOf Go.Proofs.Try.prog [] [] 64 = some ir64 := by kernel_rfl
theorem irok65 : irOf Go.Proofs.Try.prog [0] [] 65 = some ir65 := by kernel_rfl
theorem irok66 : irOf Go.Proofs.Try.prog [0] [] 66 = some ir66 := by kernel_rfl
theorem irok67 : irOf Go.Proofs.Try.prog [0] [] 67 = some ir67 := by kernel_rfl
theorem irok68 : irOf Go.Proofs.Try.prog [0] [] 68 = some ir68 := by kernel_rfl
theorem irok69 : irOf Go.Proofs.Try.prog [] [] 69 = some ir69 := by kernel_rfl
theorem irok88 : irOf Go.Proofs.Try.prog [] [] 88 = some ir88 := by kernel_rfl
theorem irok89 : irOf Go.Proofs.Try.prog [] [] 89 = some ir89 := by kernel_rfl
theorem irok90 : irOf Go.Proofs.Try.prog [] [] 90 = some ir90 := by kernel_rfl
theorem irok91 : irOf Go.Proofs.Try.prog [] [] 91 = some ir91 := by kernel_rfl
theorem irok92 : irOf Go.Proofs.Try.prog [] [] 92 = some ir92 := by kernel_rfl
theorem irok93 : irOf Go.Proofs.Try.prog [0] [30] 93 = some ir93 := by kernel_rfl
theorem irok94 : irOf Go.Proofs.Try.prog [] [] 94 = some ir94 := by kernel_rfl
theorem irok109 : irOf Go.Proofs.Try.prog [] [] 109 = some ir109 := by kernel_rfl
theorem irok110 : irOf Go.Proofs.Try.prog [] [] 110 = some ir110 := by kernel_rfl
theorem irok111 : irOf Go.Proofs.Try.prog [] [] 111 = some ir111 := by kernel_rfl
theorem irok112 : irOf Go.Proofs.Try.prog [0] [] 112 = some ir112 := by kernel_rfl
theorem irok114 : irOf Go.Proofs.Try.prog [] [] 114 = some ir114 := by kernel_rfl
theorem irok115 : irOf Go.Proofs.Try.prog [] [] 115 = some ir115 := by kernel_rfl
theorem irok116 : irOf Go.Proofs.Try.prog [] [] 116 = some ir116 := by kernel_rfl
theorem irok117 : irOf Go.Proofs.Try.prog [] [] 117 = some ir117 := by kernel_rfl
theorem irok118 : irOf Go.Proofs.Try.prog [] [] 118 = some ir118 := by kernel_rfl
theorem hE : ∀ f F, EE.fn f = some F → irOf Go.Proofs.Try.prog F.lent F.tk f = some F := by
  intro f F h
  have h' : EEfn f = some F := h
  unfold EEfn at h'
  split at h'
  · injection h' with h'; subst h'; exact irok6
  · injection h' with h'; subst h'; exact irok7
  · injection h' with h'; subst h'; exact irok8
  · injection h' with h'; subst h'; exact irok10
  · injection h' with h'; subst h'; exact irok12
  · injection h' with h'; subst h'; exact irok13
  · injection h' with h'; subst h'; exact irok14
  · injection h' with h'; subst h'; exact irok15
  · injection h' with h'; subst h'; exact irok16
  · injection h' with h'; subst h'; exact irok20
  · injection h' with h'; subst h'; exact irok23
  · injection h' with h'; subst h'; exact irok24
  · injection h' with h'; subst h'; exact irok25
  · injection h' with h'; subst h'; exact irok26
  · injection h' with h'; subst h'; exact irok27
  · injection h' with h'; subst h'; exact irok28
  · injection h' with h'; subst h'; exact irok29
  · injection h' with h'; subst h'; exact irok30
  · injection h' with h'; subst h'; exact irok31
  · injection h' with h'; subst h'; exact irok32
  · injection h' with h'; subst h'; exact irok33
  · injection h' with h'; subst h'; exact irok34
  · injection h' with h'; subst h'; exact irok52
  · injection h' with h'; subst h'; exact irok53
  · injection h' with h'; subst h'; exact irok54
  · injection h' with h'; subst h'; exact irok55
  · injection h' with h'; subst h'; exact irok56
  · injection h' with h'; subst h'; exact irok57
  · injection h' with h'; subst h'; exact irok58
  · injection h' with h'; subst h'; exact irok59
  · injection h' with h'; subst h'; exact irok60
  · injection h' with h'; subst h'; exact irok61
  · injection h' with h'; subst h'; exact irok62
  · injection h' with h'; subst h'; exact irok63
  · injection h' with h'; subst h'; exact irok64
  · injection h' with h'; subst h'; exact irok65
  · injection h' with h'; subst h'; exact irok66
  · injection h' with h'; subst h'; exact irok67
  · injection h' with h'; subst h'; exact irok68
  · injection h' with h'; subst h'; exact irok69
  · injection h' with h'; subst h'; exact irok88
  · injection h' with h'; subst h'; exact irok89
  · injection h' with h'; subst h'; exact irok90
  · injection h' with h'; subst h'; exact irok91
  · injection h' with h'; subst h'; exact irok92
  · injection h' with h'; subst h'; exact irok93
  · injection h' with h'; subst h'; exact irok94
  · injection h' with h'; subst h'; exact irok109
  · injection h' with h'; subst h'; exact irok110
  · injection h' with h'; subst h'; exact irok111
  · injection h' with h'; subst h'; exact irok112
  · injection h' with h'; subst h'; exact irok114
  · injection h' with h'; subst h'; exact irok115
  · injection h' with h'; subst h'; exact irok116
  · injection h' with h'; subst h'; exact irok117
  · injection h' with h'; subst h'; exact irok118
  · cases h'
theorem hLib : LibOk Go.Proofs.Try.prog EE := by
  intro f av cs v cs' _ h
  cases h
end Go.Pv
