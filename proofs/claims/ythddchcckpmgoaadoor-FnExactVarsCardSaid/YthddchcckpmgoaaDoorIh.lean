/- Proof: the small steps are the program's. No condition. -/
import Derived.Test.YthddchcckpmgoaaDoorIm
import Derived.Test.YthddchcckpmgoaaDoorPvF
import Derived.Test.YthddchcckpmgoaaDoorProg
set_option autoImplicit true
set_option relaxedAutoImplicit true
set_option linter.unusedSimpArgs false
set_option linter.unusedVariables false
set_option maxRecDepth 100000
namespace Go.Pv
theorem irok3 : irOf Go.Proofs.Tryd.prog [] [] 3 = some ir3 := by kernel_rfl
theorem irok6 : irOf Go.Proofs.Tryd.prog [] [] 6 = some ir6 := by kernel_rfl
theorem irok7 : irOf Go.Proofs.Tryd.prog [] [] 7 = some ir7 := by kernel_rfl
theorem irok8 : irOf Go.Proofs.Tryd.prog [] [] 8 = some ir8 := by kernel_rfl
theorem irok9 : irOf Go.Proofs.Tryd.prog [] [] 9 = some ir9 := by kernel_rfl
theorem irok10 : irOf Go.Proofs.Tryd.prog [] [] 10 = some ir10 := by kernel_rfl
theorem irok11 : irOf Go.Proofs.Tryd.prog [] [] 11 = some ir11 := by kernel_rfl
theorem irok12 : irOf Go.Proofs.Tryd.prog [0] [] 12 = some ir12 := by kernel_rfl
theorem irok13 : irOf Go.Proofs.Tryd.prog [0] [] 13 = some ir13 := by kernel_rfl
theorem irok14 : irOf Go.Proofs.Tryd.prog [] [] 14 = some ir14 := by kernel_rfl
theorem irok19 : irOf Go.Proofs.Tryd.prog [] [] 19 = some ir19 := by kernel_rfl
theorem irok20 : irOf Go.Proofs.Tryd.prog [0] [38] 20 = some ir20 := by kernel_rfl
theorem irok22 : irOf Go.Proofs.Tryd.prog [] [] 22 = some ir22 := by kernel_rfl
theorem irok23 : irOf Go.Proofs.Tryd.prog [] [] 23 = some ir23 := by kernel_rfl
theorem irok24 : irOf Go.Proofs.Tryd.prog [] [] 24 = some ir24 := by kernel_rfl
theorem irok25 : irOf Go.Proofs.Tryd.prog [] [] 25 = some ir25 := by kernel_rfl
theorem irok26 : irOf Go.Proofs.Tryd.prog [] [] 26 = some ir26 := by kernel_rfl
theorem irok27 : irOf Go.Proofs.Tryd.prog [] [] 27 = some ir27 := by kernel_rfl
theorem irok28 : irOf Go.Proofs.Tryd.prog [] [] 28 = some ir28 := by kernel_rfl
theorem irok29 : irOf Go.Proofs.Tryd.prog [] [] 29 = some ir29 := by kernel_rfl
theorem irok30 : irOf Go.Proofs.Tryd.prog [] [] 30 = some ir30 := by kernel_rfl
theorem irok31 : irOf Go.Proofs.Tryd.prog [] [] 31 = some ir31 := by kernel_rfl
theorem irok42 : irOf Go.Proofs.Tryd.prog [] [] 42 = some ir42 := by kernel_rfl
theorem irok43 : irOf Go.Proofs.Tryd.prog [] [] 43 = some ir43 := by kernel_rfl
theorem irok44 : irOf Go.Proofs.Tryd.prog [] [] 44 = some ir44 := by kernel_rfl
theorem hE : ∀ f F, EE.fn f = some F → irOf Go.Proofs.Tryd.prog F.lent F.tk f = some F := by
  intro f F h
  have h' : EEfn f = some F := h
  unfold EEfn at h'
  split at h'
  · injection h' with h'; subst h'; exact irok3
  · injection h' with h'; subst h'; exact irok6
  · injection h' with h'; subst h'; exact irok7
  · injection h' with h'; subst h'; exact irok8
  · injection h' with h'; subst h'; exact irok9
  · injection h' with h'; subst h'; exact irok10
  · injection h' with h'; subst h'; exact irok11
  · injection h' with h'; subst h'; exact irok12
  · injection h' with h'; subst h'; exact irok13
  · injection h' with h'; subst h'; exact irok14
  · injection h' with h'; subst h'; exact irok19
  · injection h' with h'; subst h'; exact irok20
  · injection h' with h'; subst h'; exact irok22
  · injection h' with h'; subst h'; exact irok23
  · injection h' with h'; subst h'; exact irok24
  · injection h' with h'; subst h'; exact irok25
  · injection h' with h'; subst h'; exact irok26
  · injection h' with h'; subst h'; exact irok27
  · injection h' with h'; subst h'; exact irok28
  · injection h' with h'; subst h'; exact irok29
  · injection h' with h'; subst h'; exact irok30
  · injection h' with h'; subst h'; exact irok31
  · injection h' with h'; subst h'; exact irok42
  · injection h' with h'; subst h'; exact irok43
  · injection h' with h'; subst h'; exact irok44
  · cases h'
end Go.Pv
