/- Proof: the small steps are the program's. No condition. -/
import Derived.Test.YthddchcckpmgoaaDoorIm
import Derived.Test.YthddchcckpmgoaaDoorPvF
import Derived.Test.YthddchcckpmgoaaDoorProg
set_option autoImplicit true
set_option relaxedAutoImplicit true
set_option linter.unusedSimpArgs false
set_option linter.unusedVariables false
set_option maxRecDepth 100000
namespace Go.Pv
theorem irok5 : irOf Go.Proofs.Tryd.prog [] [] 5 = some ir5 := by kernel_rfl
theorem irok6 : irOf Go.Proofs.Tryd.prog [] [] 6 = some ir6 := by kernel_rfl
theorem irok8 : irOf Go.Proofs.Tryd.prog [] [] 8 = some ir8 := by kernel_rfl
theorem irok11 : irOf Go.Proofs.Tryd.prog [] [] 11 = some ir11 := by kernel_rfl
theorem irok12 : irOf Go.Proofs.Tryd.prog [0] [] 12 = some ir12 := by kernel_rfl
theorem irok15 : irOf Go.Proofs.Tryd.prog [] [] 15 = some ir15 := by kernel_rfl
theorem irok16 : irOf Go.Proofs.Tryd.prog [] [] 16 = some ir16 := by kernel_rfl
theorem irok17 : irOf Go.Proofs.Tryd.prog [] [] 17 = some ir17 := by kernel_rfl
theorem irok18 : irOf Go.Proofs.Tryd.prog [] [] 18 = some ir18 := by kernel_rfl
theorem irok19 : irOf Go.Proofs.Tryd.prog [] [] 19 = some ir19 := by kernel_rfl
theorem irok20 : irOf Go.Proofs.Tryd.prog [0] [38] 20 = some ir20 := by kernel_rfl
theorem irok21 : irOf Go.Proofs.Tryd.prog [] [] 21 = some ir21 := by kernel_rfl
theorem irok22 : irOf Go.Proofs.Tryd.prog [] [] 22 = some ir22 := by kernel_rfl
theorem irok25 : irOf Go.Proofs.Tryd.prog [] [] 25 = some ir25 := by kernel_rfl
theorem irok27 : irOf Go.Proofs.Tryd.prog [] [] 27 = some ir27 := by kernel_rfl
theorem irok28 : irOf Go.Proofs.Tryd.prog [] [] 28 = some ir28 := by kernel_rfl
theorem irok31 : irOf Go.Proofs.Tryd.prog [] [] 31 = some ir31 := by kernel_rfl
theorem irok32 : irOf Go.Proofs.Tryd.prog [] [] 32 = some ir32 := by kernel_rfl
theorem irok33 : irOf Go.Proofs.Tryd.prog [] [] 33 = some ir33 := by kernel_rfl
theorem irok34 : irOf Go.Proofs.Tryd.prog [] [] 34 = some ir34 := by kernel_rfl
theorem irok35 : irOf Go.Proofs.Tryd.prog [] [] 35 = some ir35 := by kernel_rfl
theorem irok36 : irOf Go.Proofs.Tryd.prog [] [] 36 = some ir36 := by kernel_rfl
theorem irok37 : irOf Go.Proofs.Tryd.prog [] [] 37 = some ir37 := by kernel_rfl
theorem irok38 : irOf Go.Proofs.Tryd.prog [] [] 38 = some ir38 := by kernel_rfl
theorem irok39 : irOf Go.Proofs.Tryd.prog [] [] 39 = some ir39 := by kernel_rfl
theorem irok40 : irOf Go.Proofs.Tryd.prog [] [] 40 = some ir40 := by kernel_rfl
theorem irok41 : irOf Go.Proofs.Tryd.prog [] [] 41 = some ir41 := by kernel_rfl
theorem irok44 : irOf Go.Proofs.Tryd.prog [] [] 44 = some ir44 := by kernel_rfl
theorem irok46 : irOf Go.Proofs.Tryd.prog [] [] 46 = some ir46 := by kernel_rfl
theorem irok47 : irOf Go.Proofs.Tryd.prog [] [] 47 = some ir47 := by kernel_rfl
theorem irok48 : irOf Go.Proofs.Tryd.prog [] [] 48 = some ir48 := by kernel_rfl
theorem irok49 : irOf Go.Proofs.Tryd.prog [] [] 49 = some ir49 := by kernel_rfl
theorem irok50 : irOf Go.Proofs.Tryd.prog [] [] 50 = some ir50 := by kernel_rfl
theorem irok51 : irOf Go.Proofs.Tryd.prog [] [] 51 = some ir51 := by kernel_rfl
theorem irok52 : irOf Go.Proofs.Tryd.prog [] [] 52 = some ir52 := by kernel_rfl
theorem irok53 : irOf Go.Proofs.Tryd.prog [] [] 53 = some ir53 := by kernel_rfl
theorem irok54 : irOf Go.Proofs.Tryd.prog [] [] 54 = some ir54 := by kernel_rfl
theorem irok55 : irOf Go.Proofs.Tryd.prog [] [] 55 = some ir55 := by kernel_rfl
theorem irok57 : irOf Go.Proofs.Tryd.prog [] [] 57 = some ir57 := by kernel_rfl
theorem irok58 : irOf Go.Proofs.Tryd.prog [] [] 58 = some ir58 := by kernel_rfl
theorem irok59 : irOf Go.Proofs.Tryd.prog [] [] 59 = some ir59 := by kernel_rfl
theorem irok60 : irOf Go.Proofs.Tryd.prog [] [] 60 = some ir60 := by kernel_rfl
theorem irok61 : irOf Go.Proofs.Tryd.prog [] [] 61 = some ir61 := by kernel_rfl
theorem irok62 : irOf Go.Proofs.Tryd.prog [] [] 62 = some ir62 := by kernel_rfl
theorem irok63 : irOf Go.Proofs.Tryd.prog [] [] 63 = some ir63 := by kernel_rfl
theorem irok64 : irOf Go.Proofs.Tryd.prog [] [] 64 = some ir64 := by kernel_rfl
theorem irok65 : irOf Go.Proofs.Tryd.prog [] [] 65 = some ir65 := by kernel_rfl
theorem irok66 : irOf Go.Proofs.Tryd.prog [] [] 66 = some ir66 := by kernel_rfl
theorem irok67 : irOf Go.Proofs.Tryd.prog [] [] 67 = some ir67 := by kernel_rfl
theorem irok68 : irOf Go.Proofs.Tryd.prog [] [] 68 = some ir68 := by kernel_rfl
theorem irok69 : irOf Go.Proofs.Tryd.prog [] [] 69 = some ir69 := by kernel_rfl
theorem irok70 : irOf Go.Proofs.Tryd.prog [] [] 70 = some ir70 := by kernel_rfl
theorem irok71 : irOf Go.Proofs.Tryd.prog [] [] 71 = some ir71 := by kernel_rfl
theorem irok72 : irOf Go.Proofs.Tryd.prog [] [] 72 = some ir72 := by kernel_rfl
theorem irok73 : irOf Go.Proofs.Tryd.prog [] [] 73 = some ir73 := by kernel_rfl
theorem irok77 : irOf Go.Proofs.Tryd.prog [] [] 77 = some ir77 := by kernel_rfl
theorem irok78 : irOf Go.Proofs.Tryd.prog [] [] 78 = some ir78 := by kernel_rfl
theorem irok79 : irOf Go.Proofs.Tryd.prog [] [] 79 = some ir79 := by kernel_rfl
theorem irok80 : irOf Go.Proofs.Tryd.prog [] [] 80 = some ir80 := by kernel_rfl
theorem irok85 : irOf Go.Proofs.Tryd.prog [] [] 85 = some ir85 := by kernel_rfl
theorem irok86 : irOf Go.Proofs.Tryd.prog [] [] 86 = some ir86 := by kernel_rfl
theorem irok87 : irOf Go.Proofs.Tryd.prog [] [] 87 = some ir87 := by kernel_rfl
theorem irok88 : irOf Go.Proofs.Tryd.prog [] [] 88 = some ir88 := by kernel_rfl
theorem irok89 : irOf Go.Proofs.Tryd.prog [] [] 89 = some ir89 := by kernel_rfl
theorem irok90 : irOf Go.Proofs.Tryd.prog [] [] 90 = some ir90 := by kernel_rfl
theorem irok91 : irOf Go.Proofs.Tryd.prog [] [] 91 = some ir91 := by kernel_rfl
theorem irok92 : irOf Go.Proofs.Tryd.prog [] [] 92 = some ir92 := by kernel_rfl
theorem irok93 : irOf Go.Proofs.Tryd.prog [] [] 93 = some ir93 := by kernel_rfl
theorem irok99 : irOf Go.Proofs.Tryd.prog [] [] 99 = some ir99 := by kernel_rfl
theorem hE : ∀ f F, EE.fn f = some F → irOf Go.Proofs.Tryd.prog F.lent F.tk f = some F := by
  intro f F h
  have h' : EEfn f = some F := h
  unfold EEfn at h'
  split at h'
  · injection h' with h'; subst h'; exact irok5
  · injection h' with h'; subst h'; exact irok6
  · injection h' with h'; subst h'; exact irok8
  · injection h' with h'; subst h'; exact irok11
  · injection h' with h'; subst h'; exact irok12
  · injection h' with h'; subst h'; exact irok15
  · injection h' with h'; subst h'; exact irok16
  · injection h' with h'; subst h'; exact irok17
  · injection h' with h'; subst h'; exact irok18
  · injection h' with h'; subst h'; exact irok19
  · injection h' with h'; subst h'; exact irok20
  · injection h' with h'; subst h'; exact irok21
  · injection h' with h'; subst h'; exact irok22
  · injection h' with h'; subst h'; exact irok25
  · injection h' with h'; subst h'; exact irok27
  · injection h' with h'; subst h'; exact irok28
  · injection h' with h'; subst h'; exact irok31
  · injection h' with h'; subst h'; exact irok32
  · injection h' with h'; subst h'; exact irok33
  · injection h' with h'; subst h'; exact irok34
  · injection h' with h'; subst h'; exact irok35
  · injection h' with h'; subst h'; exact irok36
  · injection h' with h'; subst h'; exact irok37
  · injection h' with h'; subst h'; exact irok38
  · injection h' with h'; subst h'; exact irok39
  · injection h' with h'; subst h'; exact irok40
  · injection h' with h'; subst h'; exact irok41
  · injection h' with h'; subst h'; exact irok44
  · injection h' with h'; subst h'; exact irok46
  · injection h' with h'; subst h'; exact irok47
  · injection h' with h'; subst h'; exact irok48
  · injection h' with h'; subst h'; exact irok49
  · injection h' with h'; subst h'; exact irok50
  · injection h' with h'; subst h'; exact irok51
  · injection h' with h'; subst h'; exact irok52
  · injection h' with h'; subst h'; exact irok53
  · injection h' with h'; subst h'; exact irok54
  · injection h' with h'; subst h'; exact irok55
  · injection h' with h'; subst h'; exact irok57
  · injection h' with h'; subst h'; exact irok58
  · injection h' with h'; subst h'; exact irok59
  · injection h' with h'; subst h'; exact irok60
  · injection h' with h'; subst h'; exact irok61
  · injection h' with h'; subst h'; exact irok62
  · injection h' with h'; subst h'; exact irok63
  · injection h' with h'; subst h'; exact irok64
  · injection h' with h'; subst h'; exact irok65
  · injection h' with h'; subst h'; exact irok66
  · injection h' with h'; subst h'; exact irok67
  · injection h' with h'; subst h'; exact irok68
  · injection h' with h'; subst h'; exact irok69
  · injection h' with h'; subst h'; exact irok70
  · injection h' with h'; subst h'; exact irok71
  · injection h' with h'; subst h'; exact irok72
  · injection h' with h'; subst h'; exact irok73
  · injection h' with h'; subst h'; exact irok77
  · injection h' with h'; subst h'; exact irok78
  · injection h' with h'; subst h'; exact irok79
  · injection h' with h'; subst h'; exact irok80
  · injection h' with h'; subst h'; exact irok85
  · injection h' with h'; subst h'; exact irok86
  · injection h' with h'; subst h'; exact irok87
  · injection h' with h'; subst h'; exact irok88
  · injection h' with h'; subst h'; exact irok89
  · injection h' with h'; subst h'; exact irok90
  · injection h' with h'; subst h'; exact irok91
  · injection h' with h'; subst h'; exact irok92
  · injection h' with h'; subst h'; exact irok93
  · injection h' with h'; subst h'; exact irok99
  · cases h'
end Go.Pv
