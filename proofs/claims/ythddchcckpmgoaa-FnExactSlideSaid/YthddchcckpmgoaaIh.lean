/- Proof: the small steps are those of the program. No condition. -/
import Derived.Test.YthddchcckpmgoaaIm
import Derived.Test.YthddchcckpmgoaaProg
set_option autoImplicit true
set_option relaxedAutoImplicit true
set_option linter.unusedSimpArgs false
set_option linter.unusedVariables false
set_option maxRecDepth 100000
namespace Go.Pv
theorem irok8 : irOf Go.Proofs.Try.prog [] 8 = some ir8 := by kernel_rfl
theorem irok10 : irOf Go.Proofs.Try.prog [] 10 = some ir10 := by kernel_rfl
theorem irok13 : irOf Go.Proofs.Try.prog [] 13 = some ir13 := by kernel_rfl
theorem irok12 : irOf Go.Proofs.Try.prog [] 12 = some ir12 := by kernel_rfl
theorem irok20 : irOf Go.Proofs.Try.prog [] 20 = some ir20 := by kernel_rfl
theorem irok34 : irOf Go.Proofs.Try.prog [] 34 = some ir34 := by kernel_rfl
theorem irok36 : irOf Go.Proofs.Try.prog [] 36 = some ir36 := by kernel_rfl
theorem irok35 : irOf Go.Proofs.Try.prog [] 35 = some ir35 := by kernel_rfl
theorem irok70 : irOf Go.Proofs.Try.prog [] 70 = some ir70 := by kernel_rfl
theorem irok47 : irOf Go.Proofs.Try.prog [] 47 = some ir47 := by kernel_rfl
theorem irok37 : irOf Go.Proofs.Try.prog [] 37 = some ir37 := by kernel_rfl
theorem irok38 : irOf Go.Proofs.Try.prog [] 38 = some ir38 := by kernel_rfl
theorem irok71 : irOf Go.Proofs.Try.prog [] 71 = some ir71 := by kernel_rfl
theorem irok96 : irOf Go.Proofs.Try.prog [] 96 = some ir96 := by kernel_rfl
theorem irok97 : irOf Go.Proofs.Try.prog [] 97 = some ir97 := by kernel_rfl
theorem irok98 : irOf Go.Proofs.Try.prog [] 98 = some ir98 := by kernel_rfl
theorem irok99 : irOf Go.Proofs.Try.prog [] 99 = some ir99 := by kernel_rfl
theorem irok78 : irOf Go.Proofs.Try.prog [] 78 = some ir78 := by kernel_rfl
theorem irok108 : irOf Go.Proofs.Try.prog [] 108 = some ir108 := by kernel_rfl
theorem irok76 : irOf Go.Proofs.Try.prog [] 76 = some ir76 := by kernel_rfl
theorem irok77 : irOf Go.Proofs.Try.prog [] 77 = some ir77 := by kernel_rfl
theorem irok80 : irOf Go.Proofs.Try.prog [] 80 = some ir80 := by kernel_rfl
theorem irok95 : irOf Go.Proofs.Try.prog [] 95 = some ir95 := by kernel_rfl
theorem irok41 : irOf Go.Proofs.Try.prog [] 41 = some ir41 := by kernel_rfl
theorem irok42 : irOf Go.Proofs.Try.prog [] 42 = some ir42 := by kernel_rfl
theorem irok79 : irOf Go.Proofs.Try.prog [] 79 = some ir79 := by kernel_rfl
theorem irok17 : irOf Go.Proofs.Try.prog [] 17 = some ir17 := by kernel_rfl
theorem irok9 : irOf Go.Proofs.Try.prog [] 9 = some ir9 := by kernel_rfl
theorem irok43 : irOf Go.Proofs.Try.prog [] 43 = some ir43 := by kernel_rfl
theorem irok44 : irOf Go.Proofs.Try.prog [] 44 = some ir44 := by kernel_rfl
theorem irok45 : irOf Go.Proofs.Try.prog [] 45 = some ir45 := by kernel_rfl
theorem irok11 : irOf Go.Proofs.Try.prog [] 11 = some ir11 := by kernel_rfl
theorem irok39 : irOf Go.Proofs.Try.prog [] 39 = some ir39 := by kernel_rfl
theorem irok40 : irOf Go.Proofs.Try.prog [] 40 = some ir40 := by kernel_rfl
theorem irok72 : irOf Go.Proofs.Try.prog [] 72 = some ir72 := by kernel_rfl
theorem irok74 : irOf Go.Proofs.Try.prog [] 74 = some ir74 := by kernel_rfl
theorem irok75 : irOf Go.Proofs.Try.prog [] 75 = some ir75 := by kernel_rfl
theorem irok73 : irOf Go.Proofs.Try.prog [] 73 = some ir73 := by kernel_rfl
theorem irok101 : irOf Go.Proofs.Try.prog [] 101 = some ir101 := by kernel_rfl
theorem irok102 : irOf Go.Proofs.Try.prog [] 102 = some ir102 := by kernel_rfl
theorem irok103 : irOf Go.Proofs.Try.prog [] 103 = some ir103 := by kernel_rfl
theorem irok107 : irOf Go.Proofs.Try.prog [] 107 = some ir107 := by kernel_rfl
theorem irok104 : irOf Go.Proofs.Try.prog [] 104 = some ir104 := by kernel_rfl
theorem irok105 : irOf Go.Proofs.Try.prog [] 105 = some ir105 := by kernel_rfl
theorem irok106 : irOf Go.Proofs.Try.prog [] 106 = some ir106 := by kernel_rfl
theorem irok113 : irOf Go.Proofs.Try.prog [] 113 = some ir113 := by kernel_rfl
theorem irok81 : irOf Go.Proofs.Try.prog [] 81 = some ir81 := by kernel_rfl
theorem irok84 : irOf Go.Proofs.Try.prog [] 84 = some ir84 := by kernel_rfl
theorem irok82 : irOf Go.Proofs.Try.prog [] 82 = some ir82 := by kernel_rfl
theorem irok83 : irOf Go.Proofs.Try.prog [] 83 = some ir83 := by kernel_rfl
theorem irok100 : irOf Go.Proofs.Try.prog [] 100 = some ir100 := by kernel_rfl
theorem irok18 : irOf Go.Proofs.Try.prog [] 18 = some ir18 := by kernel_rfl
theorem irok14 : irOf Go.Proofs.Try.prog [0] 14 = some ir14 := by kernel_rfl
theorem irok15 : irOf Go.Proofs.Try.prog [0] 15 = some ir15 := by kernel_rfl
theorem irok16 : irOf Go.Proofs.Try.prog [] 16 = some ir16 := by kernel_rfl
theorem irok3 : irOf Go.Proofs.Try.prog [] 3 = some ir3 := by kernel_rfl
theorem irok4 : irOf Go.Proofs.Try.prog [] 4 = some ir4 := by kernel_rfl
theorem irok5 : irOf Go.Proofs.Try.prog [] 5 = some ir5 := by kernel_rfl
theorem irok19 : irOf Go.Proofs.Try.prog [] 19 = some ir19 := by kernel_rfl
theorem irok21 : irOf Go.Proofs.Try.prog [] 21 = some ir21 := by kernel_rfl
theorem irok22 : irOf Go.Proofs.Try.prog [] 22 = some ir22 := by kernel_rfl
theorem irok46 : irOf Go.Proofs.Try.prog [] 46 = some ir46 := by kernel_rfl
theorem irok48 : irOf Go.Proofs.Try.prog [] 48 = some ir48 := by kernel_rfl
theorem irok49 : irOf Go.Proofs.Try.prog [] 49 = some ir49 := by kernel_rfl
theorem irok50 : irOf Go.Proofs.Try.prog [] 50 = some ir50 := by kernel_rfl
theorem irok51 : irOf Go.Proofs.Try.prog [] 51 = some ir51 := by kernel_rfl
theorem irok85 : irOf Go.Proofs.Try.prog [] 85 = some ir85 := by kernel_rfl
theorem irok86 : irOf Go.Proofs.Try.prog [] 86 = some ir86 := by kernel_rfl
theorem irok87 : irOf Go.Proofs.Try.prog [] 87 = some ir87 := by kernel_rfl
theorem hE : ∀ f F, EE.fn f = some F → irOf Go.Proofs.Try.prog F.lent f = some F := by
  intro f F h
  have h' : EEfn f = some F := h
  unfold EEfn at h'
  split at h'
  · injection h' with h'; subst h'; exact irok8
  · injection h' with h'; subst h'; exact irok10
  · injection h' with h'; subst h'; exact irok13
  · injection h' with h'; subst h'; exact irok12
  · injection h' with h'; subst h'; exact irok20
  · injection h' with h'; subst h'; exact irok34
  · injection h' with h'; subst h'; exact irok36
  · injection h' with h'; subst h'; exact irok35
  · injection h' with h'; subst h'; exact irok70
  · injection h' with h'; subst h'; exact irok47
  · injection h' with h'; subst h'; exact irok37
  · injection h' with h'; subst h'; exact irok38
  · injection h' with h'; subst h'; exact irok71
  · injection h' with h'; subst h'; exact irok96
  · injection h' with h'; subst h'; exact irok97
  · injection h' with h'; subst h'; exact irok98
  · injection h' with h'; subst h'; exact irok99
  · injection h' with h'; subst h'; exact irok78
  · injection h' with h'; subst h'; exact irok108
  · injection h' with h'; subst h'; exact irok76
  · injection h' with h'; subst h'; exact irok77
  · injection h' with h'; subst h'; exact irok80
  · injection h' with h'; subst h'; exact irok95
  · injection h' with h'; subst h'; exact irok41
  · injection h' with h'; subst h'; exact irok42
  · injection h' with h'; subst h'; exact irok79
  · injection h' with h'; subst h'; exact irok17
  · injection h' with h'; subst h'; exact irok9
  · injection h' with h'; subst h'; exact irok43
  · injection h' with h'; subst h'; exact irok44
  · injection h' with h'; subst h'; exact irok45
  · injection h' with h'; subst h'; exact irok11
  · injection h' with h'; subst h'; exact irok39
  · injection h' with h'; subst h'; exact irok40
  · injection h' with h'; subst h'; exact irok72
  · injection h' with h'; subst h'; exact irok74
  · injection h' with h'; subst h'; exact irok75
  · injection h' with h'; subst h'; exact irok73
  · injection h' with h'; subst h'; exact irok101
  · injection h' with h'; subst h'; exact irok102
  · injection h' with h'; subst h'; exact irok103
  · injection h' with h'; subst h'; exact irok107
  · injection h' with h'; subst h'; exact irok104
  · injection h' with h'; subst h'; exact irok105
  · injection h' with h'; subst h'; exact irok106
  · injection h' with h'; subst h'; exact irok113
  · injection h' with h'; subst h'; exact irok81
  · injection h' with h'; subst h'; exact irok84
  · injection h' with h'; subst h'; exact irok82
  · injection h' with h'; subst h'; exact irok83
  · injection h' with h'; subst h'; exact irok100
  · injection h' with h'; subst h'; exact irok18
  · injection h' with h'; subst h'; exact irok14
  · injection h' with h'; subst h'; exact irok15
  · injection h' with h'; subst h'; exact irok16
  · injection h' with h'; subst h'; exact irok3
  · injection h' with h'; subst h'; exact irok4
  · injection h' with h'; subst h'; exact irok5
  · injection h' with h'; subst h'; exact irok19
  · injection h' with h'; subst h'; exact irok21
  · injection h' with h'; subst h'; exact irok22
  · injection h' with h'; subst h'; exact irok46
  · injection h' with h'; subst h'; exact irok48
  · injection h' with h'; subst h'; exact irok49
  · injection h' with h'; subst h'; exact irok50
  · injection h' with h'; subst h'; exact irok51
  · injection h' with h'; subst h'; exact irok85
  · injection h' with h'; subst h'; exact irok86
  · injection h' with h'; subst h'; exact irok87
  · cases h'
end Go.Pv
