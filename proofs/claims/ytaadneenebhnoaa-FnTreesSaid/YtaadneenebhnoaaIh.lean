/- Proof: the small steps are the program's. No condition. -/
import Derived.Test.YtaadneenebhnoaaIm
import Derived.Test.YtaadneenebhnoaaPvF
import Derived.Test.YtaadneenebhnoaaProg
set_option autoImplicit true
set_option relaxedAutoImplicit true
set_option linter.unusedSimpArgs false
set_option linter.unusedVariables false
set_option maxRecDepth 100000
namespace Go.Pv
theorem irok3 : irOf Go.Proofs.Try.prog [] [] 3 = some ir3 := by kernel_rfl
theorem irok4 : irOf Go.Proofs.Try.prog [] [] 4 = some ir4 := by kernel_rfl
theorem irok5 : irOf Go.Proofs.Try.prog [] [] 5 = some ir5 := by kernel_rfl
theorem irok6 : irOf Go.Proofs.Try.prog [] [] 6 = some ir6 := by kernel_rfl
theorem irok7 : irOf Go.Proofs.Try.prog [] [] 7 = some ir7 := by kernel_rfl
theorem irok8 : irOf Go.Proofs.Try.prog [] [] 8 = some ir8 := by kernel_rfl
theorem irok9 : irOf Go.Proofs.Try.prog [] [] 9 = some ir9 := by kernel_rfl
theorem irok10 : irOf Go.Proofs.Try.prog [] [] 10 = some ir10 := by kernel_rfl
theorem irok11 : irOf Go.Proofs.Try.prog [] [56,72,1000012,1000095,2000062] 11 = some ir11 := by kernel_rfl
theorem irok12 : irOf Go.Proofs.Try.prog [] [] 12 = some ir12 := by kernel_rfl
theorem irok13 : irOf Go.Proofs.Try.prog [] [] 13 = some ir13 := by kernel_rfl
theorem irok14 : irOf Go.Proofs.Try.prog [] [] 14 = some ir14 := by kernel_rfl
theorem irok15 : irOf Go.Proofs.Try.prog [] [] 15 = some ir15 := by kernel_rfl
theorem irok16 : irOf Go.Proofs.Try.prog [] [] 16 = some ir16 := by kernel_rfl
theorem irok17 : irOf Go.Proofs.Try.prog [] [] 17 = some ir17 := by kernel_rfl
theorem irok18 : irOf Go.Proofs.Try.prog [] [] 18 = some ir18 := by kernel_rfl
theorem irok19 : irOf Go.Proofs.Try.prog [] [] 19 = some ir19 := by kernel_rfl
theorem irok20 : irOf Go.Proofs.Try.prog [] [] 20 = some ir20 := by kernel_rfl
theorem irok21 : irOf Go.Proofs.Try.prog [] [] 21 = some ir21 := by kernel_rfl
theorem irok22 : irOf Go.Proofs.Try.prog [] [] 22 = some ir22 := by kernel_rfl
theorem irok23 : irOf Go.Proofs.Try.prog [] [] 23 = some ir23 := by kernel_rfl
theorem irok24 : irOf Go.Proofs.Try.prog [] [] 24 = some ir24 := by kernel_rfl
theorem irok25 : irOf Go.Proofs.Try.prog [] [77] 25 = some ir25 := by kernel_rfl
theorem irok26 : irOf Go.Proofs.Try.prog [] [] 26 = some ir26 := by kernel_rfl
theorem irok27 : irOf Go.Proofs.Try.prog [] [] 27 = some ir27 := by kernel_rfl
theorem irok28 : irOf Go.Proofs.Try.prog [] [] 28 = some ir28 := by kernel_rfl
theorem irok29 : irOf Go.Proofs.Try.prog [] [] 29 = some ir29 := by kernel_rfl
theorem irok30 : irOf Go.Proofs.Try.prog [] [] 30 = some ir30 := by kernel_rfl
theorem irok31 : irOf Go.Proofs.Try.prog [] [] 31 = some ir31 := by kernel_rfl
theorem irok32 : irOf Go.Proofs.Try.prog [] [] 32 = some ir32 := by kernel_rfl
theorem irok33 : irOf Go.Proofs.Try.prog [] [] 33 = some ir33 := by kernel_rfl
theorem irok34 : irOf Go.Proofs.Try.prog [] [] 34 = some ir34 := by kernel_rfl
theorem irok35 : irOf Go.Proofs.Try.prog [] [] 35 = some ir35 := by kernel_rfl
theorem irok36 : irOf Go.Proofs.Try.prog [] [] 36 = some ir36 := by kernel_rfl
theorem irok37 : irOf Go.Proofs.Try.prog [] [] 37 = some ir37 := by kernel_rfl
theorem irok38 : irOf Go.Proofs.Try.prog [] [] 38 = some ir38 := by kernel_rfl
theorem irok39 : irOf Go.Proofs.Try.prog [] [] 39 = some ir39 := by kernel_rfl
theorem irok40 : irOf Go.Proofs.Try.prog [] [] 40 = some ir40 := by kernel_rfl
theorem irok41 : irOf Go.Proofs.Try.prog [] [] 41 = some ir41 := by kernel_rfl
theorem irok42 : irOf Go.Proofs.Try.prog [] [] 42 = some ir42 := by kernel_rfl
theorem irok43 : irOf Go.Proofs.Try.prog [] [] 43 = some ir43 := by kernel_rfl
theorem irok44 : irOf Go.Proofs.Try.prog [] [] 44 = some ir44 := by kernel_rfl
theorem irok45 : irOf Go.Proofs.Try.prog [] [] 45 = some ir45 := by kernel_rfl
theorem irok46 : irOf Go.Proofs.Try.prog [] [] 46 = some ir46 := by kernel_rfl
theorem irok47 : irOf Go.Proofs.Try.prog [] [] 47 = some ir47 := by kernel_rfl
theorem irok48 : irOf Go.Proofs.Try.prog [] [] 48 = some ir48 := by kernel_rfl
theorem irok49 : irOf Go.Proofs.Try.prog [] [] 49 = some ir49 := by kernel_rfl
theorem irok50 : irOf Go.Proofs.Try.prog [] [] 50 = some ir50 := by kernel_rfl
theorem irok51 : irOf Go.Proofs.Try.prog [] [] 51 = some ir51 := by kernel_rfl
theorem irok52 : irOf Go.Proofs.Try.prog [] [] 52 = some ir52 := by kernel_rfl
theorem irok53 : irOf Go.Proofs.Try.prog [] [] 53 = some ir53 := by kernel_rfl
theorem hE : ∀ f F, EE.fn f = some F → irOf Go.Proofs.Try.prog F.lent F.tk f = some F := by
  intro f F h
  have h' : EEfn f = some F := h
  unfold EEfn at h'
  split at h'
  · injection h' with h'; subst h'; exact irok3
  · injection h' with h'; subst h'; exact irok4
  · injection h' with h'; subst h'; exact irok5
  · injection h' with h'; subst h'; exact irok6
  · injection h' with h'; subst h'; exact irok7
  · injection h' with h'; subst h'; exact irok8
  · injection h' with h'; subst h'; exact irok9
  · injection h' with h'; subst h'; exact irok10
  · injection h' with h'; subst h'; exact irok11
  · injection h' with h'; subst h'; exact irok12
  · injection h' with h'; subst h'; exact irok13
  · injection h' with h'; subst h'; exact irok14
  · injection h' with h'; subst h'; exact irok15
  · injection h' with h'; subst h'; exact irok16
  · injection h' with h'; subst h'; exact irok17
  · injection h' with h'; subst h'; exact irok18
  · injection h' with h'; subst h'; exact irok19
  · injection h' with h'; subst h'; exact irok20
  · injection h' with h'; subst h'; exact irok21
  · injection h' with h'; subst h'; exact irok22
  · injection h' with h'; subst h'; exact irok23
  · injection h' with h'; subst h'; exact irok24
  · injection h' with h'; subst h'; exact irok25
  · injection h' with h'; subst h'; exact irok26
  · injection h' with h'; subst h'; exact irok27
  · injection h' with h'; subst h'; exact irok28
  · injection h' with h'; subst h'; exact irok29
  · injection h' with h'; subst h'; exact irok30
  · injection h' with h'; subst h'; exact irok31
  · injection h' with h'; subst h'; exact irok32
  · injection h' with h'; subst h'; exact irok33
  · injection h' with h'; subst h'; exact irok34
  · injection h' with h'; subst h'; exact irok35
  · injection h' with h'; subst h'; exact irok36
  · injection h' with h'; subst h'; exact irok37
  · injection h' with h'; subst h'; exact irok38
  · injection h' with h'; subst h'; exact irok39
  · injection h' with h'; subst h'; exact irok40
  · injection h' with h'; subst h'; exact irok41
  · injection h' with h'; subst h'; exact irok42
  · injection h' with h'; subst h'; exact irok43
  · injection h' with h'; subst h'; exact irok44
  · injection h' with h'; subst h'; exact irok45
  · injection h' with h'; subst h'; exact irok46
  · injection h' with h'; subst h'; exact irok47
  · injection h' with h'; subst h'; exact irok48
  · injection h' with h'; subst h'; exact irok49
  · injection h' with h'; subst h'; exact irok50
  · injection h' with h'; subst h'; exact irok51
  · injection h' with h'; subst h'; exact irok52
  · injection h' with h'; subst h'; exact irok53
  · cases h'
end Go.Pv
