/- Proof: the small steps are the program's. No condition. -/
import Derived.Test.YtaadneenebhnoaaGreatDoorIm
import Derived.Test.YtaadneenebhnoaaGreatDoorPvF
import Derived.Test.YtaadneenebhnoaaGreatDoorProg
set_option autoImplicit true
set_option relaxedAutoImplicit true
set_option linter.unusedSimpArgs false
set_option linter.unusedVariables false
set_option maxRecDepth 100000
namespace Go.Pv
theorem irok3 : zae Go.Proofs.Tryz.prog [] [] 3 = some ir3 := by kernel_rfl
theorem irok5 : zae Go.Proofs.Tryz.prog [] [] 5 = some ir5 := by kernel_rfl
theorem irok6 : zae Go.Proofs.Tryz.prog [] [] 6 = some ir6 := by kernel_rfl
theorem irok7 : zae Go.Proofs.Tryz.prog [] [] 7 = some ir7 := by kernel_rfl
theorem irok8 : zae Go.Proofs.Tryz.prog [] [] 8 = some ir8 := by kernel_rfl
theorem irok9 : zae Go.Proofs.Tryz.prog [] [] 9 = some ir9 := by kernel_rfl
theorem irok14 : zae Go.Proofs.Tryz.prog [] [] 14 = some zoF := by kernel_rfl
theorem irok15 : zae Go.Proofs.Tryz.prog [] [] 15 = some zmz := by kernel_rfl
theorem irok16 : zae Go.Proofs.Tryz.prog [] [] 16 = some zfy := by kernel_rfl
theorem irok17 : zae Go.Proofs.Tryz.prog [] [] 17 = some zsw := by kernel_rfl
theorem irok18 : zae Go.Proofs.Tryz.prog [] [] 18 = some zmB := by kernel_rfl
theorem irok19 : zae Go.Proofs.Tryz.prog [] [] 19 = some zsx := by kernel_rfl
theorem irok20 : zae Go.Proofs.Tryz.prog [] [] 20 = some zoG := by kernel_rfl
theorem irok21 : zae Go.Proofs.Tryz.prog [] [] 21 = some zoH := by kernel_rfl
theorem irok24 : zae Go.Proofs.Tryz.prog [] [] 24 = some zsy := by kernel_rfl
theorem irok25 : zae Go.Proofs.Tryz.prog [] [] 25 = some zsz := by kernel_rfl
theorem irok29 : zae Go.Proofs.Tryz.prog [] [] 29 = some zsA := by kernel_rfl
theorem irok30 : zae Go.Proofs.Tryz.prog [] [] 30 = some zsB := by kernel_rfl
theorem irok33 : zae Go.Proofs.Tryz.prog [] [] 33 = some zc4 := by kernel_rfl
theorem irok34 : zae Go.Proofs.Tryz.prog [] [] 34 = some zfz := by kernel_rfl
theorem irok35 : zae Go.Proofs.Tryz.prog [] [] 35 = some zsC := by kernel_rfl
theorem irok36 : zae Go.Proofs.Tryz.prog [] [] 36 = some zoI := by kernel_rfl
theorem irok37 : zae Go.Proofs.Tryz.prog [] [] 37 = some zii := by kernel_rfl
theorem irok38 : zae Go.Proofs.Tryz.prog [] [] 38 = some zmL := by kernel_rfl
theorem irok48 : zae Go.Proofs.Tryz.prog [] [] 48 = some zpS := by kernel_rfl
theorem irok58 : zae Go.Proofs.Tryz.prog [] [] 58 = some zbq := by kernel_rfl
theorem irok59 : zae Go.Proofs.Tryz.prog [] [] 59 = some zjz := by kernel_rfl
theorem irok60 : zae Go.Proofs.Tryz.prog [] [] 60 = some zpT := by kernel_rfl
theorem irok61 : zae Go.Proofs.Tryz.prog [] [] 61 = some zpU := by kernel_rfl
theorem irok62 : zae Go.Proofs.Tryz.prog [] [] 62 = some zpV := by kernel_rfl
theorem irok63 : zae Go.Proofs.Tryz.prog [] [] 63 = some zoJ := by kernel_rfl
theorem irok64 : zae Go.Proofs.Tryz.prog [] [] 64 = some zsD := by kernel_rfl
theorem irok65 : zae Go.Proofs.Tryz.prog [] [] 65 = some zsE := by kernel_rfl
theorem irok66 : zae Go.Proofs.Tryz.prog [] [] 66 = some zbt := by kernel_rfl
theorem irok67 : zae Go.Proofs.Tryz.prog [] [] 67 = some zbr := by kernel_rfl
theorem irok68 : zae Go.Proofs.Tryz.prog [] [] 68 = some zmS := by kernel_rfl
theorem irok69 : zae Go.Proofs.Tryz.prog [] [] 69 = some zsF := by kernel_rfl
theorem irok70 : zae Go.Proofs.Tryz.prog [] [] 70 = some zsG := by kernel_rfl
theorem irok71 : zae Go.Proofs.Tryz.prog [] [] 71 = some zeq := by kernel_rfl
theorem irok72 : zae Go.Proofs.Tryz.prog [] [] 72 = some zsH := by kernel_rfl
theorem irok73 : zae Go.Proofs.Tryz.prog [] [] 73 = some zlj := by kernel_rfl
theorem irok74 : zae Go.Proofs.Tryz.prog [] [] 74 = some zsI := by kernel_rfl
theorem irok75 : zae Go.Proofs.Tryz.prog [] [] 75 = some zpW := by kernel_rfl
theorem irok76 : zae Go.Proofs.Tryz.prog [] [] 76 = some zpX := by kernel_rfl
theorem irok77 : zae Go.Proofs.Tryz.prog [] [] 77 = some zmW := by kernel_rfl
theorem irok78 : zae Go.Proofs.Tryz.prog [] [] 78 = some zjA := by kernel_rfl
theorem irok79 : zae Go.Proofs.Tryz.prog [] [] 79 = some zpY := by kernel_rfl
theorem irok83 : zae Go.Proofs.Tryz.prog [] [] 83 = some zlk := by kernel_rfl
theorem irok84 : zae Go.Proofs.Tryz.prog [] [] 84 = some zpZ := by kernel_rfl
theorem irok86 : zae Go.Proofs.Tryz.prog [] [] 86 = some zp0 := by kernel_rfl
theorem irok89 : zae Go.Proofs.Tryz.prog [] [] 89 = some zoK := by kernel_rfl
theorem irok94 : zae Go.Proofs.Tryz.prog [] [] 94 = some zp1 := by kernel_rfl
theorem irok95 : zae Go.Proofs.Tryz.prog [] [] 95 = some zp2 := by kernel_rfl
theorem irok96 : zae Go.Proofs.Tryz.prog [] [] 96 = some zoL := by kernel_rfl
theorem irok97 : zae Go.Proofs.Tryz.prog [] [] 97 = some zoM := by kernel_rfl
theorem irok98 : zae Go.Proofs.Tryz.prog [] [] 98 = some zsJ := by kernel_rfl
theorem irok99 : zae Go.Proofs.Tryz.prog [] [] 99 = some zsK := by kernel_rfl
theorem irok100 : zae Go.Proofs.Tryz.prog [] [] 100 = some znX := by kernel_rfl
theorem irok101 : zae Go.Proofs.Tryz.prog [] [] 101 = some zll := by kernel_rfl
theorem irok102 : zae Go.Proofs.Tryz.prog [] [] 102 = some zlm := by kernel_rfl
theorem irok103 : zae Go.Proofs.Tryz.prog [] [] 103 = some zln := by kernel_rfl
theorem irok104 : zae Go.Proofs.Tryz.prog [] [] 104 = some znY := by kernel_rfl
theorem irok105 : zae Go.Proofs.Tryz.prog [] [] 105 = some zlo := by kernel_rfl
theorem irok106 : zae Go.Proofs.Tryz.prog [] [] 106 = some znZ := by kernel_rfl
theorem irok107 : zae Go.Proofs.Tryz.prog [] [] 107 = some zfA := by kernel_rfl
theorem irok108 : zae Go.Proofs.Tryz.prog [] [] 108 = some zn0 := by kernel_rfl
theorem irok109 : zae Go.Proofs.Tryz.prog [] [] 109 = some zn1 := by kernel_rfl
theorem irok117 : zae Go.Proofs.Tryz.prog [] [] 117 = some zn2 := by kernel_rfl
theorem irok119 : zae Go.Proofs.Tryz.prog [] [] 119 = some zjE := by kernel_rfl
theorem irok120 : zae Go.Proofs.Tryz.prog [] [] 120 = some zlp := by kernel_rfl
theorem irok133 : zae Go.Proofs.Tryz.prog [] [] 133 = some zn3 := by kernel_rfl
theorem irok135 : zae Go.Proofs.Tryz.prog [] [] 135 = some zlq := by kernel_rfl
theorem irok151 : zae Go.Proofs.Tryz.prog [] [] 151 = some zlr := by kernel_rfl
theorem hE : ∀ f F, EE.fn f = some F → zae Go.Proofs.Tryz.prog F.lent F.tk f = some F := by
 intro f F h
 have h' : EEfn f = some F := h
 unfold EEfn at h'
 split at h'
 ·injection h' with h'; subst h'; exact irok3
 ·injection h' with h'; subst h'; exact irok5
 ·injection h' with h'; subst h'; exact irok6
 ·injection h' with h'; subst h'; exact irok7
 ·injection h' with h'; subst h'; exact irok8
 ·injection h' with h'; subst h'; exact irok9
 ·injection h' with h'; subst h'; exact irok14
 ·injection h' with h'; subst h'; exact irok15
 ·injection h' with h'; subst h'; exact irok16
 ·injection h' with h'; subst h'; exact irok17
 ·injection h' with h'; subst h'; exact irok18
 ·injection h' with h'; subst h'; exact irok19
 ·injection h' with h'; subst h'; exact irok20
 ·injection h' with h'; subst h'; exact irok21
 ·injection h' with h'; subst h'; exact irok24
 ·injection h' with h'; subst h'; exact irok25
 ·injection h' with h'; subst h'; exact irok29
 ·injection h' with h'; subst h'; exact irok30
 ·injection h' with h'; subst h'; exact irok33
 ·injection h' with h'; subst h'; exact irok34
 ·injection h' with h'; subst h'; exact irok35
 ·injection h' with h'; subst h'; exact irok36
 ·injection h' with h'; subst h'; exact irok37
 ·injection h' with h'; subst h'; exact irok38
 ·injection h' with h'; subst h'; exact irok48
 ·injection h' with h'; subst h'; exact irok58
 ·injection h' with h'; subst h'; exact irok59
 ·injection h' with h'; subst h'; exact irok60
 ·injection h' with h'; subst h'; exact irok61
 ·injection h' with h'; subst h'; exact irok62
 ·injection h' with h'; subst h'; exact irok63
 ·injection h' with h'; subst h'; exact irok64
 ·injection h' with h'; subst h'; exact irok65
 ·injection h' with h'; subst h'; exact irok66
 ·injection h' with h'; subst h'; exact irok67
 ·injection h' with h'; subst h'; exact irok68
 ·injection h' with h'; subst h'; exact irok69
 ·injection h' with h'; subst h'; exact irok70
 ·injection h' with h'; subst h'; exact irok71
 ·injection h' with h'; subst h'; exact irok72
 ·injection h' with h'; subst h'; exact irok73
 ·injection h' with h'; subst h'; exact irok74
 ·injection h' with h'; subst h'; exact irok75
 ·injection h' with h'; subst h'; exact irok76
 ·injection h' with h'; subst h'; exact irok77
 ·injection h' with h'; subst h'; exact irok78
 ·injection h' with h'; subst h'; exact irok79
 ·injection h' with h'; subst h'; exact irok83
 ·injection h' with h'; subst h'; exact irok84
 ·injection h' with h'; subst h'; exact irok86
 ·injection h' with h'; subst h'; exact irok89
 ·injection h' with h'; subst h'; exact irok94
 ·injection h' with h'; subst h'; exact irok95
 ·injection h' with h'; subst h'; exact irok96
 ·injection h' with h'; subst h'; exact irok97
 ·injection h' with h'; subst h'; exact irok98
 ·injection h' with h'; subst h'; exact irok99
 ·injection h' with h'; subst h'; exact irok100
 ·injection h' with h'; subst h'; exact irok101
 ·injection h' with h'; subst h'; exact irok102
 ·injection h' with h'; subst h'; exact irok103
 ·injection h' with h'; subst h'; exact irok104
 ·injection h' with h'; subst h'; exact irok105
 ·injection h' with h'; subst h'; exact irok106
 ·injection h' with h'; subst h'; exact irok107
 ·injection h' with h'; subst h'; exact irok108
 ·injection h' with h'; subst h'; exact irok109
 ·injection h' with h'; subst h'; exact irok117
 ·injection h' with h'; subst h'; exact irok119
 ·injection h' with h'; subst h'; exact irok120
 ·injection h' with h'; subst h'; exact irok133
 ·injection h' with h'; subst h'; exact irok135
 ·injection h' with h'; subst h'; exact irok151
 ·cases h'
end Go.Pv
