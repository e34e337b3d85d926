/- Proof: steps of the evaluation as functions of the state. No condition. -/
import Derived.Test.YtaadneenebhnoaaGreatDoorPvG
set_option autoImplicit true
set_option relaxedAutoImplicit true
set_option linter.unusedSimpArgs false
set_option linter.unusedVariables false
namespace Go.Pv
variable {own : Nat → Nat → Mode} {g : Ora} {l : List Opn} {s : St} {d : Nat}
theorem ro_mn (x y : Ar) : zc own g (⟨some d, .mn x y, none⟩ :: l) s = bO (val s x) fun v => bO (val s y) fun w => match v, w with | .sc (.int a n), .sc (.int _ m) => zc own g l { s with tm := setA s.tm d (.sc (.int a (if m < n then m else n))) } | _, _ => none := by
 simp only [zc, z9, sem, zx]
 cases val s x with
 | none => rfl
 | some v =>
  simp only [bO, zx]
  cases val s y with
  | none => rfl
  | some w =>
   cases v with
   | sc u =>
    cases u with
    | int a n =>
     cases w with
     | sc t => cases t <;> rfl
     | _ => rfl
    | _ => rfl
   | _ => rfl
theorem ro_mx (x y : Ar) : zc own g (⟨some d, .mx x y, none⟩ :: l) s = bO (val s x) fun v => bO (val s y) fun w => match v, w with | .sc (.int a n), .sc (.int _ m) => zc own g l { s with tm := setA s.tm d (.sc (.int a (if m > n then m else n))) } | _, _ => none := by
 simp only [zc, z9, sem, zx]
 cases val s x with
 | none => rfl
 | some v =>
  simp only [bO, zx]
  cases val s y with
  | none => rfl
  | some w =>
   cases v with
   | sc u =>
    cases u with
    | int a n =>
     cases w with
     | sc t => cases t <;> rfl
     | _ => rfl
    | _ => rfl
   | _ => rfl
def zrV (own : Nat → Nat → Mode) (g : Ora) (d : Nat) (l : List Opn) (sz : Nat) (v : V) (ys : List (List V)) (s : St) : Option St :=
 match v with
 | .rf a off len => match look s.ar a with
  | some (.a false xs) => if off + len ≤ xs.length then (if (allLen sz xs && allLen sz ys) = true then zc own g l { s with tm := setA s.tm d (.sc (.int .i64 (min ys.length len : Nat))), ar := setA s.ar a (.a false (xs.take off ++ ys.take (min ys.length len) ++ xs.drop (off + min ys.length len))) } else none) else none
  | _ => none
 | _ => none
theorem zrW (sz a off len : Nat) (ys : List (List V)) : zrV own g d l sz (.rf a off len) ys s = match look s.ar a with
  | some (.a false xs) => if off + len ≤ xs.length then (if (allLen sz xs && allLen sz ys) = true then zc own g l { s with tm := setA s.tm d (.sc (.int .i64 (min ys.length len : Nat))), ar := setA s.ar a (.a false (xs.take off ++ ys.take (min ys.length len) ++ xs.drop (off + min ys.length len))) } else none) else none
  | _ => none := nr rfl
theorem zuV (sz : Nat) (x y : Ar) : zc own g (⟨some d, .copy sz x y, none⟩ :: l) s = bO (val s x) fun v => bO (val s y) fun w => bO (zhY s false w) fun p => zrV own g d l sz v p.1 p.2 := by
 simp only [zc, z9, sem, zx]
 cases val s x with
 | none => rfl
 | some v =>
  simp only [bO, zx]
  cases val s y with
  | none => rfl
  | some w =>
   simp only [bO, zl8]
   cases zhY s false w with
   | none => rfl
   | some p =>
    simp only [bO]
    cases v with
    | rf a off len =>
     simp only [zrV, rdA, M.run, St.get]
     cases look p.2.ar a with
     | none => rfl
     | some c =>
      cases c with
      | a fz xs =>
       cases fz with
       | true => rfl
       | false =>
        simp only [Bool.false_eq_true, if_false]
        by_cases h : off + len ≤ xs.length
        ·rw [if_pos h, if_pos h]
         cases h2 : (allLen sz xs && allLen sz p.1) with
         | true => rfl
         | false => rfl
        ·rw [if_neg h, if_neg h]; rfl
      | _ => rfl
    | _ => rfl
def zmj (z : List V) (l : List (Nat × Nat × V)) : Option (List V) := zhO z l
theorem zrX (zs : List V) (ps : List (Nat × Nat × Ar)) : zc own g (⟨some d, .build zs ps, none⟩ :: l) s = bO (vals s (ps.map (·.2.2))) fun vs => bO (zmj zs ((ps.zip vs).map fun p => (p.1.1, p.1.2.1, p.2))) fun cs => zc own g l { s with tm := setA s.tm d (.ag cs) } := by
 simp only [zc, z9, sem, zeY]
 cases vals s (ps.map (·.2.2)) with
 | none => rfl
 | some vs =>
  simp only [bO, zmj]
  cases zhO zs ((ps.zip vs).map fun p => (p.1.1, p.1.2.1, p.2)) <;> rfl
theorem zpF (z : List V) : zmj z [] = some z := nr rfl
theorem znC (z : List V) (off n : Nat) (v : V) (l : List (Nat × Nat × V)) : zmj z ((off, n, v) :: l) = if (cellsOf v).length = n ∧ off + n ≤ z.length then zmj (setAt z off (cellsOf v)) l else none := nr rfl
theorem zuW (str : Bool) (z : V) (ok : Bool) (m k : Ar) : zc own g (⟨some d, .mget str z ok m k, none⟩ :: l) s = bO (val s m) fun v => bO (val s k) fun w => match v with
  | .mp b => (match look s.bx b with
   | some (.m es) => if zcN str w = true then (match zcn w es.1 with
    | some (some r) => zc own g l { s with tm := setA s.tm d (if ok then .tu [r.1, .sc (.bool true)] else r.1) }
    | some none => zc own g l { s with tm := setA s.tm d (if ok then .tu [z, .sc (.bool false)] else z) }
    | none => none) else none
   | _ => none)
  | _ => none := by
 simp only [zc, z9, sem, zx]
 cases val s m with
 | none => rfl
 | some v =>
  simp only [bO, zx]
  cases val s k with
  | none => rfl
  | some w =>
   cases v with
   | mp b =>
    simp only [bO, rdM, M.run, St.get]
    cases look s.bx b with
    | none => rfl
    | some c =>
     cases c with
     | m es =>
      simp only [chk]
      cases hk : zcN str w with
      | false => rfl
      | true =>
       simp only [if_true]
       cases zcn w es.1 with
       | none => rfl
       | some r => cases r <;> rfl
     | _ => rfl
   | _ => rfl
end Go.Pv

namespace Go.Pv
variable {g : Ora} {own : Nat → Nat → Mode} {s : St} {d : Nat} {l : List Opn}
def zpG (v : V) : Option ByteArray := match v with | .sc (.string s) => some s | _ => none
theorem zxe (s : ByteArray) : zpG (.sc (.string s)) = some s := nr rfl
theorem zuX (x : Ar) (lo hi : Option Ar) : zc own g (⟨some d, .sslc x lo hi, none⟩ :: l) s = bO (val s x) fun v => bO (zpG v) fun t => bO (zfS s lo 0) fun i => bO (zfS s hi t.size) fun h =>
  if i ≤ h ∧ h ≤ t.size then zc own g l { s with tm := setA s.tm d (.sc (.string (t.extract i h))) } else none := by
 simp only [zc, z9, sem, zx]
 cases val s x with
 | none => rfl
 | some v =>
  cases v with
  | sc y =>
   cases y with
   | string t =>
    simp only [bO, asS, zpG, zdD]
    cases zfS s lo 0 with
    | none => rfl
    | some i =>
     simp only [bO, zdD]
     cases zfS s hi t.size with
     | none => rfl
     | some h =>
      simp only [bO]
      by_cases hc : i ≤ h ∧ h ≤ t.size
      ·rw [if_pos hc, if_pos hc]; rfl
      ·rw [if_neg hc, if_neg hc]; rfl
   | _ => rfl
  | _ => rfl
theorem bslR_1s (z v : Value) : zkW own g d l s [.sc z] 1 [0] [.sc v] = match look s.ar (1000 * (d + 1)) with
   | none => zc own g l { s with tm := setA s.tm d (.rf (1000 * (d + 1)) 0 1), ar := setA s.ar (1000 * (d + 1)) (.a false [[.sc v]]) }
   | some _ => none := by
 have h : (cloLs ([V.sc v].map cellsOf) fun ws =>
   chk (ws.all (fun c => c.length == [V.sc z].length) && decide (1 ≤ 1000) && [0].all (fun p => decide (p < 1)) && [V.sc z].all zdJ)
   (newR (.a (1000 * (d + 1))) (.wr (.a (1000 * (d + 1))) (.a false (setEls (List.replicate 1 [V.sc z]) ([0].zip ws))) (finR (some d) (.rf (1000 * (d + 1)) 0 1)))) : M Unit)
   = newR (.a (1000 * (d + 1))) (.wr (.a (1000 * (d + 1))) (.a false [[.sc v]]) (finR (some d) (.rf (1000 * (d + 1)) 0 1))) := by
  simp [cloLs, cloL, expL, exp, cellsOf, zdJ, chk, setEls, List.replicate]
 unfold zkW
 rw [if_neg (by decide), h]
 simp only [newR, M.run, St.get, finR]
 cases look s.ar (1000 * (d + 1)) <;> rfl
end Go.Pv

namespace Go.Pv
variable {g : Ora} {own : Nat → Nat → Mode} {s : St} {d : Nat} {l : List Opn}
/-! maps as equations -/
def mpN (v : V) : Option Nat := match v with | .mp b => some b | _ => none
theorem zxf (b : Nat) : mpN (.mp b) = some b := nr rfl
def zjh (str : Bool) (z : V) (ok : Bool) (c : Option Cell) (w : V) : Option V := match c with
 | some (.m es) => if zcN str w = true then (match zcn w es.1 with
  | some (some r) => some (if ok then .tu [r.1, .sc (.bool true)] else r.1)
  | some none => some (if ok then .tu [z, .sc (.bool false)] else z)
  | none => none) else none
 | _ => none
def zh2 (str : Bool) (c : Option Cell) (w y : V) : Option zhx := match c with
 | some (.m es) => if (zcN str w && zc5 y) = true then (match zcn w es.1 with
  | some (some _) => some (zgS w y es.1, es.2)
  | some none => some (es.1 ++ [((w, y), es.2)], es.2 + 1)
  | none => none) else none
 | _ => none
theorem zrY (str : Bool) (z : V) (ok : Bool) (m k : Ar) : zc own g (⟨some d, .mget str z ok m k, none⟩ :: l) s = bO (val s m) fun v => bO (val s k) fun w => bO (mpN v) fun b => bO (zjh str z ok (look s.bx b) w) fun u => zc own g l { s with tm := setA s.tm d u } := by
 rw [zuW]
 cases val s m with
 | none => rfl
 | some v =>
  simp only [bO]
  cases val s k with
  | none => rfl
  | some w =>
   cases v with
   | mp b =>
    simp only [mpN, zjh]
    cases look s.bx b with
    | none => rfl
    | some c =>
     cases c with
     | m es =>
      simp only
      cases hk : zcN str w with
      | false => rfl
      | true =>
       simp only [if_true]
       cases zcn w es.1 with
       | none => rfl
       | some r => cases r <;> rfl
     | _ => rfl
   | _ => rfl
theorem zrZ (str : Bool) (m k x : Ar) : zc own g (⟨none, .mset str m k x, none⟩ :: l) s = bO (val s m) fun v => bO (val s k) fun w => bO (val s x) fun y => bO (mpN v) fun b => bO (zh2 str (look s.bx b) w y) fun es => zc own g l { s with bx := setA s.bx b (.m es) } := by
 simp only [zc, z9, sem, zx]
 cases val s m with
 | none => rfl
 | some v =>
  simp only [bO, zx]
  cases val s k with
  | none => rfl
  | some w =>
   simp only [bO, zx]
   cases val s x with
   | none => rfl
   | some y =>
    cases v with
    | mp b =>
     simp only [bO, rdM, M.run, St.get, mpN, zh2]
     cases look s.bx b with
     | none => rfl
     | some c =>
      cases c with
      | m es =>
       simp only [chk]
       cases hk : (zcN str w && zc5 y) with
       | false => rfl
       | true =>
        simp only [if_true]
        cases zcn w es.1 with
        | none => rfl
        | some r => cases r <;> rfl
      | _ => rfl
    | _ => rfl
/-- a map of whole numbers -/
abbrev MP (β : Type) := List ((Int × β) × Nat) × Nat
def mpL {β : Type} (f : β → V) (l : List ((Int × β) × Nat)) : List ((V × V) × Nat) := l.map fun e => ((.sc (.int .i64 e.1.1), f e.1.2), e.2)
def mpE {β : Type} (f : β → V) (m : MP β) : zhx := (mpL f m.1, m.2)
def mpI (m : MP Int) : zhx := mpE (fun n => .sc (.int .i64 n)) m
def mpB (m : MP Bool) : zhx := mpE (fun b => .sc (.bool b)) m
def fdM {β : Type} (k : Int) : List ((Int × β) × Nat) → Option β
 | [] => none
 | e :: l => if k = e.1.1 then some e.1.2 else fdM k l
def zr0 {β : Type} (k : Int) (v : β) : List ((Int × β) × Nat) → List ((Int × β) × Nat)
 | [] => []
 | e :: l => if k = e.1.1 then ((k, v), e.2) :: l else e :: zr0 k v l
def mgV {β : Type} (z : β) (m : MP β) (k : Int) : β := (fdM k m.1).getD z
def msV {β : Type} (m : MP β) (k : Int) (v : β) : MP β := match fdM k m.1 with | some _ => (zr0 k v m.1, m.2) | none => (m.1 ++ [((k, v), m.2)], m.2 + 1)
theorem zkX {β : Type} (f : β → V) (k : Int) : ∀ l : List ((Int × β) × Nat), ∃ n, zcn (.sc (.int .i64 k)) (mpL f l) = some ((fdM k l).map fun v => (f v, n))
 | [] => ⟨0, rfl⟩
 | e :: l => by
  obtain ⟨n, h⟩ := zkX f k l
  by_cases c : k = e.1.1
  ·exact ⟨e.2, by simp [mpL, zcn, zfE, fdM, c]⟩
  ·refine ⟨n, ?_⟩
   simp only [mpL] at h
   simp [mpL, zcn, zfE, fdM, c, h]
theorem zr1 {β : Type} (f : β → V) (k : Int) (v : β) : ∀ l : List ((Int × β) × Nat), zgS (.sc (.int .i64 k)) (f v) (mpL f l) = mpL f (zr0 k v l)
 | [] => rfl
 | e :: l => by
  have h := zr1 f k v l
  simp only [mpL] at h
  by_cases c : k = e.1.1
  ·simp [mpL, zgS, zfE, zr0, c]
  ·simp [mpL, zgS, zfE, zr0, c, h]
theorem zos {β : Type} (f : β → V) (z : β) (m : MP β) (k : Int) : zjh false (f z) false (some (.m (mpE f m))) (.sc (.int .i64 k)) = some (f (mgV z m k)) := by
 obtain ⟨n, h⟩ := zkX f k m.1
 simp only [zjh, zcN, Bool.not_false, if_true, mpE, h, mgV]
 cases fdM k m.1 <;> rfl
theorem zot {β : Type} (f : β → V) (hf : ∀ v, zc5 (f v) = true) (m : MP β) (k : Int) (v : β) : zh2 false (some (.m (mpE f m))) (.sc (.int .i64 k)) (f v) = some (mpE f (msV m k v)) := by
 obtain ⟨n, h⟩ := zkX f k m.1
 simp only [zh2, zcN, Bool.not_false, Bool.true_and, hf, if_true, mpE, h, msV]
 cases fdM k m.1 with
 | none => simp [mpL]
 | some x => simp [zr1]
@[simp] theorem mgetR_I (z : Int) (m : MP Int) (k : Int) : zjh false (.sc (.int .i64 z)) false (some (.m (mpI m))) (.sc (.int .i64 k)) = some (.sc (.int .i64 (mgV z m k))) := zos (fun n : Int => V.sc (.int .i64 n)) z m k
@[simp] theorem mgetR_B (z : Bool) (m : MP Bool) (k : Int) : zjh false (.sc (.bool z)) false (some (.m (mpB m))) (.sc (.int .i64 k)) = some (.sc (.bool (mgV z m k))) := zos (fun n : Bool => V.sc (.bool n)) z m k
@[simp] theorem msetR_I (m : MP Int) (k v : Int) : zh2 false (some (.m (mpI m))) (.sc (.int .i64 k)) (.sc (.int .i64 v)) = some (mpI (msV m k v)) := zot (fun n : Int => V.sc (.int .i64 n)) (fun _ => rfl) m k v
@[simp] theorem msetR_B (m : MP Bool) (k : Int) (v : Bool) : zh2 false (some (.m (mpB m))) (.sc (.int .i64 k)) (.sc (.bool v)) = some (mpB (msV m k v)) := zot (fun n : Bool => V.sc (.bool n)) (fun _ => rfl) m k v
@[simp] theorem mpI_nil : mpI ([], 0) = ([], 0) := nr rfl
@[simp] theorem mpB_nil : mpB ([], 0) = ([], 0) := nr rfl
@[simp] theorem mgetR_0 (z : V) (k : Int) : zjh false z false (some (.m ([], 0))) (.sc (.int .i64 k)) = some z := nr rfl
@[simp] theorem msetR_0I (k v : Int) : zh2 false (some (.m ([], 0))) (.sc (.int .i64 k)) (.sc (.int .i64 v)) = some (mpI (msV ([], 0) k v)) := nr rfl
@[simp] theorem msetR_0B (k : Int) (v : Bool) : zh2 false (some (.m ([], 0))) (.sc (.int .i64 k)) (.sc (.bool v)) = some (mpB (msV ([], 0) k v)) := nr rfl
end Go.Pv

namespace Go.Pv
set_option maxRecDepth 8000
variable {g : Ora} {own : Nat → Nat → Mode} {s : St} {d : Nat} {l : List Opn}
/-! further steps as equations -/
def zro (v w : V) : Option V := match v, w with
 | .sc (.string t), .sc (.int _ n) => if 0 ≤ n then bO t[n.toNat]? fun b => some (.sc (.int .u8 b.toNat)) else none
 | _, _ => none
theorem zt0 (t : ByteArray) (k : IntKind) (n : Int) : zro (.sc (.string t)) (.sc (.int k n)) = if 0 ≤ n then bO t[n.toNat]? fun b => some (.sc (.int .u8 b.toNat)) else none := nr rfl
theorem zt1 (x i : Ar) : zc own g (⟨some d, .sidx x i, none⟩ :: l) s = bO (val s x) fun v => bO (val s i) fun w => bO (zro v w) fun v => zc own g l { s with tm := setA s.tm d v } := by
 simp only [zc, z9, sem, zx]
 cases val s x with
 | none => rfl
 | some v =>
  simp only [bO, zx]
  cases val s i with
  | none => rfl
  | some w =>
   cases v with
   | sc y =>
    cases y with
    | string t =>
     cases w with
     | sc z =>
      cases z with
      | int k n =>
       simp only [asS, asI, zro]
       by_cases h : 0 ≤ n
       ·rw [if_pos h, if_pos h]; cases t[n.toNat]? <;> rfl
       ·rw [if_neg h, if_neg h]; rfl
      | _ => rfl
     | _ => rfl
    | _ => rfl
   | _ => rfl
theorem zt2 (x : Ar) : zc own g (⟨some d, .len 1 x, none⟩ :: l) s = bO (val s x) fun v => bO (zpG v) fun t => zc own g l { s with tm := setA s.tm d (.sc (.int .i64 t.size)) } := by
 simp only [zc, z9, sem, zx]
 cases val s x with
 | none => rfl
 | some v =>
  cases v with
  | sc y => cases y <;> rfl
  | _ => rfl
def zjW (v : V) : Option Bool := match v with | .sc (.bool b) => some b | _ => none
theorem zt3 (b : Bool) : zjW (.sc (.bool b)) = some b := nr rfl
theorem zwR (neg : Bool) (x y : Ar) : zc own g (⟨some d, .beq neg x y, none⟩ :: l) s = bO (val s x) fun v => bO (val s y) fun w => bO (zjW v) fun p => bO (zjW w) fun q => zc own g l { s with tm := setA s.tm d (.sc (.bool (if neg then !(p == q) else p == q))) } := by
 simp only [zc, z9, sem, zx]
 cases val s x with
 | none => rfl
 | some v =>
  simp only [bO, zx]
  cases val s y with
  | none => rfl
  | some w =>
   cases v with
   | sc y =>
    cases y with
    | bool p =>
     cases w with
     | sc z => cases z <;> rfl
     | _ => rfl
    | _ => rfl
   | _ => rfl
def negP (v : V) : Option V := match v with | .sc (.int a n) => some (.sc (.int a (a.wrap (0 - n)))) | _ => none
theorem zwS (a : IntKind) (n : Int) : negP (.sc (.int a n)) = some (.sc (.int a (a.wrap (0 - n)))) := nr rfl
theorem zwT (x : Ar) : zc own g (⟨some d, .un .neg x, none⟩ :: l) s = bO (val s x) fun v => bO (negP v) fun v => zc own g l { s with tm := setA s.tm d v } := by
 simp only [zc, z9, sem, zx]
 cases val s x with
 | none => rfl
 | some v =>
  cases v with
  | sc y => cases y <;> rfl
  | _ => rfl
/-- a row that is read whole -/
def zrp (s : St) (v : V) : Option (List (List V)) := match v with
 | .ls _ xs => some xs
 | .rf a off len => match look s.ar a with
  | some (.a _ xs) => if off + len ≤ xs.length then some (sub xs off len) else none
  | _ => none
 | _ => none
theorem zt4 (s : St) (o : Bool) (xs : List (List V)) : zrp s (.ls o xs) = some xs := nr rfl
theorem zt5 (s : St) (a off len : Nat) : zrp s (.rf a off len) = match look s.ar a with
  | some (.a _ xs) => if off + len ≤ xs.length then some (sub xs off len) else none
  | _ => none := nr rfl
theorem zwU (x : Ar) : zc own g (⟨some d, .b2s x, none⟩ :: l) s = bO (val s x) fun v => bO (zrp s v) fun xs => bO (zaJ xs) fun bs => zc own g l { s with tm := setA s.tm d (.sc (.string ⟨bs.toArray⟩)) } := by
 simp only [zc, z9, sem, zx]
 cases val s x with
 | none => rfl
 | some v =>
  cases v with
  | ls o xs =>
   simp only [bO, zrp]
   cases zaJ xs <;> rfl
  | rf a off len =>
   simp only [bO, zrp, rdS, rdA, M.run, St.get]
   cases look s.ar a with
   | none => rfl
   | some c =>
    cases c with
    | a fz xs =>
     simp only [chk]
     by_cases h : off + len ≤ xs.length
     ·simp only [h, decide_true, if_true]
      cases zaJ (sub xs off len) <;> rfl
     ·simp only [h, decide_false, Bool.false_eq_true, if_false]; rfl
    | _ => rfl
  | _ => rfl
theorem zt6 (x y : Ar) : zc own g (⟨some d, .apps x y, none⟩ :: l) s = bO (val s x) fun v => bO (val s y) fun w => bO (zpG w) fun t => bO (zhZ s 1 (decide (0 < t.size)) v) fun q =>
  if lim (q.1.length + t.size) 1 = true then (match look q.2.ar (1000 * (d + 1)) with
   | none => zc own g l { q.2 with tm := setA q.2.tm d (.rf (1000 * (d + 1)) 0 (q.1.length + t.size)), ar := setA q.2.ar (1000 * (d + 1)) (.a false (q.1 ++ t.data.toList.map fun b => [.sc (.int .u8 (b.toNat : Int))])) }
   | some _ => none) else none := by
 simp only [zc, z9, sem, zx]
 cases val s x with
 | none => rfl
 | some v =>
  simp only [bO, zx]
  cases val s y with
  | none => rfl
  | some w =>
   cases w with
   | sc z =>
    cases z with
    | string t =>
     simp only [bO, asS, zpG, zl9]
     cases zhZ s 1 (decide (0 < t.size)) v with
     | none => rfl
     | some q =>
      simp only [bO, chk]
      cases h1 : lim (q.1.length + t.size) 1 with
      | false => simp [M.run]
      | true =>
       simp only [if_true, newR, M.run, St.get, Option.getD_some]
       cases look q.2.ar (1000 * (d + 1)) <;> rfl
    | _ => rfl
   | _ => rfl
theorem zt7 (x : Ar) : zc own g (⟨some d, .nilc x, none⟩ :: l) s = bO (val s x) fun v => match v with | .bx _ _ => zc own g l { s with tm := setA s.tm d v } | .ep _ _ _ => zc own g l { s with tm := setA s.tm d v } | .fp _ _ _ => zc own g l { s with tm := setA s.tm d v } | .fn _ _ => zc own g l { s with tm := setA s.tm d v } | _ => none := by
 simp only [zc, z9, sem, zx]
 cases val s x with
 | none => rfl
 | some v => cases v <;> rfl
theorem zrq : zc own g (⟨some d, .mkmap, none⟩ :: l) s = match look s.bx (1000 * (d + 1)) with
  | none => zc own g l { s with tm := setA s.tm d (.mp (1000 * (d + 1))), bx := setA s.bx (1000 * (d + 1)) (.m ([], 0)) }
  | some _ => none := by
 simp only [zc, z9, sem, newR, M.run, St.get, Option.getD_some]
 cases look s.bx (1000 * (d + 1)) <;> rfl
/-- a cell that goes into a row -/
def zij (s : St) (v : V) : Option (V × St) := match v with
 | .sc x => some (.sc x, s)
 | .ls o xs => some (.ls o xs, s)
 | .rf a off len => match look s.ar a with
  | some (.a fz xs) => if off + len ≤ xs.length then (if fz then some (.ls false (zbM (sub xs off len)), s) else if (decide (off = 0 ∧ len = xs.length) || decide (0 < len)) = true then some (.ls true (sub xs off len), { s with ar := setA s.ar a .dead }) else none) else none
  | _ => none
 | _ => none
theorem zt8 (s : St) (x : Value) : zij s (.sc x) = some (.sc x, s) := nr rfl
theorem zt9 (s : St) (o : Bool) (xs : List (List V)) : zij s (.ls o xs) = some (.ls o xs, s) := nr rfl
theorem zua (s : St) (a off len : Nat) : zij s (.rf a off len) = match look s.ar a with
  | some (.a fz xs) => if off + len ≤ xs.length then (if fz then some (.ls false (zbM (sub xs off len)), s) else if (decide (off = 0 ∧ len = xs.length) || decide (0 < len)) = true then some (.ls true (sub xs off len), { s with ar := setA s.ar a .dead }) else none) else none
  | _ => none := nr rfl
def zcF : St → List V → Option (List V × St)
 | s, [] => some ([], s)
 | s, v :: l => bO (zij s v) fun p => bO (zcF p.2 l) fun q => some (p.1 :: q.1, q.2)
theorem zpo (s : St) : zcF s [] = some ([], s) := nr rfl
theorem znu (s : St) (v : V) (l : List V) : zcF s (v :: l) = bO (zij s v) fun p => bO (zcF p.2 l) fun q => some (p.1 :: q.1, q.2) := nr rfl
def zdl : St → List (List V) → Option (List (List V) × St)
 | s, [] => some ([], s)
 | s, v :: l => bO (zcF s v) fun p => bO (zdl p.2 l) fun q => some (p.1 :: q.1, q.2)
theorem zwV (s : St) : zdl s [] = some ([], s) := nr rfl
theorem zvz (s : St) (v : List V) (l : List (List V)) : zdl s (v :: l) = bO (zcF s v) fun p => bO (zdl p.2 l) fun q => some (p.1 :: q.1, q.2) := nr rfl
def okX (v : V) : Bool := match v with | .sc _ => true | .ls _ _ => true | .rf _ _ _ => true | _ => false
theorem zub {α : Type} (v : V) (hv : okX v = true) (k : V → List Nat → M α) (s : St) : (exp true v k).run g s = bO (zij s v) fun p => (k p.1 []).run g p.2 := by
 cases v with
 | sc x => rfl
 | ls o xs => rfl
 | rf a off len =>
  simp only [exp, rdS, rdA, M.run, St.get, zij]
  cases ha : look s.ar a with
  | none => rfl
  | some c =>
   cases c with
   | a fz xs =>
    simp only [chk, Option.map_some]
    by_cases h : off + len ≤ xs.length
    ·simp only [h, decide_true, if_true, Bool.true_and]
     cases fz with
     | true => rfl
     | false =>
      simp only [Bool.not_false, if_true, zik, rdA, M.run, St.get, ha, Option.map_some, chk]
      by_cases h2 : (decide (off = 0 ∧ len = xs.length) || decide (0 < len)) = true
      ·rw [if_pos h2]
       simp only [Bool.false_eq_true, if_false]
       rw [if_pos h2]; rfl
      ·rw [if_neg h2]
       simp only [Bool.false_eq_true, if_false]
       rw [if_neg h2]; rfl
    ·simp only [h, decide_false, Bool.false_eq_true, if_false]; rfl
   | _ => rfl
 | _ => cases hv
theorem zma {α : Type} : ∀ (vs : List V) (hv : vs.all okX = true) (k : List V → List Nat → M α) (s : St), (expL true vs k).run g s = bO (zcF s vs) fun p => (k p.1 []).run g p.2
 | [], _, k, s => rfl
 | v :: l, hv, k, s => by
  simp only [List.all_cons, Bool.and_eq_true] at hv
  simp only [expL, zcF]
  rw [zub v hv.1]
  cases zij s v with
  | none => rfl
  | some p =>
   simp only [bO]
   rw [zma l hv.2]
   cases zcF p.2 l <;> rfl
theorem zrr {s : St} {v : V} {p : V × St} (h : zij s v = some p) : zdJ p.1 = true := by
 unfold zij at h
 split at h
 ·cases h; rfl
 ·cases h; rfl
 ·split at h
  ·split at h
   ·split at h
    ·cases h; rfl
    ·split at h
     ·cases h; rfl
     ·cases h
   ·cases h
  ·cases h
 ·cases h
theorem zjX : ∀ {s : St} {vs : List V} {p : List V × St}, zcF s vs = some p → p.1.all zdJ = true
 | s, [], p, h => by cases h; rfl
 | s, v :: l, p, h => by
  simp only [zcF] at h
  cases h1 : zij s v with
  | none => rw [h1] at h; cases h
  | some q =>
   rw [h1] at h
   simp only [bO] at h
   cases h2 : zcF q.2 l with
   | none => rw [h2] at h; cases h
   | some r =>
    rw [h2] at h
    simp only [Option.some.injEq] at h
    subst h
    simp only [List.all_cons, Bool.and_eq_true]
    exact ⟨zrr h1, zjX h2⟩
theorem zrs {α : Type} (vs : List V) (hv : vs.all okX = true) (k : List V → M α) (s : St) : (cloL vs k).run g s = bO (zcF s vs) fun p => (k p.1).run g p.2 := by
 unfold cloL
 rw [zma vs hv]
 cases h : zcF s vs with
 | none => rfl
 | some p =>
  simp only [bO, chk]
  rw [if_pos (zjX h)]
theorem zjY {α : Type} : ∀ (vs : List (List V)) (hv : (vs.all fun v => v.all okX) = true) (k : List (List V) → M α) (s : St), (cloLs vs k).run g s = bO (zdl s vs) fun p => (k p.1).run g p.2
 | [], _, k, s => rfl
 | v :: l, hv, k, s => by
  simp only [List.all_cons, Bool.and_eq_true] at hv
  simp only [cloLs, zdl]
  rw [zrs v (by simpa using hv.1)]
  cases zcF s v with
  | none => rfl
  | some p =>
   simp only [bO]
   rw [zjY l hv.2]
   cases zdl p.2 l <;> rfl
def zha : List Nat → Nat → Bool
 | [], _ => true
 | k :: l, n => k == n && zha l (n + 1)
theorem zpp (n : Nat) : zha [] n = true := nr rfl
theorem znv (k : Nat) (l : List Nat) (n : Nat) : zha (k :: l) n = (k == n && zha l (n + 1)) := nr rfl
theorem zjZ : ∀ (ks : List Nat) (ws : List (List V)) (n : Nat) (pre z : List (List V)), zha ks n = true → pre.length = n → ks.length = ws.length → z.length = ws.length → setEls (pre ++ z) (ks.zip ws) = pre ++ ws
 | [], ws, n, pre, z, _, _, h1, h2 => by
  have : ws = [] := List.length_eq_zero_iff.1 h1.symm
  subst this
  have : z = [] := List.length_eq_zero_iff.1 h2
  subst this
  rfl
 | k :: ks, [], n, pre, z, _, _, h1, _ => by cases h1
 | k :: ks, w :: ws, n, pre, [], _, _, _, h2 => by cases h2
 | k :: ks, w :: ws, n, pre, c :: z, ho, hp, h1, h2 => by
  simp only [zha, Bool.and_eq_true, beq_iff_eq] at ho
  obtain ⟨rfl, ho⟩ := ho
  simp only [List.zip_cons_cons, setEls]
  have e : (pre ++ c :: z).set k w = (pre ++ [w]) ++ z := by
   rw [List.set_append_right _ _ (by omega), hp]; simp
  rw [e, zjZ ks ws (k + 1) (pre ++ [w]) z ho (by simp [hp]) (by simpa using h1) (by simpa using h2)]
  simp
theorem zpq : ∀ {s : St} {vs : List V} {p : List V × St}, zcF s vs = some p → p.1.length = vs.length
 | s, [], p, h => by cases h; rfl
 | s, v :: l, p, h => by
  simp only [zcF] at h
  cases h1 : zij s v with
  | none => rw [h1] at h; cases h
  | some q =>
   rw [h1] at h
   simp only [bO] at h
   cases h2 : zcF q.2 l with
   | none => rw [h2] at h; cases h
   | some r =>
    rw [h2] at h
    simp only [Option.some.injEq] at h
    subst h
    simp [zpq h2]
theorem zi9 : ∀ {s : St} {vs : List (List V)} {p : List (List V) × St}, zdl s vs = some p → p.1.length = vs.length
 | s, [], p, h => by cases h; rfl
 | s, v :: l, p, h => by
  simp only [zdl] at h
  cases h1 : zcF s v with
  | none => rw [h1] at h; cases h
  | some q =>
   rw [h1] at h
   simp only [bO] at h
   cases h2 : zdl q.2 l with
   | none => rw [h2] at h; cases h
   | some r =>
    rw [h2] at h
    simp only [Option.some.injEq] at h
    subst h
    simp [zi9 h2]
theorem zvA : ∀ (ks : List Nat) (m n : Nat), zha ks m = true → m + ks.length ≤ n → ks.all (fun p => decide (p < n)) = true
 | [], m, n, _, _ => rfl
 | k :: ks, m, n, h, hl => by
  simp only [zha, Bool.and_eq_true, beq_iff_eq] at h
  simp only [List.length_cons] at hl
  simp only [List.all_cons, Bool.and_eq_true, decide_eq_true_eq]
  exact ⟨by omega, zvA ks (m + 1) n h.2 (by omega)⟩
def zja : St → List V → Option (List (List V) × St)
 | s, [] => some ([], s)
 | s, v :: l => bO (zcF s (cellsOf v)) fun p => bO (zja p.2 l) fun q => some (p.1 :: q.1, q.2)
theorem zpr (s : St) : zja s [] = some ([], s) := nr rfl
theorem znw (s : St) (v : V) (l : List V) : zja s (v :: l) = bO (zcF s (cellsOf v)) fun p => bO (zja p.2 l) fun q => some (p.1 :: q.1, q.2) := nr rfl
theorem zmb : ∀ (l : List V) (s : St), zdl s (l.map cellsOf) = zja s l
 | [], s => rfl
 | v :: l, s => by
  simp only [List.map_cons, zdl, zja, zmb l]
/-- a row that is written out, in order -/
theorem zuc (zs : List V) (n : Nat) (ks : List Nat) (vs : List V) (h0 : (decide (n ≠ 0) && decide (n ≤ 1000)) = true) (h1 : zha ks 0 = true) (h2 : ks.length = n) (h3 : vs.length = n) (h4 : zs.all zdJ = true) (h5 : (vs.all fun v => (cellsOf v).all okX) = true) :
  zkW own g d l s zs n ks vs = bO (zja s vs) fun p => if allLen zs.length p.1 = true then (match look p.2.ar (1000 * (d + 1)) with
   | none => zc own g l { p.2 with tm := setA p.2.tm d (.rf (1000 * (d + 1)) 0 n), ar := setA p.2.ar (1000 * (d + 1)) (.a false p.1) }
   | some _ => none) else none := by
 simp only [Bool.and_eq_true, decide_eq_true_eq] at h0
 rw [← zmb]
 unfold zkW
 rw [if_neg h0.1, zjY _ (by simpa using h5)]
 cases h6 : zdl s (vs.map cellsOf) with
 | none => rfl
 | some p =>
  have hl := zi9 h6
  rw [List.length_map, h3] at hl
  have h7 := zvA ks 0 n h1 (by omega)
  have h8 : setEls (List.replicate n zs) (ks.zip p.1) = p.1 := by
   have := zjZ ks p.1 0 [] (List.replicate n zs) h1 rfl (by omega) (by simp [hl])
   simpa using this
  simp only [bO, chk, h7, h4, h8, decide_eq_true h0.2, Bool.and_true]
  have e : (p.1.all fun c => c.length == zs.length) = allLen zs.length p.1 := rfl
  rw [e]
  cases hc : allLen zs.length p.1 with
  | false => rfl
  | true =>
   simp only [if_true, newR, M.run, St.get, finR]
   cases look p.2.ar (1000 * (d + 1)) <;> rfl
end Go.Pv

namespace Go.Pv
set_option maxRecDepth 8000
variable {g : Ora} {own : Nat → Nat → Mode} {s : St} {d : Nat} {l : List Opn}
/-! what goes out and comes back, as functions of the state -/
def zeE (c : Option Cell) : Option (Bool × List (List V)) := match c with | some (.a fz xs) => some (fz, xs) | _ => none
theorem zwW (fz : Bool) (xs : List (List V)) : zeE (some (.a fz xs)) = some (fz, xs) := nr rfl
theorem zfe {α : Type} (a : Nat) (k : Bool → List (List V) → M α) (s : St) : (rdA a k).run g s = bO (zeE (look s.ar a)) fun p => (k p.1 p.2).run g s := by
 simp only [rdA, M.run, St.get, zeE]
 cases look s.ar a with
 | none => rfl
 | some c => cases c <;> rfl
theorem zdY {α : Type} (b : Bool) (k : M α) (s : St) : (chk b k).run g s = if b = true then k.run g s else none := by
 cases b <;> rfl
def zud (ow : Bool) (s : St) (a off len : Nat) : Option ((V × List Nat) × St) := bO (zeE (look s.ar a)) fun p => if off + len ≤ p.2.length then (if (ow && !p.1) = true then (if (decide (off = 0 ∧ len = p.2.length) || decide (0 < len)) = true then some ((.ls true (sub p.2 off len), []), { s with ar := setA s.ar a .dead }) else none) else some ((.ls false (zbM (sub p.2 off len)), if p.1 then [] else [a]), s)) else none
mutual
def zcK (ow : Bool) (s : St) : V → Option ((V × List Nat) × St)
 | .rf a off len => zud ow s a off len
 | .ag cs => bO (zbT ow s cs) fun q => some ((.ag q.1.1, q.1.2), q.2)
 | .tu cs => bO (zbT ow s cs) fun q => some ((.tu q.1.1, q.1.2), q.2)
 | .ep .. => none
 | .fp .. => none
 | .fn f cs => if cs.all zgq = true then some ((.fn f cs, []), s) else none
 | v => some ((v, []), s)
def zbT (ow : Bool) (s : St) : List V → Option ((List V × List Nat) × St)
 | [] => some (([], []), s)
 | v :: l => bO (zcK ow s v) fun p => bO (zbT ow p.2 l) fun q => some ((p.1.1 :: q.1.1, p.1.2 ++ q.1.2), q.2)
end
mutual
theorem zmc {α : Type} (ow : Bool) : ∀ (v : V) (s : St) (k : V → List Nat → M α), (exp ow v k).run g s = bO (zcK ow s v) fun q => (k q.1.1 q.1.2).run g q.2
 | .rf a off len, s, k => by
  simp only [exp, rdS, zfe, zcK, zud]
  cases ha : zeE (look s.ar a) with
  | none => rfl
  | some p =>
   obtain ⟨fz, xs⟩ := p
   simp only [bO, zdY]
   by_cases h : off + len ≤ xs.length
   ·simp only [h, decide_true, if_true]
    cases hc : (ow && !fz) with
    | false => simp only [Bool.false_eq_true, if_false]
    | true =>
     simp only [if_true, zik, zfe, ha, bO, zdY]
     by_cases h2 : (decide (off = 0 ∧ len = xs.length) || decide (0 < len)) = true
     ·rw [if_pos h2, if_pos h2]; rfl
     ·rw [if_neg h2, if_neg h2]
   ·simp only [h, decide_false, Bool.false_eq_true, if_false]
 | .ag cs, s, k => by
  simp only [exp, zcK]
  rw [zd4 ow cs]
  cases zbT ow s cs <;> rfl
 | .tu cs, s, k => by
  simp only [exp, zcK]
  rw [zd4 ow cs]
  cases zbT ow s cs <;> rfl
 | .ep .., s, k => rfl
 | .fp .., s, k => rfl
 | .fn f cs, s, k => by
  simp only [exp, zcK, zdY]
  split <;> rfl
 | .sc x, s, k => by simp only [exp, zcK, bO]
 | .ls o xs, s, k => by simp only [exp, zcK, bO]
 | .bx b o, s, k => by simp only [exp, zcK, bO]
 | .mp b, s, k => by simp only [exp, zcK, bO]
theorem zd4 {α : Type} (ow : Bool) : ∀ (l : List V) (s : St) (k : List V → List Nat → M α), (expL ow l k).run g s = bO (zbT ow s l) fun q => (k q.1.1 q.1.2).run g q.2
 | [], s, k => rfl
 | v :: l, s, k => by
  simp only [expL, zbT]
  rw [zmc ow v]
  cases zcK ow s v with
  | none => rfl
  | some p =>
   simp only [bO]
   rw [zd4 ow l]
   cases zbT ow p.2 l <;> rfl
end
def zhb (ow : Nat → Mode) : Nat → St → List V → Option ((List V × List Nat) × St)
 | _, s, [] => some (([], []), s)
 | i, s, v :: l => bO (zcK (ow i).gives s v) fun p => bO (zhb ow (i + 1) p.2 l) fun q => some ((p.1.1 :: q.1.1, p.1.2 ++ q.1.2), q.2)
theorem zmd {α : Type} (ow : Nat → Mode) : ∀ (l : List V) (i : Nat) (s : St) (k : List V → List Nat → M α), (expArgs ow i l k).run g s = bO (zhb ow i s l) fun q => (k q.1.1 q.1.2).run g q.2
 | [], i, s, k => rfl
 | v :: l, i, s, k => by
  simp only [expArgs, zhb]
  rw [zmc]
  cases zcK (ow i).gives s v with
  | none => rfl
  | some p =>
   simp only [bO]
   rw [zmd ow l]
   cases zhb ow (i + 1) p.2 l <;> rfl
/-- the cells of a variable in memory that goes out -/
def zj0 (s : St) (c : Option Cell) : Option ((Cell × List Nat) × St) := match c with
 | some (.b vs) => bO (zbT true s vs) fun q => some ((.b q.1.1, bxsOfL q.1.1), q.2)
 | some (.m es) => some ((.m es, []), s)
 | _ => none
theorem zue (s : St) (vs : List V) : zj0 s (some (.b vs)) = bO (zbT true s vs) fun q => some ((.b q.1.1, bxsOfL q.1.1), q.2) := nr rfl
theorem zuf (s : St) (es : zhx) : zj0 s (some (.m es)) = some ((.m es, []), s) := nr rfl
def zfn : Nat → List Nat → List Nat → List Cell → St → Option ((List Nat × List Cell) × St)
 | 0, _, _, _, _ => none
 | _ + 1, [], done, cs, s => some ((done, cs), s)
 | n + 1, b :: todo, done, cs, s => if done.contains b = true then zfn n todo done cs s else
  bO (zj0 s (look s.bx b)) fun q => zfn n (todo ++ q.1.2) (done ++ [b]) (cs ++ [q.1.1]) { q.2 with bx := setA q.2.bx b .dead }
theorem zfT {α : Type} : ∀ (n : Nat) (todo done : List Nat) (cs : List Cell) (s : St) (k : List Nat → List Cell → M α), (coll n todo done cs k).run g s = bO (zfn n todo done cs s) fun q => (k q.1.1 q.1.2).run g q.2
 | 0, _, _, _, _, _ => rfl
 | _ + 1, [], _, _, _, _ => rfl
 | n + 1, b :: todo, done, cs, s, k => by
  simp only [coll, zfn]
  by_cases h : done.contains b = true
  ·rw [if_pos h, if_pos h]; exact zfT n todo done cs s k
  ·rw [if_neg h, if_neg h]
   simp only [M.run, St.get]
   cases look s.bx b with
   | none => rfl
   | some c =>
    cases c with
    | b vs =>
     simp only [zj0]
     rw [zd4]
     cases zbT true s vs with
     | none => rfl
     | some q =>
      simp only [bO, M.run, St.put]
      exact zfT n _ _ _ _ k
    | m es =>
     simp only [zj0, bO, M.run, St.put, List.append_nil]
     exact zfT n _ _ _ _ k
    | _ => rfl
def zme : List Nat → St → Option Unit
 | [], _ => some ()
 | a :: l, s => bO (zeE (look s.ar a)) fun _ => zme l s
theorem zon {α : Type} : ∀ (l : List Nat) (s : St) (k : M α), (seeA l k).run g s = bO (zme l s) fun _ => k.run g s
 | [], s, k => rfl
 | a :: l, s, k => by
  simp only [seeA, zme, zfe]
  cases zeE (look s.ar a) with
  | none => rfl
  | some p => simp only [bO]; exact zon l s k
def zez : List Nat → St → Option St
 | [], s => some s
 | a :: l, s => bO (zeE (look s.ar a)) fun p => zez l { s with ar := setA s.ar a (.a true p.2) }
theorem zjb {α : Type} : ∀ (l : List Nat) (s : St) (k : M α), (freezeA l k).run g s = bO (zez l s) fun s' => k.run g s'
 | [], s, k => rfl
 | a :: l, s, k => by
  simp only [freezeA, zez, zfe]
  cases zeE (look s.ar a) with
  | none => rfl
  | some p => simp only [bO, M.run, St.put]; exact zjb l _ k
def zh0 (c : Option Cell) : Option Unit := match c with | none => some () | some _ => none
theorem zug : zh0 none = some () := nr rfl
theorem zmf {α : Type} (r : Res) (k : M α) (s : St) : (newR r k).run g s = bO (zh0 (s.get r)) fun _ => k.run g s := by
 simp only [newR, M.run]
 cases s.get r <;> rfl
def zgk : List Nat → St → Option St
 | [], s => some s
 | b :: l, s => bO (zh0 (look s.bx b)) fun _ => zgk l { s with bx := setA s.bx b .dead }
theorem zjc {α : Type} : ∀ (l : List Nat) (s : St) (k : M α), (newBs l k).run g s = bO (zgk l s) fun s' => k.run g s'
 | [], s, k => rfl
 | b :: l, s, k => by
  simp only [newBs, zgk, zmf, St.get]
  cases zh0 (look s.bx b) with
  | none => rfl
  | some p => simp only [bO, M.run, St.put]; exact zjc l _ k
def wrAS : List (Nat × List (List V)) → St → Option St
 | [], s => some s
 | (n, xs) :: l, s => bO (zh0 (look s.ar n)) fun _ => wrAS l { s with ar := setA s.ar n (.a false xs) }
theorem zhc {α : Type} : ∀ (l : List (Nat × List (List V))) (s : St) (k : M α), (wrAs l k).run g s = bO (wrAS l s) fun s' => k.run g s'
 | [], s, k => rfl
 | (n, xs) :: l, s, k => by
  simp only [wrAs, wrAS, zmf, St.get]
  cases zh0 (look s.ar n) with
  | none => rfl
  | some p => simp only [bO, M.run, St.put]; exact zhc l _ k
def zeA : List Nat → List Cell → Nat → St → Option St
 | [], [], _, s => some s
 | b :: bs, .b vs :: cs, n, s => bO (wrAS (impL vs n).2.2 s) fun s' => zeA bs cs (impL vs n).2.1 { s' with bx := setA s'.bx b (.b (impL vs n).1) }
 | b :: bs, .m es :: cs, n, s => zeA bs cs n { s with bx := setA s.bx b (.m es) }
 | _, _, _, _ => none
theorem zhd {α : Type} : ∀ (bs : List Nat) (cs : List Cell) (n : Nat) (s : St) (k : M α), (back bs cs n k).run g s = bO (zeA bs cs n s) fun s' => k.run g s'
 | [], [], _, s, k => rfl
 | b :: bs, .b vs :: cs, n, s, k => by
  simp only [back, zeA, zhc]
  cases wrAS (impL vs n).2.2 s with
  | none => rfl
  | some s' => simp only [bO, M.run, St.put]; exact zhd bs cs _ _ k
 | b :: bs, .m es :: cs, n, s, k => by
  simp only [back, zeA, M.run, St.put]; exact zhd bs cs _ _ k
 | [], .b _ :: _, _, _, _ => rfl
 | [], .m _ :: _, _, _, _ => rfl
 | [], .v _ :: _, _, _, _ => rfl
 | [], .a _ _ :: _, _, _, _ => rfl
 | [], .h _ :: _, _, _, _ => rfl
 | [], .dead :: _, _, _, _ => rfl
 | _ :: _, [], _, _, _ => rfl
 | _ :: _, .v _ :: _, _, _, _ => rfl
 | _ :: _, .a _ _ :: _, _, _, _ => rfl
 | _ :: _, .h _ :: _, _, _, _ => rfl
 | _ :: _, .dead :: _, _, _, _ => rfl
def zmg (p : (V × V) × V) (s : St) : Option St := match p.1.1, p.1.2, p.2 with
 | .rf a _ _, .ls true xs0, .rf d off n => bO (zeE (look s.ar d)) fun q => if (!q.1 && decide (off = 0 ∧ n = q.2.length ∧ q.2.length = xs0.length) && zgf xs0 q.2) = true then some { s with ar := setA (setA s.ar d .dead) a (.a false q.2) } else none
 | .ls true [], _, _ => some s
 | .sc _, _, _ => some s
 | _, _, _ => none
theorem zuh (a o1 n1 : Nat) (xs0 : List (List V)) (d off n : Nat) (s : St) : zmg ((.rf a o1 n1, .ls true xs0), .rf d off n) s = bO (zeE (look s.ar d)) fun q => if (!q.1 && decide (off = 0 ∧ n = q.2.length ∧ q.2.length = xs0.length) && zgf xs0 q.2) = true then some { s with ar := setA (setA s.ar d .dead) a (.a false q.2) } else none := nr rfl
theorem zrt (x y : V) (s : St) : zmg ((.ls true [], x), y) s = some s := nr rfl
theorem zui (z : Value) (x y : V) (s : St) : zmg ((.sc z, x), y) s = some s := nr rfl
def zeB : List ((V × V) × V) → St → Option St
 | [], s => some s
 | p :: l, s => bO (zmg p s) fun s' => zeB l s'
theorem zru {α : Type} (p : (V × V) × V) (l : List ((V × V) × V)) (s : St) (k : M α) : (revive (p :: l) k).run g s = bO (zmg p s) fun s' => (revive l k).run g s' := by
 obtain ⟨⟨x, y⟩, z⟩ := p
 cases x with
 | rf a o1 n1 =>
  cases y with
  | ls o xs0 =>
   cases o with
   | true =>
    cases z with
    | rf d off n =>
     simp only [revive, zmg, zfe]
     cases zeE (look s.ar d) with
     | none => rfl
     | some q =>
      simp only [bO, zdY]
      split <;> rfl
    | _ => rfl
   | false => cases z <;> rfl
  | _ => cases z <;> rfl
 | ls o xs =>
  cases o with
  | true => cases xs <;> cases y <;> cases z <;> rfl
  | false => cases y <;> cases z <;> rfl
 | sc v => cases y <;> cases z <;> rfl
 | _ => cases y <;> cases z <;> rfl
theorem zjd {α : Type} : ∀ (l : List ((V × V) × V)) (s : St) (k : M α), (revive l k).run g s = bO (zeB l s) fun s' => k.run g s'
 | [], s, k => rfl
 | p :: l, s, k => by
  rw [zru]
  simp only [zeB]
  cases zmg p s with
  | none => rfl
  | some s' => simp only [bO]; exact zjd l s' k
def pre1 (v : V) (s : St) : Option Unit := match v with
 | .rf a off len => bO (zeE (look s.ar a)) fun p => if (!p.1 && decide (off = 0 ∧ len = p.2.length)) = true then some () else none
 | .ls true [] => some ()
 | .sc _ => some ()
 | _ => none
theorem zuj (a off len : Nat) (s : St) : pre1 (.rf a off len) s = bO (zeE (look s.ar a)) fun p => if (!p.1 && decide (off = 0 ∧ len = p.2.length)) = true then some () else none := nr rfl
theorem zrv (s : St) : pre1 (.ls true []) s = some () := nr rfl
theorem zuk (z : Value) (s : St) : pre1 (.sc z) s = some () := nr rfl
def zmh : List V → St → Option Unit
 | [], _ => some ()
 | v :: l, s => bO (pre1 v s) fun _ => zmh l s
theorem zoo {α : Type} : ∀ (l : List V) (s : St) (k : M α), (preL l k).run g s = bO (zmh l s) fun _ => k.run g s
 | [], s, k => rfl
 | v :: l, s, k => by
  have h : (preL (v :: l) k).run g s = bO (pre1 v s) fun _ => (preL l k).run g s := by
   cases v with
   | rf a off len =>
    simp only [preL, pre1, zfe]
    cases zeE (look s.ar a) with
    | none => rfl
    | some p =>
     simp only [bO, zdY]
     split <;> rfl
   | ls o xs =>
    cases o with
    | true => cases xs <;> rfl
    | false => rfl
   | _ => rfl
  rw [h]
  simp only [zmh]
  cases pre1 v s with
  | none => rfl
  | some u => simp only [bO]; exact zoo l s k
/-! what was taken is put back -/
def zbL : List V → St → Option (List V × St)
 | [], s => some ([], s)
 | v :: l, s => match v with
  | .rf m off len => bO (zeE (look s.ar m)) fun p => if (decide (off = 0 ∧ len = p.2.length) && !p.1) = true then bO (zbL l { s with ar := setA s.ar m .dead }) fun q => some (.ls true p.2 :: q.1, q.2) else none
  | v => bO (zbL l s) fun q => some (v :: q.1, q.2)
theorem zhI {α : Type} : ∀ (cs : List V) (s : St) (k : List V → M α), (fillC cs k).run g s = bO (zbL cs s) fun q => (k q.1).run g q.2
 | [], s, k => rfl
 | v :: l, s, k => by
  cases v with
  | rf m off len =>
   simp only [fillC, zbL, zfe]
   cases zeE (look s.ar m) with
   | none => rfl
   | some p =>
    simp only [bO, zdY]
    split
    ·simp only [M.run, St.put]
     rw [zhI l]
     cases zbL l { s with ar := setA s.ar m .dead } <;> rfl
    ·rfl
  | _ =>
   simp only [fillC, zbL]
   rw [zhI l]
   cases zbL l s <;> rfl
def zdK : List (List V) → St → Option (List (List V) × St)
 | [], s => some ([], s)
 | cs :: l, s => bO (zbL cs s) fun p => bO (zdK l p.2) fun q => some (p.1 :: q.1, q.2)
theorem zj1 {α : Type} : ∀ (xs : List (List V)) (s : St) (k : List (List V) → M α), (fillX xs k).run g s = bO (zdK xs s) fun q => (k q.1).run g q.2
 | [], s, k => rfl
 | cs :: l, s, k => by
  simp only [fillX, zdK]
  rw [zhI]
  cases zbL cs s with
  | none => rfl
  | some p =>
   simp only [bO]
   rw [zj1 l]
   cases zdK l p.2 <;> rfl
/-- does a row hold names of what was taken out? -/
def zhe (c : Option Cell) : Option (List (List V)) := match c with | some (.h xs) => some xs | _ => none
theorem zul (xs : List (List V)) : zhe (some (.h xs)) = some xs := nr rfl
theorem zum (fz : Bool) (xs : List (List V)) : zhe (some (.a fz xs)) = none := nr rfl
theorem zun : zhe (some .dead) = none := nr rfl
theorem zuo : zhe none = none := nr rfl
def zco : Nat → List Nat → St → Option St
 | 0, _, s => some s
 | _ + 1, [], s => some s
 | n + 1, a :: l, s => match zhe (look s.ar a) with
  | some xs => bO (zco n (zfF xs) s) fun s1 => bO (zhe (look s1.ar a)) fun xs => bO (zdK xs { s1 with ar := setA s1.ar a .dead }) fun q => zco n l { q.2 with ar := setA q.2.ar a (.a false q.1) }
  | none => zco n l s
theorem zd5 {α : Type} : ∀ (n : Nat) (l : List Nat) (s : St) (k : M α), (fillA n l k).run g s = bO (zco n l s) fun s' => k.run g s'
 | 0, _, s, k => rfl
 | _ + 1, [], s, k => rfl
 | n + 1, a :: l, s, k => by
  simp only [fillA, zco, M.run, St.get]
  cases ha : look s.ar a with
  | none => exact zd5 n l s k
  | some c =>
   cases c with
   | h xs =>
    simp only [zhe]
    rw [zd5 n (zfF xs) s]
    cases zco n (zfF xs) s with
    | none => rfl
    | some s1 =>
     simp only [bO, M.run, St.get]
     cases hb : look s1.ar a with
     | none => rfl
     | some c' =>
      cases c' with
      | h ys =>
       simp only [M.run, St.put, bO]
       rw [zj1]
       cases zdK ys { s1 with ar := setA s1.ar a .dead } with
       | none => rfl
       | some q =>
        simp only [bO, M.run, St.put]
        exact zd5 n l _ k
      | _ => rfl
   | _ => exact zd5 n l s k
def zjC (c : Option Cell) : Option (List V) := match c with | some (.b vs) => some vs | _ => none
theorem zwX (vs : List V) : zjC (some (.b vs)) = some vs := nr rfl
theorem zwY (es : zhx) : zjC (some (.m es)) = none := nr rfl
theorem zwZ : zjC (some .dead) = none := nr rfl
theorem zw0 : zjC none = none := nr rfl
def zcL : Nat → List Nat → List Nat → St → Option St
 | 0, _, _, s => some s
 | _ + 1, [], _, s => some s
 | n + 1, b :: todo, done, s => if done.contains b = true then zcL n todo done s else match zjC (look s.bx b) with
  | some vs => bO (zco 40 (arsOfL vs) s) fun s' => zcL n (todo ++ bxsOfL vs) (done ++ [b]) s'
  | none => zcL n todo (done ++ [b]) s
theorem zdm {α : Type} : ∀ (n : Nat) (todo done : List Nat) (s : St) (k : M α), (fillB n todo done k).run g s = bO (zcL n todo done s) fun s' => k.run g s'
 | 0, _, _, s, k => rfl
 | _ + 1, [], _, s, k => rfl
 | n + 1, b :: todo, done, s, k => by
  simp only [fillB, zcL]
  by_cases h : done.contains b = true
  ·rw [if_pos h, if_pos h]; exact zdm n todo done s k
  ·rw [if_neg h, if_neg h]
   simp only [M.run, St.get]
   cases look s.bx b with
   | none => exact zdm n _ _ s k
   | some c =>
    cases c with
    | b vs =>
     simp only [zjC]
     rw [zd5]
     cases zco 40 (arsOfL vs) s with
     | none => rfl
     | some s' => simp only [bO]; exact zdm n _ _ s' k
    | _ => exact zdm n _ _ s k
def zgB (vs : List V) (s : St) : Option St := bO (zco 40 (arsOfL vs) s) fun s' => zcL 20 (bxsOfL vs) [] s'
theorem zhJ {α : Type} (vs : List V) (s : St) (k : M α) : (fillV vs k).run g s = bO (zgB vs s) fun s' => k.run g s' := by
 simp only [fillV, zgB, zd5]
 cases zco 40 (arsOfL vs) s with
 | none => rfl
 | some s' => exact zdm 20 _ _ s' k
/-! a call -/
def zop (own : Nat → Nat → Mode) (g : Ora) (d f : Nat) (args : List V) (s : St) : Option (V × St) :=
 bO (zmh (((lentOf (own f) args.length).map fun i => args.getD i (.tu [])).flatMap cellsOf) s) fun _ =>
 bO (zhb (own f) 0 s args) fun e => bO (zfn 20 (bxsOfL e.1.1) [] [] e.2) fun c => bO (zme e.1.2 c.2) fun _ =>
 bO (g f (renBL (idxOf c.1.1) e.1.1) (c.1.2.map (renC (idxOf c.1.1)))) fun r =>
 let all := c.1.1 ++ (List.range (r.2.length - c.1.1.length)).map fun j => d + j
 let nm := fun i => all.getD i 0
 let q := impL (renBL nm (unpack (lentOf (own f) args.length).length r.1)) d
 bO (zez (if (hasFz r.1 || zcY r.2) = true then e.1.2 else []) c.2) fun s1 => bO (zgk ((List.range (r.2.length - c.1.1.length)).map fun j => d + j) s1) fun s2 => bO (wrAS q.2.2 s2) fun s3 =>
 bO (zeA all (r.2.map (renC nm)) q.2.1 s3) fun s4 =>
 bO (zeB ((((lentOf (own f) args.length).map fun i => (args.getD i (.tu []), e.1.1.getD i (.tu []))).zip (q.1.drop 1)).flatMap split3) s4) fun s5 => some (q.1.getD 0 (.tu []), s5)
theorem zhf {α β γ : Type} (x : Option α) (f : α → Option β) (k : β → Option γ) : bO (bO x f) k = bO x fun a => bO (f a) k := by cases x <;> rfl
theorem zps {α : Type} (d f : Nat) (args : List V) (s : St) (k : V → M α) : (callM own d f args k).run g s = bO (zop own g d f args s) fun q => (k q.1).run g q.2 := by
 unfold callM zop
 simp only [zoo, zmd, zfT, zon, zhf]
 congr 1; funext _
 congr 1; funext e
 congr 1; funext c
 congr 1; funext _
 simp only [M.run]
 cases g f (renBL (idxOf c.1.1) e.1.1) (c.1.2.map (renC (idxOf c.1.1))) with
 | none => rfl
 | some r =>
  simp only [bO, zjb, zjc, zhc, zhd, zjd]
theorem zup (f : Nat) (vs : List V) : zi7 own g d f l vs s = bO (zgB vs s) fun s' => bO (zop own g (1000 * (d + 1)) f vs s') fun q => zc own g l { q.2 with tm := setA q.2.tm d q.1 } := by
 unfold zi7
 rw [zhJ, zhf]
 congr 1; funext s'
 rw [zps, zhf]
 rfl
/-! a store, and rows that are taken -/
def zje (n i off : Nat) (ws : List V) (c : Option Cell) : Option Cell := match c with
 | some (.a false xs) => bO xs[i]? fun cs => if off + n ≤ cs.length then some (.a false (xs.set i (setAt cs off ws))) else none
 | some (.h xs) => bO xs[i]? fun cs => if off + n ≤ cs.length then some (.h (xs.set i (setAt cs off ws))) else none
 | _ => none
theorem zrw (n i off : Nat) (ws : List V) (xs : List (List V)) : zje n i off ws (some (.a false xs)) = bO xs[i]? fun cs => if off + n ≤ cs.length then some (.a false (xs.set i (setAt cs off ws))) else none := nr rfl
theorem zrx (n i off : Nat) (ws : List V) (xs : List (List V)) : zje n i off ws (some (.h xs)) = bO xs[i]? fun cs => if off + n ≤ cs.length then some (.h (xs.set i (setAt cs off ws))) else none := nr rfl
theorem zry (n a i off : Nat) (w : V) : zfR own g l s n (.ep a i off) w = if ((cellsOf w).length = n ∧ (cellsOf w).all one1 = true) then bO (zbT true s (cellsOf w)) fun e => if e.1.1.all zdJ = true then bO (zje n i off e.1.1 (look e.2.ar a)) fun c => zc own g l { e.2 with ar := setA e.2.ar a c } else none else none := by
 unfold zfR
 rw [zdY]
 by_cases h : (cellsOf w).length = n ∧ (cellsOf w).all one1 = true
 ·rw [if_pos h, if_pos (by simp [h.1, h.2])]
  simp only [cloL, zd4, zhf]
  congr 1; funext e
  rw [zdY]
  split
  ·simp only [M.run, St.get]
   cases look e.2.ar a with
   | none => rfl
   | some c =>
    cases c with
    | a fz xs =>
     cases fz with
     | true => rfl
     | false =>
      simp only [Bool.false_eq_true, if_false, zje]
      cases xs[i]? with
      | none => rfl
      | some cs =>
       simp only [bO]
       by_cases h2 : off + n ≤ cs.length
       ·rw [if_pos h2, if_pos h2]; rfl
       ·rw [if_neg h2, if_neg h2]; rfl
    | h xs =>
     simp only [zje]
     cases xs[i]? with
     | none => rfl
     | some cs =>
      simp only [bO]
      by_cases h2 : off + n ≤ cs.length
      ·rw [if_pos h2, if_pos h2]; rfl
      ·rw [if_neg h2, if_neg h2]; rfl
    | _ => rfl
  ·rfl
 ·rw [if_neg h, if_neg (by simpa using h)]; rfl
def zjf (s : St) (n : Nat) (ag : Bool) (a i off d : Nat) (xs : List (List V)) : Option (V × St) := bO xs[i]? fun cs =>
 if (decide (off + (if ag then n else 1) ≤ cs.length ∧ 0 < (if ag then n else 1)) && ((cs.drop off).take (if ag then n else 1)).all tk1 && allLen cs.length xs) = true then
  bO (wrAS (impL ((cs.drop off).take (if ag then n else 1)) d).2.2 { s with ar := setA s.ar a .dead }) fun s1 =>
   some (if ag then .ag (impL ((cs.drop off).take (if ag then n else 1)) d).1 else (impL ((cs.drop off).take (if ag then n else 1)) d).1.getD 0 (.tu []), { s1 with ar := setA s1.ar a (.h (xs.set i (setAt cs off (impL ((cs.drop off).take (if ag then n else 1)) d).1))) })
 else none
theorem zj2 {α : Type} (n : Nat) (ag : Bool) (a : Nat) (xs : List (List V)) (i off d : Nat) (s : St) (k : V → M α) : (takeM n ag a xs i off d k).run g s = bO (zjf s n ag a i off d xs) fun q => (k q.1).run g q.2 := by
 unfold takeM zjf
 cases xs[i]? with
 | none => rfl
 | some cs =>
  simp only [bO, zdY]
  generalize (if ag = true then n else 1) = m
  generalize (decide (off + m ≤ cs.length ∧ 0 < m) && ((cs.drop off).take m).all tk1 && allLen cs.length xs) = c
  cases c with
  | false => rfl
  | true =>
   simp only [if_true, M.run, St.put, zhc]
   generalize wrAS _ _ = z
   cases z <;> rfl
def zjg (s : St) (n : Nat) (ag : Bool) (a i off d : Nat) (c : Option Cell) : Option (V × St) := match c with
 | some (.a true xs) => bO xs[i]? fun cs => bO (ldN n ag true cs off) fun v => some (v, s)
 | some (.a false xs) => zjf s n ag a i off d xs
 | some (.h xs) => zjf s n ag a i off d xs
 | _ => none
theorem zuq (n : Nat) (ag : Bool) (a i off d : Nat) (xs : List (List V)) : zjg s n ag a i off d (some (.a true xs)) = bO xs[i]? fun cs => bO (ldN n ag true cs off) fun v => some (v, s) := nr rfl
theorem zur (n : Nat) (ag : Bool) (a i off d : Nat) (xs : List (List V)) : zjg s n ag a i off d (some (.a false xs)) = zjf s n ag a i off d xs := nr rfl
theorem zus (n : Nat) (ag : Bool) (a i off d : Nat) (xs : List (List V)) : zjg s n ag a i off d (some (.h xs)) = zjf s n ag a i off d xs := nr rfl
theorem zrz (n : Nat) (ag : Bool) (a i off d : Nat) (xs : List (List V)) : zjf s n ag a i off d xs = bO xs[i]? fun cs =>
 if (decide (off + (if ag then n else 1) ≤ cs.length ∧ 0 < (if ag then n else 1)) && ((cs.drop off).take (if ag then n else 1)).all tk1 && allLen cs.length xs) = true then
  bO (wrAS (impL ((cs.drop off).take (if ag then n else 1)) d).2.2 { s with ar := setA s.ar a .dead }) fun s1 =>
   some (if ag then .ag (impL ((cs.drop off).take (if ag then n else 1)) d).1 else (impL ((cs.drop off).take (if ag then n else 1)) d).1.getD 0 (.tu []), { s1 with ar := setA s1.ar a (.h (xs.set i (setAt cs off (impL ((cs.drop off).take (if ag then n else 1)) d).1))) })
 else none := nr rfl
theorem zut (n : Nat) (ag : Bool) (a i off : Nat) : zhX own g d l s n ag (.ep a i off) = bO (zjg s n ag a i off (1000 * (d + 1)) (look s.ar a)) fun q => zc own g l { q.2 with tm := setA q.2.tm d q.1 } := by
 unfold zhX
 simp only [M.run, St.get]
 cases look s.ar a with
 | none => rfl
 | some c =>
  cases c with
  | a fz xs =>
   cases fz with
   | true =>
    simp only [if_true, zjg]
    cases xs[i]? with
    | none => rfl
    | some cs => simp only [bO]; cases ldN n ag true cs off <;> rfl
   | false =>
    simp only [Bool.false_eq_true, if_false, zjg, zj2, zhf]
    rfl
  | h xs => simp only [zjg, zj2, zhf]; rfl
  | _ => rfl
/-! a function's begin and end, the loop's head -/
def zmi : Nat → List V → St → St
 | _, [], s => s
 | n, v :: l, s => zmi (n + 1) l { s with tm := setA s.tm n v }
theorem zoq : ∀ (n : Nat) (vs : List V) (s : St), (zgr n vs).run g s = some ((), zmi n vs s)
 | _, [], s => rfl
 | n, v :: l, s => by simp only [zgr, zmi, M.run, St.put]; exact zoq (n + 1) l _
def zj3 (args : List V) (bxs : List Cell) (s : St) : Option St :=
 bO (zgk (List.range bxs.length) s) fun s1 => bO (wrAS (impL args 0).2.2 s1) fun s2 => bO (zeA (List.range bxs.length) bxs (impL args 0).2.1 s2) fun s3 => some (zmi 0 (impL args 0).1 s3)
theorem zrA (args : List V) (bxs : List Cell) (s : St) : (zjH args bxs).run g s = bO (zj3 args bxs s) fun s' => some ((), s') := by
 unfold zjH zj3
 simp only [zjc, zhc, zhd, zhf, zoq]
 rfl
def zor (v : V) : Option (Nat × Nat) := match v with | .bx b off => some (b, off) | _ => none
theorem zrB (b off : Nat) : zor (.bx b off) = some (b, off) := nr rfl
def zh1 (s : St) : RI → Option V
 | .t n => look s.tm n
 | .c n sz ag => bO (look s.tm n) fun v => bO (zor v) fun p => bO (zjC (look s.bx p.1)) fun cs => if ag then (if p.2 + sz ≤ cs.length then some (.ag ((cs.drop p.2).take sz)) else none) else cs[p.2]?
theorem zrC {α : Type} (x : RI) (s : St) (k : V → M α) : (zoT x k).run g s = bO (zh1 s x) fun v => (k v).run g s := by
 cases x with
 | t n =>
  simp only [zoT, zh1]
  rw [zx]; rfl
 | c n sz ag =>
  simp only [zoT, zh1]
  rw [zx]
  simp only [val]
  cases look s.tm n with
  | none => rfl
  | some v =>
   cases v with
   | bx b off =>
    simp only [bO, zor, rdB, M.run, St.get]
    cases look s.bx b with
    | none => rfl
    | some c =>
     cases c with
     | b cs =>
      simp only [zjC]
      cases ag with
      | true =>
       simp only [if_true]
       by_cases h : off + sz ≤ cs.length
       ·rw [if_pos h, if_pos h]
       ·rw [if_neg h, if_neg h]; rfl
      | false =>
       simp only [Bool.false_eq_true, if_false]
       cases cs[off]? <;> rfl
     | _ => rfl
   | _ => rfl
def zhg (s : St) : List RI → Option (List V)
 | [] => some []
 | x :: l => bO (zh1 s x) fun v => bO (zhg s l) fun vs => some (v :: vs)
theorem zj4 {α : Type} : ∀ (l : List RI) (s : St) (k : List V → M α), (zgU l k).run g s = bO (zhg s l) fun vs => (k vs).run g s
 | [], s, k => rfl
 | x :: l, s, k => by
  simp only [zgU, zhg, zrC]
  cases zh1 s x with
  | none => rfl
  | some v =>
   simp only [bO]
   rw [zj4 l]
   cases zhg s l <;> rfl
def zhh (res : List RI) (lent : List Nat) (nb : Nat) (s : St) : Option (V × List Cell) :=
 bO (zhg s (res ++ lent.map RI.t)) fun vs => bO (zgB vs s) fun s1 => bO (zcL 20 (List.range nb) [] s1) fun s2 => bO (zbT true s2 vs) fun e =>
 bO (zfn 20 (List.range nb ++ bxsOfL e.1.1) [] [] e.2) fun c => some (renB (idxOf c.1.1) (pack lent.length e.1.1), c.1.2.map (renC (idxOf c.1.1)))
theorem znx (res : List RI) (lent : List Nat) (nb : Nat) (s : St) {β : Type} (k : V × List Cell → Option β) : bO ((zfY res lent nb).run g s) (fun x => k x.1) = bO (zhh res lent nb s) k := by
 unfold zfY zhh
 simp only [zj4, zhJ, zdm, zd4, zfT, zhf]
 rfl
noncomputable def zrD (E : Env) (ev : Task → Option Ans) (f : Nat) (av : List V) (bs : List Cell) (x : Option IFun) : Option Ans := match x with
 | none => bO (E.lib f av bs) fun x => some (.val x.1 x.2)
 | some F => if F.lent = lentOf (E.own f) av.length then bO (zj3 av bs ⟨bs.length, [], [], []⟩) fun i => bO (zal E.own ev F.body i) fun r => if r.1.isX = true then none else bO (zhh F.res F.lent bs.length r.2) fun x => some (.val x.1 x.2) else none
theorem zpt (E : Env) (ev : Task → Option Ans) (f : Nat) (av : List V) (bs : List Cell) : body E ev (.call f av bs) = zrD E ev f av bs (E.fn f) := by
 simp only [body, zrD]
 cases E.fn f with
 | none => rfl
 | some F =>
  simp only
  by_cases h : F.lent = lentOf (E.own f) av.length
  ·rw [if_pos h, if_pos h]
   simp only [bO]
   rw [zrA]
   cases zj3 av bs ⟨bs.length, [], [], []⟩ with
   | none => rfl
   | some i =>
    simp only [bO]
    cases zal E.own ev F.body i with
    | none => rfl
    | some r =>
     simp only
     split
     ·rfl
     ·exact znx F.res F.lent bs.length r.2 fun x => some (Ans.val x.1 x.2)
  ·rw [if_neg h, if_neg h]; rfl
theorem zny (E : Env) (ev : Task → Option Ans) (f : Nat) (av : List V) (bs : List Cell) (F : IFun) : zrD E ev f av bs (some F) = if F.lent = lentOf (E.own f) av.length then bO (zj3 av bs ⟨bs.length, [], [], []⟩) fun i => bO (zal E.own ev F.body i) fun r => if r.1.isX = true then none else bO (zhh F.res F.lent bs.length r.2) fun x => some (.val x.1 x.2) else none := nr rfl
theorem zw1 (keep : List Nat) (s : St) : zjB keep s = bO (zgB ((keepT s keep).map (·.2)) s) fun s1 => bO (zcL 20 (List.range s.np) [] s1) fun s2 => norm0 keep (nameE { s2 with tm := keepT s2 keep }) := by
 unfold zjB
 simp only [zhJ, zdm, zhf]
 rfl
/-! lookups in steps of eight -/
def nk : List Nat → Nat → Bool
 | [], _ => true
 | k :: l, n => (k != n) && nk l n
theorem zrE {α : Type} (n : Nat) (v : α) (l : List (Nat × α)) : look ((n, v) :: l) n = some v := by simp [look]
theorem zpu {α : Type} (k : Nat) (v : α) (l : List (Nat × α)) (n : Nat) (h : nk [k] n = true) : look ((k, v) :: l) n = look l n := by
 simp only [nk, Bool.and_true, bne_iff_ne, ne_eq] at h
 simp [look, h]
theorem zrF {α : Type} (n : Nat) (v x : α) (l : List (Nat × α)) : setA ((n, v) :: l) n x = (n, x) :: l := by simp [setA]
theorem zpv {α : Type} (k : Nat) (v x : α) (l : List (Nat × α)) (n : Nat) (h : nk [k] n = true) : setA ((k, v) :: l) n x = (k, v) :: setA l n x := by
 simp only [nk, Bool.and_true, bne_iff_ne, ne_eq] at h
 simp [setA, h]
theorem zw2 {α : Type} (k1 k2 k3 k4 k5 k6 k7 k8 : Nat) (v1 v2 v3 v4 v5 v6 v7 v8 : α) (l : List (Nat × α)) (n : Nat) (h : nk [k1, k2, k3, k4, k5, k6, k7, k8] n = true) : look ((k1, v1) :: (k2, v2) :: (k3, v3) :: (k4, v4) :: (k5, v5) :: (k6, v6) :: (k7, v7) :: (k8, v8) :: l) n = look l n := by
 simp only [nk, Bool.and_true, Bool.and_eq_true, bne_iff_ne, ne_eq] at h
 obtain ⟨h1, h2, h3, h4, h5, h6, h7, h8⟩ := h
 simp [look, h1, h2, h3, h4, h5, h6, h7, h8]
theorem zw3 {α : Type} (k1 k2 k3 k4 k5 k6 k7 k8 : Nat) (v1 v2 v3 v4 v5 v6 v7 v8 x : α) (l : List (Nat × α)) (n : Nat) (h : nk [k1, k2, k3, k4, k5, k6, k7, k8] n = true) : setA ((k1, v1) :: (k2, v2) :: (k3, v3) :: (k4, v4) :: (k5, v5) :: (k6, v6) :: (k7, v7) :: (k8, v8) :: l) n x = (k1, v1) :: (k2, v2) :: (k3, v3) :: (k4, v4) :: (k5, v5) :: (k6, v6) :: (k7, v7) :: (k8, v8) :: setA l n x := by
 simp only [nk, Bool.and_true, Bool.and_eq_true, bne_iff_ne, ne_eq] at h
 obtain ⟨h1, h2, h3, h4, h5, h6, h7, h8⟩ := h
 simp [setA, h1, h2, h3, h4, h5, h6, h7, h8]
/-! these functions, step by step -/
theorem zuu (ow : Bool) (s : St) (a off len : Nat) : zcK ow s (.rf a off len) = zud ow s a off len := nr (by simp only [zcK])
theorem zuv (ow : Bool) (s : St) (a off len : Nat) : zud ow s a off len = bO (zeE (look s.ar a)) fun p => if off + len ≤ p.2.length then (if (ow && !p.1) = true then (if (decide (off = 0 ∧ len = p.2.length) || decide (0 < len)) = true then some ((.ls true (sub p.2 off len), []), { s with ar := setA s.ar a .dead }) else none) else some ((.ls false (zbM (sub p.2 off len)), if p.1 then [] else [a]), s)) else none := nr rfl
theorem zuw (ow : Bool) (s : St) (cs : List V) : zcK ow s (.ag cs) = bO (zbT ow s cs) fun q => some ((.ag q.1.1, q.1.2), q.2) := nr (by simp only [zcK])
theorem zux (ow : Bool) (s : St) (cs : List V) : zcK ow s (.tu cs) = bO (zbT ow s cs) fun q => some ((.tu q.1.1, q.1.2), q.2) := nr (by simp only [zcK])
theorem zuy (ow : Bool) (s : St) (f : Nat) (cs : List V) : zcK ow s (.fn f cs) = if cs.all zgq = true then some ((.fn f cs, []), s) else none := nr (by simp only [zcK])
theorem zuz (ow : Bool) (s : St) (x : Value) : zcK ow s (.sc x) = some ((.sc x, []), s) := nr (by simp only [zcK])
theorem zuA (ow : Bool) (s : St) (o : Bool) (xs : List (List V)) : zcK ow s (.ls o xs) = some ((.ls o xs, []), s) := nr (by simp only [zcK])
theorem zuB (ow : Bool) (s : St) (b o : Nat) : zcK ow s (.bx b o) = some ((.bx b o, []), s) := nr (by simp only [zcK])
theorem zuC (ow : Bool) (s : St) (b : Nat) : zcK ow s (.mp b) = some ((.mp b, []), s) := nr (by simp only [zcK])
theorem zuD (ow : Bool) (s : St) : zbT ow s [] = some (([], []), s) := nr rfl
theorem zuE (ow : Bool) (s : St) (v : V) (l : List V) : zbT ow s (v :: l) = bO (zcK ow s v) fun p => bO (zbT ow p.2 l) fun q => some ((p.1.1 :: q.1.1, p.1.2 ++ q.1.2), q.2) := nr (by simp only [zbT])
theorem zuF (ow : Nat → Mode) (i : Nat) (s : St) : zhb ow i s [] = some (([], []), s) := nr rfl
theorem zuG (ow : Nat → Mode) (i : Nat) (s : St) (v : V) (l : List V) : zhb ow i s (v :: l) = bO (zcK (ow i).gives s v) fun p => bO (zhb ow (i + 1) p.2 l) fun q => some ((p.1.1 :: q.1.1, p.1.2 ++ q.1.2), q.2) := nr rfl
theorem zuH (n : Nat) (done : List Nat) (cs : List Cell) (s : St) : zfn (n + 1) [] done cs s = some ((done, cs), s) := nr rfl
theorem zuI (n : Nat) (b : Nat) (todo done : List Nat) (cs : List Cell) (s : St) : zfn (n + 1) (b :: todo) done cs s = if done.contains b = true then zfn n todo done cs s else
  bO (zj0 s (look s.bx b)) fun q => zfn n (todo ++ q.1.2) (done ++ [b]) (cs ++ [q.1.1]) { q.2 with bx := setA q.2.bx b .dead } := nr rfl
theorem zw4 (s : St) : zme [] s = some () := nr rfl
theorem zw5 (a : Nat) (l : List Nat) (s : St) : zme (a :: l) s = bO (zeE (look s.ar a)) fun _ => zme l s := nr rfl
theorem zpw (s : St) : zez [] s = some s := nr rfl
theorem zpx (a : Nat) (l : List Nat) (s : St) : zez (a :: l) s = bO (zeE (look s.ar a)) fun p => zez l { s with ar := setA s.ar a (.a true p.2) } := nr rfl
theorem zuJ (s : St) : zgk [] s = some s := nr rfl
theorem zuK (b : Nat) (l : List Nat) (s : St) : zgk (b :: l) s = bO (zh0 (look s.bx b)) fun _ => zgk l { s with bx := setA s.bx b .dead } := nr rfl
theorem zw6 (s : St) : wrAS [] s = some s := nr rfl
theorem zw7 (n : Nat) (xs : List (List V)) (l : List (Nat × List (List V))) (s : St) : wrAS ((n, xs) :: l) s = bO (zh0 (look s.ar n)) fun _ => wrAS l { s with ar := setA s.ar n (.a false xs) } := nr rfl
theorem zuL (n : Nat) (s : St) : zeA [] [] n s = some s := nr rfl
theorem zuM (b : Nat) (bs : List Nat) (vs : List V) (cs : List Cell) (n : Nat) (s : St) : zeA (b :: bs) (.b vs :: cs) n s = bO (wrAS (impL vs n).2.2 s) fun s' => zeA bs cs (impL vs n).2.1 { s' with bx := setA s'.bx b (.b (impL vs n).1) } := nr rfl
theorem zuN (b : Nat) (bs : List Nat) (es : zhx) (cs : List Cell) (n : Nat) (s : St) : zeA (b :: bs) (.m es :: cs) n s = zeA bs cs n { s with bx := setA s.bx b (.m es) } := nr rfl
theorem zpy (s : St) : zeB [] s = some s := nr rfl
theorem zpz (p : (V × V) × V) (l : List ((V × V) × V)) (s : St) : zeB (p :: l) s = bO (zmg p s) fun s' => zeB l s' := nr rfl
theorem zw8 (s : St) : zmh [] s = some () := nr rfl
theorem zw9 (v : V) (l : List V) (s : St) : zmh (v :: l) s = bO (pre1 v s) fun _ => zmh l s := nr rfl
theorem zrG (s : St) : zbL [] s = some ([], s) := nr rfl
theorem zpA (m off len : Nat) (l : List V) (s : St) : zbL (.rf m off len :: l) s = bO (zeE (look s.ar m)) fun p => if (decide (off = 0 ∧ len = p.2.length) && !p.1) = true then bO (zbL l { s with ar := setA s.ar m .dead }) fun q => some (.ls true p.2 :: q.1, q.2) else none := nr rfl
theorem zpB (x : Value) (l : List V) (s : St) : zbL (.sc x :: l) s = bO (zbL l s) fun q => some (.sc x :: q.1, q.2) := nr rfl
theorem zpC (o : Bool) (x : List (List V)) (l : List V) (s : St) : zbL (.ls o x :: l) s = bO (zbL l s) fun q => some (.ls o x :: q.1, q.2) := nr rfl
theorem zrH (n : Nat) (s : St) : zco n [] s = some s := nr (by cases n <;> rfl)
theorem zrI (n : Nat) (a : Nat) (l : List Nat) (s : St) : zco (n + 1) (a :: l) s = match zhe (look s.ar a) with
  | some xs => bO (zco n (zfF xs) s) fun s1 => bO (zhe (look s1.ar a)) fun xs => bO (zdK xs { s1 with ar := setA s1.ar a .dead }) fun q => zco n l { q.2 with ar := setA q.2.ar a (.a false q.1) }
  | none => zco n l s := nr rfl
theorem zrJ (n : Nat) (done : List Nat) (s : St) : zcL n [] done s = some s := nr (by cases n <;> rfl)
theorem zrK (n : Nat) (b : Nat) (todo done : List Nat) (s : St) : zcL (n + 1) (b :: todo) done s = if done.contains b = true then zcL n todo done s else match zjC (look s.bx b) with
  | some vs => bO (zco 40 (arsOfL vs) s) fun s' => zcL n (todo ++ bxsOfL vs) (done ++ [b]) s'
  | none => zcL n todo (done ++ [b]) s := nr rfl
theorem zpD (vs : List V) (s : St) : zgB vs s = bO (zco 40 (arsOfL vs) s) fun s' => zcL 20 (bxsOfL vs) [] s' := nr rfl
theorem zrL (own : Nat → Nat → Mode) (g : Ora) (d f : Nat) (args : List V) (s : St) : zop own g d f args s =
 bO (zmh (((lentOf (own f) args.length).map fun i => args.getD i (.tu [])).flatMap cellsOf) s) fun _ =>
 bO (zhb (own f) 0 s args) fun e => bO (zfn 20 (bxsOfL e.1.1) [] [] e.2) fun c => bO (zme e.1.2 c.2) fun _ =>
 bO (g f (renBL (idxOf c.1.1) e.1.1) (c.1.2.map (renC (idxOf c.1.1)))) fun r =>
 bO (zez (if (hasFz r.1 || zcY r.2) = true then e.1.2 else []) c.2) fun s1 => bO (zgk ((List.range (r.2.length - c.1.1.length)).map fun j => d + j) s1) fun s2 => bO (wrAS (impL (renBL (fun i => (c.1.1 ++ (List.range (r.2.length - c.1.1.length)).map fun j => d + j).getD i 0) (unpack (lentOf (own f) args.length).length r.1)) d).2.2 s2) fun s3 =>
 bO (zeA (c.1.1 ++ (List.range (r.2.length - c.1.1.length)).map fun j => d + j) (r.2.map (renC fun i => (c.1.1 ++ (List.range (r.2.length - c.1.1.length)).map fun j => d + j).getD i 0)) (impL (renBL (fun i => (c.1.1 ++ (List.range (r.2.length - c.1.1.length)).map fun j => d + j).getD i 0) (unpack (lentOf (own f) args.length).length r.1)) d).2.1 s3) fun s4 =>
 bO (zeB ((((lentOf (own f) args.length).map fun i => (args.getD i (.tu []), e.1.1.getD i (.tu []))).zip ((impL (renBL (fun i => (c.1.1 ++ (List.range (r.2.length - c.1.1.length)).map fun j => d + j).getD i 0) (unpack (lentOf (own f) args.length).length r.1)) d).1.drop 1)).flatMap split3) s4) fun s5 => some ((impL (renBL (fun i => (c.1.1 ++ (List.range (r.2.length - c.1.1.length)).map fun j => d + j).getD i 0) (unpack (lentOf (own f) args.length).length r.1)) d).1.getD 0 (.tu []), s5) := nr rfl
theorem zxa (n : Nat) (s : St) : zmi n [] s = s := nr rfl
theorem zxb (n : Nat) (v : V) (l : List V) (s : St) : zmi n (v :: l) s = zmi (n + 1) l { s with tm := setA s.tm n v } := nr rfl
theorem zrM (args : List V) (bxs : List Cell) (s : St) : zj3 args bxs s = bO (zgk (List.range bxs.length) s) fun s1 => bO (wrAS (impL args 0).2.2 s1) fun s2 => bO (zeA (List.range bxs.length) bxs (impL args 0).2.1 s2) fun s3 => some (zmi 0 (impL args 0).1 s3) := nr rfl
theorem zuO (s : St) (n : Nat) : zh1 s (.t n) = look s.tm n := nr rfl
theorem zuP (s : St) (n sz : Nat) (ag : Bool) : zh1 s (.c n sz ag) = bO (look s.tm n) fun v => bO (zor v) fun p => bO (zjC (look s.bx p.1)) fun cs => if ag then (if p.2 + sz ≤ cs.length then some (.ag ((cs.drop p.2).take sz)) else none) else cs[p.2]? := nr rfl
theorem zuQ (s : St) : zhg s [] = some [] := nr rfl
theorem zuR (s : St) (x : RI) (l : List RI) : zhg s (x :: l) = bO (zh1 s x) fun v => bO (zhg s l) fun vs => some (v :: vs) := nr rfl
theorem znz (res : List RI) (lent : List Nat) (nb : Nat) (s : St) : zhh res lent nb s =
 bO (zhg s (res ++ lent.map RI.t)) fun vs => bO (zgB vs s) fun s1 => bO (zcL 20 (List.range nb) [] s1) fun s2 => bO (zbT true s2 vs) fun e =>
 bO (zfn 20 (List.range nb ++ bxsOfL e.1.1) [] [] e.2) fun c => some (renB (idxOf c.1.1) (pack lent.length e.1.1), c.1.2.map (renC (idxOf c.1.1))) := nr rfl
/-! steps without matches -/
theorem zrN (c x y : Ar) : zc own g (⟨some d, .pick c x y, none⟩ :: l) s = bO (val s c) fun v => bO (zjW v) fun t => bO (if t = true then val s x else val s y) fun v => zc own g l { s with tm := setA s.tm d v } := by
 rw [ztn]
 cases val s c with
 | none => rfl
 | some v =>
  cases v with
  | sc u => cases u <;> rfl
  | _ => rfl
theorem zuS (x : Ar) : zc own g (⟨some d, .un .not x, none⟩ :: l) s = bO (val s x) fun v => bO (zjW v) fun t => zc own g l { s with tm := setA s.tm d (.sc (.bool !t)) } := by
 rw [zwA]
 cases val s x with
 | none => rfl
 | some v =>
  cases v with
  | sc u => cases u <;> rfl
  | _ => rfl
def zvB (c : IntKind) (v : V) : Option V := match v with | .sc (.int _ n) => some (.sc (.int c (c.wrap n))) | _ => none
theorem zuT (c k : IntKind) (n : Int) : zvB c (.sc (.int k n)) = some (.sc (.int c (c.wrap n))) := nr rfl
theorem zrO (c : IntKind) (x : Ar) : zc own g (⟨some d, .conv c x, none⟩ :: l) s = bO (val s x) fun v => bO (zvB c v) fun v => zc own g l { s with tm := setA s.tm d v } := by
 rw [ztp]
 cases val s x with
 | none => rfl
 | some v =>
  cases v with
  | sc u => cases u <;> rfl
  | _ => rfl
def znA (v : V) : Option (Option Bool) := match v with | .sc (.bool b) => some (some b) | .tu [] => some none | _ => none
theorem zrP (b : Bool) : znA (.sc (.bool b)) = some (some b) := nr rfl
theorem zrQ : znA (.tu []) = some none := nr rfl
def znB (own : Nat → Nat → Mode) (g : Ora) (d : Nat) (op : IOp) (l : List Opn) (s : St) (want : Bool) (q : Option Bool) : Option St := match q with
 | some b => if b = want then zc own g (⟨some d, op, none⟩ :: l) s else zc own g l { s with tm := setA s.tm d (.tu []) }
 | none => zc own g l { s with tm := setA s.tm d (.tu []) }
theorem zrR (op : IOp) (want b : Bool) : znB own g d op l s want (some b) = if b = want then zc own g (⟨some d, op, none⟩ :: l) s else zc own g l { s with tm := setA s.tm d (.tu []) } := nr rfl
theorem zrS (op : IOp) (want : Bool) : znB own g d op l s want none = zc own g l { s with tm := setA s.tm d (.tu []) } := nr rfl
theorem zpE (op : IOp) (j : Nat) (want : Bool) : zc own g (⟨some d, op, some (j, want)⟩ :: l) s = bO (look s.tm j) fun v => bO (znA v) fun q => znB own g d op l s want q := by
 rw [zq2]
 cases look s.tm j with
 | none => rfl
 | some v =>
  cases v with
  | sc u => cases u <;> rfl
  | tu vs => cases vs <;> rfl
  | _ => rfl
theorem zrT (own : Nat → Nat → Mode) (e : Task → Option Ans) (c : Ar) (x y : IC) (s : St) : zal own e (.cond c x y) s = bO (val s c) fun v => bO (zjW v) fun b => if b = true then zal own e x s else zal own e y s := by
 rw [ztu]
 cases val s c with
 | none => rfl
 | some v =>
  cases v with
  | sc u => cases u <;> rfl
  | _ => rfl
def zrU (v w : V) : Option (IntKind × Int × Int) := match v, w with | .sc (.int a n), .sc (.int _ m) => some (a, n, m) | _, _ => none
theorem zuU (a b : IntKind) (n m : Int) : zrU (.sc (.int a n)) (.sc (.int b m)) = some (a, n, m) := nr rfl
theorem zxc (x y : Ar) : zc own g (⟨some d, .mn x y, none⟩ :: l) s = bO (val s x) fun v => bO (val s y) fun w => bO (zrU v w) fun q => zc own g l { s with tm := setA s.tm d (.sc (.int q.1 (if q.2.2 < q.2.1 then q.2.2 else q.2.1))) } := by
 rw [ro_mn]
 cases val s x with
 | none => rfl
 | some v =>
  simp only [bO]
  cases val s y with
  | none => rfl
  | some w =>
   cases v with
   | sc u =>
    cases u with
    | int a n =>
     cases w with
     | sc t => cases t <;> rfl
     | _ => rfl
    | _ => rfl
   | _ => rfl
theorem zxd (x y : Ar) : zc own g (⟨some d, .mx x y, none⟩ :: l) s = bO (val s x) fun v => bO (val s y) fun w => bO (zrU v w) fun q => zc own g l { s with tm := setA s.tm d (.sc (.int q.1 (if q.2.1 < q.2.2 then q.2.2 else q.2.1))) } := by
 rw [ro_mx]
 cases val s x with
 | none => rfl
 | some v =>
  simp only [bO]
  cases val s y with
  | none => rfl
  | some w =>
   cases v with
   | sc u =>
    cases u with
    | int a n =>
     cases w with
     | sc t => cases t <;> rfl
     | _ => rfl
    | _ => rfl
   | _ => rfl
end Go.Pv
