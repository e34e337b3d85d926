/- Proof: steps of the evaluation as equations. No condition. -/
import Derived.Test.YtaadneenebhnoaaGreatDoorPvF
set_option autoImplicit true
set_option relaxedAutoImplicit true
set_option linter.unusedSimpArgs false
set_option linter.unusedVariables false
namespace Go.Pv
set_option maxRecDepth 8000
theorem nr {α : Sort u} {a b : α} (h : a = b) : a = b := h
theorem zq0 {α : Type} (n : Nat) : look ([] : List (Nat × α)) n = none := nr rfl
theorem zxI {α : Type} (k : Nat) (v : α) (l : List (Nat × α)) (n : Nat) : look ((k, v) :: l) n = if k = n then some v else look l n := nr rfl
theorem zq1 {α : Type} (n : Nat) (x : α) : setA ([] : List (Nat × α)) n x = [(n, x)] := nr rfl
theorem zxJ {α : Type} (k : Nat) (v : α) (l : List (Nat × α)) (n : Nat) (x : α) : setA ((k, v) :: l) n x = if k = n then (n, x) :: l else (k, v) :: setA l n x := nr rfl
/-- an operand's value -/
def val (s : St) : Ar → Option V
 | .t n => look s.tm n
 | .c v => some v
 | .no => none
theorem val_t (s : St) (n : Nat) : val s (.t n) = look s.tm n := nr rfl
theorem val_c (s : St) (v : V) : val s (.c v) = some v := nr rfl
theorem zx {α : Type} (g : Ora) (x : Ar) (s : St) (k : V → M α) : (x.get k).run g s = bO (val s x) fun v => (k v).run g s := by
 cases x with
 | t n => simp only [Ar.get, M.run, St.get, val]; cases look s.tm n <;> rfl
 | c v => rfl
 | no => rfl
def putT (s : St) (d : Nat) (v : V) : St := { s with tm := setA s.tm d v }
variable {own : Nat → Nat → Mode} {g : Ora} {l : List Opn} {s : St} {d : Nat}
theorem ro_mv (x : Ar) : zc own g (⟨some d, .mv x, none⟩ :: l) s = bO (val s x) fun v => zc own g l { s with tm := setA s.tm d v } := by
 simp only [zc, z9, sem, zx]
 cases val s x <;> rfl
def ztj (j : Nat) : V → Option V
 | .bx b off => some (.bx b (off + j))
 | .ep a i off => some (.ep a i (off + j))
 | .fp xs i off => some (.fp xs i (off + j))
 | _ => none
theorem zwv (j : Nat) (x : Ar) : zc own g (⟨some d, .fld j x, none⟩ :: l) s = bO (val s x) fun v => bO (ztj j v) fun v => zc own g l { s with tm := setA s.tm d v } := by
 simp only [zc, z9, sem, zx]
 cases val s x with
 | none => rfl
 | some v => cases v <;> rfl
def zww : V → Option V
 | .rf _ _ len => some (int len)
 | .ls _ xs => some (int xs.length)
 | _ => none
theorem zwx (x : Ar) : zc own g (⟨some d, .len 0 x, none⟩ :: l) s = bO (val s x) fun v => bO (zww v) fun v => zc own g l { s with tm := setA s.tm d v } := by
 simp only [zc, z9, sem, zx]
 cases val s x with
 | none => rfl
 | some v => cases v <;> rfl
theorem zwy (op : BinOp) (x y : Ar) : zc own g (⟨some d, .bin op x y, none⟩ :: l) s = bO (val s x) fun v => bO (val s y) fun w => bO (zbs op v w) fun v => zc own g l { s with tm := setA s.tm d v } := by
 simp only [zc, z9, sem, zx]
 cases val s x with
 | none => rfl
 | some v =>
  simp only [bO, zx]
  cases val s y with
  | none => rfl
  | some w => cases h : zbs op v w <;> simp [h, optK, bO, M.run, finR, St.put]
def zi6 (s : St) (n : Nat) (ag : Bool) : V → Option V
 | .bx b off => match look s.bx b with
  | some (.b cs) => if ag then (if off + n ≤ cs.length then some (.ag ((cs.drop off).take n)) else none) else cs[off]?
  | _ => none
 | .ep a i off => match look s.ar a with
  | some (.a fz xs) => match xs[i]? with | some cs => ldN n ag fz cs off | none => none
  | _ => none
 | .fp xs i off => match xs[i]? with | some cs => ldN n ag true cs off | none => none
 | _ => none
theorem ztk (n : Nat) (ag : Bool) (x : Ar) : zc own g (⟨some d, .load n ag x, none⟩ :: l) s = bO (val s x) fun v => bO (zi6 s n ag v) fun v => zc own g l { s with tm := setA s.tm d v } := by
 simp only [zc, z9, sem, zx]
 cases val s x with
 | none => rfl
 | some v =>
  cases v with
  | bx b off =>
   simp only [bO, zi6, rdB, M.run, St.get]
   cases look s.bx b with
   | none => rfl
   | some c =>
    cases c with
    | b cs =>
     cases ag
     ·cases h : cs[off]? <;> simp [h, optK, bO, M.run, finR, St.put]
     ·by_cases h : off + n ≤ cs.length <;> simp [h, optK, bO, M.run, finR, St.put]
    | _ => rfl
  | ep a i off =>
   simp only [bO, zi6, rdA, M.run, St.get]
   cases look s.ar a with
   | none => rfl
   | some c =>
    cases c with
    | a fz xs =>
     cases h : xs[i]? with
     | none => simp only [h, bO, M.run]
     | some cs => cases h2 : ldN n ag fz cs off <;> simp [h, h2, optK, bO, M.run, finR, St.put]
    | _ => rfl
  | fp xs i off =>
   simp only [bO, zi6]
   cases h : xs[i]? with
   | none => simp [bO, M.run]
   | some cs => cases h2 : ldN n ag true cs off <;> simp [h2, optK, bO, M.run, finR, St.put]
  | _ => rfl
def zpa (s : St) (a : Nat) : Option (List (List V)) := match look s.ar a with | some (.a _ xs) => some xs | some (.h xs) => some xs | _ => none
theorem ztl {α : Type} (a : Nat) (k : List (List V) → M α) : (rdX a k).run g s = bO (zpa s a) fun xs => (k xs).run g s := by
 simp only [rdX, M.run, St.get, zpa]
 cases look s.ar a with
 | none => rfl
 | some c => cases c <;> rfl
def ztm (s : St) (sz : Nat) (v w : V) : Option V :=
 match w with
 | .sc (.int _ n) => match v with
  | .rf a off len => bO (zpa s a) fun xs => if 0 ≤ n ∧ n < len then (if (decide (off + len ≤ xs.length) && allLen sz xs) then some (.ep a (off + n.toNat) 0) else none) else none
  | .ls _ xs => if 0 ≤ n ∧ n < xs.length then (if allLen sz xs then some (.fp xs n.toNat 0) else none) else none
  | _ => none
 | _ => none
theorem zwz (sz : Nat) (x i : Ar) : zc own g (⟨some d, .idx sz x i, none⟩ :: l) s = bO (val s x) fun v => bO (val s i) fun w => bO (ztm s sz v w) fun v => zc own g l { s with tm := setA s.tm d v } := by
 simp only [zc, z9, sem, zx]
 cases val s x with
 | none => rfl
 | some v =>
  simp only [bO, zx]
  cases val s i with
  | none => rfl
  | some w =>
   cases w with
   | sc u =>
    cases u with
    | int k n =>
     simp only [asI, ztm]
     cases v with
     | rf a off len =>
      simp only [ztl]
      cases zpa s a with
      | none => rfl
      | some xs =>
       simp only [bO]
       by_cases h : 0 ≤ n ∧ n < len
       ·cases h2 : (decide (off + len ≤ xs.length) && allLen sz xs) <;> simp [h, h2, chk, M.run, finR, St.put]
       ·simp [h, M.run]
     | ls o xs =>
      by_cases h : 0 ≤ n ∧ n < xs.length
      ·cases h2 : allLen sz xs <;> simp [h, h2, chk, bO, M.run, finR, St.put]
      ·simp [h, bO, M.run]
     | _ => rfl
    | _ => rfl
   | _ => rfl
theorem ztn (c x y : Ar) : zc own g (⟨some d, .pick c x y, none⟩ :: l) s = bO (val s c) fun v => match v with | .sc (.bool t) => bO (if t then val s x else val s y) fun v => zc own g l { s with tm := setA s.tm d v } | _ => none := by
 simp only [zc, z9, sem, zx]
 cases val s c with
 | none => rfl
 | some v =>
  cases v with
  | sc u =>
   cases u with
   | bool t =>
    cases t
    ·simp only [bO, asB, zx, Bool.false_eq_true, if_false]
     cases val s y <;> rfl
    ·simp only [bO, asB, zx, if_true]
     cases val s x <;> rfl
   | _ => rfl
  | _ => rfl
theorem zwA (x : Ar) : zc own g (⟨some d, .un .not x, none⟩ :: l) s = bO (val s x) fun v => match v with | .sc (.bool t) => zc own g l { s with tm := setA s.tm d (bool !t) } | _ => none := by
 simp only [zc, z9, sem, zx]
 cases val s x with
 | none => rfl
 | some v =>
  cases v with
  | sc u => cases u <;> rfl
  | _ => rfl
def zwB (j : Nat) : V → Option V
 | .tu vs => vs[j]?
 | _ => none
theorem zwC (j : Nat) (x : Ar) : zc own g (⟨some d, .ext j x, none⟩ :: l) s = bO (val s x) fun v => bO (zwB j v) fun v => zc own g l { s with tm := setA s.tm d v } := by
 simp only [zc, z9, sem, zx]
 cases val s x with
 | none => rfl
 | some v =>
  cases v with
  | tu vs => cases h : vs[j]? <;> simp [h, zwB, optK, bO, M.run, finR, St.put]
  | _ => rfl
def zom (off n : Nat) (ag : Bool) : V → Option V
 | .ag cs => if ag then (if off + n ≤ cs.length then some (.ag ((cs.drop off).take n)) else none) else cs[off]?
 | _ => none
theorem zto (off n : Nat) (ag : Bool) (x : Ar) : zc own g (⟨some d, .fget off n ag x, none⟩ :: l) s = bO (val s x) fun v => bO (zom off n ag v) fun v => zc own g l { s with tm := setA s.tm d v } := by
 simp only [zc, z9, sem, zx]
 cases val s x with
 | none => rfl
 | some v =>
  cases v with
  | ag cs =>
   cases ag
   ·cases h : cs[off]? <;> simp [h, zom, optK, bO, M.run, finR, St.put]
   ·by_cases h : off + n ≤ cs.length <;> simp [h, zom, optK, bO, M.run, finR, St.put]
  | _ => rfl
theorem ztp (c : IntKind) (x : Ar) : zc own g (⟨some d, .conv c x, none⟩ :: l) s = bO (val s x) fun v => match v with | .sc (.int _ n) => zc own g l { s with tm := setA s.tm d (intK c (c.wrap n)) } | _ => none := by
 simp only [zc, z9, sem, zx]
 cases val s x with
 | none => rfl
 | some v =>
  cases v with
  | sc u => cases u <;> rfl
  | _ => rfl
/-- with a guard: as without, or nothing -/
theorem zq2 (op : IOp) (j : Nat) (want : Bool) : zc own g (⟨some d, op, some (j, want)⟩ :: l) s = bO (look s.tm j) fun v => match v with
  | .sc (.bool b) => if b = want then zc own g (⟨some d, op, none⟩ :: l) s else zc own g l { s with tm := setA s.tm d (.tu []) }
  | .tu [] => zc own g l { s with tm := setA s.tm d (.tu []) }
  | _ => none := by
 simp only [zc, z9, M.run, St.get]
 cases look s.tm j with
 | none => rfl
 | some v =>
  cases v with
  | sc u =>
   cases u with
   | bool b =>
    simp only [Option.map_some, bO]
    by_cases h : b = want
    ·simp only [h, if_true]
    ·simp only [h, if_false]; rfl
   | _ => rfl
  | tu vs => cases vs <;> rfl
  | _ => rfl
theorem znp (own : Nat → Nat → Mode) (e : Task → Option Ans) (ops : List Opn) (s : St) : zal own e (.region ops []) s = bO (zc own (callOf e) ops s) fun s' => some (.normal, s') := by
 simp only [zal]
 congr 1
theorem ztq {α β : Type} (a : α) (f : α → Option β) : bO (some a) f = f a := nr rfl
theorem ztr {α β : Type} (f : α → Option β) : bO none f = none := nr rfl
theorem zwD (own : Nat → Nat → Mode) (e : Task → Option Ans) (a b : IC) (s : St) : zal own e (.seq a b) s = bO (zal own e a s) fun r => if r.1.isN then zal own e b r.2 else some r := nr rfl
section
variable {e : Task → Option Ans}
theorem zts : zal own e .skip s = some (.normal, s) := nr rfl
theorem zwE : zal own e .ret s = some (.ret, s) := nr rfl
theorem ztt (n : Nat) : zal own e (.exit n) s = some (.exit n, s) := nr rfl
theorem ztu (c : Ar) (x y : IC) : zal own e (.cond c x y) s = bO (val s c) fun v => match v with | .sc (.bool b) => if b then zal own e x s else zal own e y s | _ => none := by
 simp only [zal]
 cases c with
 | t n =>
  simp only [zgT, val]
  cases look s.tm n with
  | none => rfl
  | some v =>
   cases v with
   | sc u => cases u <;> rfl
   | _ => rfl
 | c v =>
  cases v with
  | sc u => cases u <;> rfl
  | _ => rfl
 | no => rfl
theorem zq3 (n : Nat) (c : IC) : zal own e (.block n c) s = bO (zal own e c s) fun r => some (r.1.outOf n, r.2) := nr rfl
theorem ztv (c : IC) (k o : List Nat) : zal own e (.loop c k o) s = bO (zjB k s) fun s' => loopOf e c k o s' := nr rfl
theorem zpb (ops : List Opn) (p : Nat × Nat) (conf : List (Nat × Nat)) : zal own e (.region ops (p :: conf)) s = bO (zc own (callOf e) ops s) fun s' => if (p :: conf).all (fun q => !zhP ((zdA own (callOf e) ops s).getD q.1 []) ((zdA own (callOf e) ops s).getD q.2 [])) then some (.normal, s') else none := by
 simp only [zal, List.isEmpty_cons, Bool.false_or]
end
theorem zwF : zc own g [] s = some s := nr rfl
theorem zwG (op : IOp) (d : Option Nat) : zc own g (⟨d, op, none⟩ :: l) s = bO ((sem own (d.getD 999999) op (finR d)).run g s) fun r => zc own g l r.2 := nr rfl
theorem ztw (j b o : Nat) : ztj j (.bx b o) = some (.bx b (o + j)) := nr rfl
theorem ztx (j a i o : Nat) : ztj j (.ep a i o) = some (.ep a i (o + j)) := nr rfl
theorem zty (j : Nat) (xs : List (List V)) (i o : Nat) : ztj j (.fp xs i o) = some (.fp xs i (o + j)) := nr rfl
theorem ztz (a o n : Nat) : zww (.rf a o n) = some (int n) := nr rfl
theorem ztA (o : Bool) (xs : List (List V)) : zww (.ls o xs) = some (int xs.length) := nr rfl
theorem ztB (j : Nat) (vs : List V) : zwB j (.tu vs) = vs[j]? := nr rfl
theorem zq4 (off n : Nat) (ag : Bool) (cs : List V) : zom off n ag (.ag cs) = if ag then (if off + n ≤ cs.length then some (.ag ((cs.drop off).take n)) else none) else cs[off]? := nr rfl
theorem zq5 (s : St) (n : Nat) (ag : Bool) (b off : Nat) : zi6 s n ag (.bx b off) = match look s.bx b with
  | some (.b cs) => if ag then (if off + n ≤ cs.length then some (.ag ((cs.drop off).take n)) else none) else cs[off]?
  | _ => none := nr rfl
theorem zq6 (s : St) (n : Nat) (ag : Bool) (a i off : Nat) : zi6 s n ag (.ep a i off) = match look s.ar a with
  | some (.a fz xs) => match xs[i]? with | some cs => ldN n ag fz cs off | none => none
  | _ => none := nr rfl
theorem zq7 (s : St) (n : Nat) (ag : Bool) (xs : List (List V)) (i off : Nat) : zi6 s n ag (.fp xs i off) = match xs[i]? with | some cs => ldN n ag true cs off | none => none := nr rfl
theorem ztC (s : St) (sz : Nat) (a off len : Nat) (k : IntKind) (n : Int) : ztm s sz (.rf a off len) (.sc (.int k n)) = bO (zpa s a) fun xs => if 0 ≤ n ∧ n < len then (if (decide (off + len ≤ xs.length) && allLen sz xs) then some (.ep a (off + n.toNat) 0) else none) else none := nr rfl
theorem ztD (s : St) (a : Nat) : zpa s a = match look s.ar a with | some (.a _ xs) => some xs | some (.h xs) => some xs | _ => none := nr rfl
theorem ztE (s : St) (sz : Nat) (o : Bool) (xs : List (List V)) (k : IntKind) (n : Int) : ztm s sz (.ls o xs) (.sc (.int k n)) = if 0 ≤ n ∧ n < xs.length then (if allLen sz xs then some (.fp xs n.toNat 0) else none) else none := nr rfl
theorem ztF (a : IntKind) (n m : Int) : zbs .add (.sc (.int a n)) (.sc (.int a m)) = some (intK a (a.wrap (n + m))) := by simp [zbs, zhy]
theorem ztG (a : IntKind) (n m : Int) : zbs .sub (.sc (.int a n)) (.sc (.int a m)) = some (intK a (a.wrap (n - m))) := by simp [zbs, zhy]
theorem ztH (a : IntKind) (n m : Int) : zbs .mul (.sc (.int a n)) (.sc (.int a m)) = some (intK a (a.wrap (n * m))) := by simp [zbs, zhy]
theorem ztI (a : IntKind) (n m : Int) : zbs .eql (.sc (.int a n)) (.sc (.int a m)) = some (bool (decide (n = m))) := by simp [zbs, zhy]
theorem ztJ (a : IntKind) (n m : Int) : zbs .neq (.sc (.int a n)) (.sc (.int a m)) = some (bool !(decide (n = m))) := by simp [zbs, zhy]
theorem ztK (a : IntKind) (n m : Int) : zbs .lss (.sc (.int a n)) (.sc (.int a m)) = some (bool (decide (n < m))) := by simp [zbs, zhy]
theorem ztL (a : IntKind) (n m : Int) : zbs .leq (.sc (.int a n)) (.sc (.int a m)) = some (bool (decide (n ≤ m))) := by simp [zbs, zhy]
theorem ztM (a : IntKind) (n m : Int) : zbs .gtr (.sc (.int a n)) (.sc (.int a m)) = some (bool (decide (m < n))) := by simp [zbs, zhy]
theorem ztN (a : IntKind) (n m : Int) : zbs .geq (.sc (.int a n)) (.sc (.int a m)) = some (bool (decide (m ≤ n))) := by simp [zbs, zhy]
theorem zq8 (n : Int) : zbs .and (.sc (.int .i64 n)) (.sc (.int .i64 7)) = some (int (n % 8)) := by simp [zbs, zoQ]
theorem ztO (n m : Int) (b : IntKind) : zbs .shr (.sc (.int .i64 n)) (.sc (.int b m)) = if 0 ≤ m ∧ m < 64 then some (int (n / 2 ^ m.toNat)) else none := by simp [zbs, int, intK]
theorem zq9 (n m : Int) (b : IntKind) : zbs .shr (.sc (.int .u64 n)) (.sc (.int b m)) = if 0 ≤ m ∧ m < 64 then some (intK .u64 (n / 2 ^ m.toNat)) else none := by simp [zbs]
theorem zra (x y : ByteArray) : zbs .add (.sc (.string x)) (.sc (.string y)) = if x.size + y.size ≤ 9223372036854775807 then some (str (x ++ y)) else none := by simp [zbs]
theorem ztP (a : IntKind) (n m : Int) : zbs .rem (.sc (.int a n)) (.sc (.int a m)) = if m = 0 then none else some (intK a (n.tmod m)) := by simp [zbs, zhy]
theorem ztQ (a : IntKind) (n m : Int) : zbs .quo (.sc (.int a n)) (.sc (.int a m)) = if m = 0 then none else some (intK a (a.wrap (n.tdiv m))) := by simp [zbs, zhy]
theorem znq (n : Int) : zbs .and (.sc (.int .i64 n)) (.sc (.int .i64 255)) = some (int (n % 256)) := by simp [zbs, zoQ]
theorem zpc (n : Int) : zbs .and (.sc (.int .i64 n)) (.sc (.int .i64 1073741823)) = some (int (n % 1073741824)) := by simp [zbs, zoQ]
theorem zpd (n : Int) : zbs .and (.sc (.int .i64 n)) (.sc (.int .i64 4294967295)) = some (int (n % 4294967296)) := by simp [zbs, zoQ]
theorem ztR (n m : Int) : zbs .xor (.sc (.int .i64 n)) (.sc (.int .i64 m)) = some (int (IntKind.i64.wrap ((BitVec.ofInt 64 n ^^^ BitVec.ofInt 64 m).toNat : Int))) := by simp [zbs]
theorem zrb (x y : ByteArray) : zbs .eql (.sc (.string x)) (.sc (.string y)) = some (bool (decide (x = y))) := by simp [zbs]
theorem zrc (x y : ByteArray) : zbs .neq (.sc (.string x)) (.sc (.string y)) = some (bool !(decide (x = y))) := by simp [zbs]
theorem ldN_1 (fz : Bool) (v : V) : ldN 1 false fz [v] 0 = ld1 fz v := by simp [ldN]
theorem zwH (fz : Bool) (x : Value) : ld1 fz (.sc x) = some (.sc x) := nr rfl
theorem zwI (fz : Bool) (xs : List (List V)) : ld1 fz (.ls false xs) = some (.ls false xs) := nr rfl
def vals (s : St) : List Ar → Option (List V)
 | [] => some []
 | x :: l => bO (val s x) fun v => bO (vals s l) fun vs => some (v :: vs)
theorem zrd (s : St) : vals s [] = some [] := nr rfl
theorem zpe (s : St) (x : Ar) (l : List Ar) : vals s (x :: l) = bO (val s x) fun v => bO (vals s l) fun vs => some (v :: vs) := nr rfl
theorem zeY {α : Type} (g : Ora) : ∀ (az : List Ar) (s : St) (k : List V → M α), (zfC az k).run g s = bO (vals s az) fun vs => (k vs).run g s
 | [], s, k => rfl
 | x :: l, s, k => by
  simp only [zfC, zx, vals]
  cases val s x with
  | none => rfl
  | some v =>
   simp only [bO, zeY g l]
   cases vals s l <;> rfl
/-- a call, and what comes behind it -/
def zi7 (own : Nat → Nat → Mode) (g : Ora) (d f : Nat) (l : List Opn) (vs : List V) (s : St) : Option St := bO ((fillV vs (callM own (1000 * (d + 1)) f vs (finR (some d)))).run g s) fun r => zc own g l r.2
theorem ztS (f : Nat) (az : List Ar) : zc own g (⟨some d, .call f az, none⟩ :: l) s = bO (vals s az) fun vs => zi7 own g d f l vs s := by
 simp only [zc, z9, sem, zeY]
 cases vals s az <;> rfl
mutual
/-- nothing of one's own within -/
def zT : V → Bool
 | .sc _ => true
 | .ls false _ => true
 | .ls true [] => true
 | .ag cs => zb9 cs
 | _ => false
def zb9 : List V → Bool
 | [] => true
 | v :: l => zT v && zb9 l
end
mutual
theorem zjV {α : Type} (o : Bool) : ∀ (v : V) (k : V → List Nat → M α), zT v = true → exp o v k = k v []
 | .sc _, k, _ => rfl
 | .ls false _, k, _ => rfl
 | .ls true [], k, _ => rfl
 | .ls true (_ :: _), k, h => by simp [zT] at h
 | .ag cs, k, h => by
  simp only [exp]
  rw [zi8 o cs _ (by simpa [zT] using h)]
 | .rf _ _ _, _, h => by simp [zT] at h
 | .tu _, _, h => by simp [zT] at h
 | .bx _ _, _, h => by simp [zT] at h
 | .ep _ _ _, _, h => by simp [zT] at h
 | .fp _ _ _, _, h => by simp [zT] at h
 | .fn _ _, _, h => by simp [zT] at h
 | .mp _, _, h => by simp [zT] at h
theorem zi8 {α : Type} (o : Bool) : ∀ (l : List V) (k : List V → List Nat → M α), zb9 l = true → expL o l k = k l []
 | [], k, _ => rfl
 | v :: l, k, h => by
  simp only [zb9, Bool.and_eq_true] at h
  simp only [expL]
  rw [zjV o v _ h.1]
  rw [zi8 o l _ h.2]
  rfl
end
theorem zgj {α : Type} (ow : Nat → Mode) : ∀ (l : List V) (i : Nat) (k : List V → List Nat → M α), zb9 l = true → expArgs ow i l k = k l []
 | [], i, k, _ => rfl
 | v :: l, i, k, h => by
  simp only [zb9, Bool.and_eq_true] at h
  simp only [expArgs]
  rw [zjV _ v _ h.1, zgj ow l (i + 1) _ h.2]
  rfl
mutual
theorem zpf : ∀ v : V, zT v = true → zfD v = []
 | .sc _, _ => rfl
 | .ls _ _, _ => rfl
 | .ag cs, h => by simp only [zfD]; exact zfd cs (by simpa [zT] using h)
 | .rf _ _ _, h => by simp [zT] at h
 | .tu _, h => by simp [zT] at h
 | .bx _ _, h => by simp [zT] at h
 | .ep _ _ _, h => by simp [zT] at h
 | .fp _ _ _, h => by simp [zT] at h
 | .fn _ _, h => by simp [zT] at h
 | .mp _, h => by simp [zT] at h
theorem zfd : ∀ l : List V, zb9 l = true → bxsOfL l = []
 | [], _ => rfl
 | v :: l, h => by
  simp only [zb9, Bool.and_eq_true] at h
  simp only [bxsOfL, zpf v h.1, zfd l h.2, List.append_nil]
end
mutual
theorem zpg (f : Nat → Nat) : ∀ v : V, zT v = true → renB f v = v
 | .sc _, _ => rfl
 | .ls _ _, _ => rfl
 | .ag cs, h => by simp only [renB]; rw [zgz f cs (by simpa [zT] using h)]
 | .rf _ _ _, h => by simp [zT] at h
 | .tu _, h => by simp [zT] at h
 | .bx _ _, h => by simp [zT] at h
 | .ep _ _ _, h => by simp [zT] at h
 | .fp _ _ _, h => by simp [zT] at h
 | .fn _ _, h => by simp [zT] at h
 | .mp _, h => by simp [zT] at h
theorem zgz (f : Nat → Nat) : ∀ l : List V, zb9 l = true → renBL f l = l
 | [], _ => rfl
 | v :: l, h => by
  simp only [zb9, Bool.and_eq_true] at h
  simp only [renBL, zpg f v h.1, zgz f l h.2]
end
mutual
theorem zph : ∀ v : V, zT v = true → zeU v = []
 | .sc _, _ => rfl
 | .ls _ _, _ => rfl
 | .ag cs, h => by simp only [zeU]; exact zgA cs (by simpa [zT] using h)
 | .rf _ _ _, h => by simp [zT] at h
 | .tu _, h => by simp [zT] at h
 | .bx _ _, h => by simp [zT] at h
 | .ep _ _ _, h => by simp [zT] at h
 | .fp _ _ _, h => by simp [zT] at h
 | .fn _ _, h => by simp [zT] at h
 | .mp _, h => by simp [zT] at h
theorem zgA : ∀ l : List V, zb9 l = true → arsOfL l = []
 | [], _ => rfl
 | v :: l, h => by
  simp only [zb9, Bool.and_eq_true] at h
  simp only [arsOfL, zph v h.1, zgA l h.2, List.append_nil]
end
theorem zl6 {α : Type} (vs : List V) (k : M α) (h : zb9 vs = true) : fillV vs k = k := by
 simp [fillV, zgA vs h, zfd vs h, fillA, fillB]
/-- what comes back, when no variables were handed in -/
def zkU (g : Ora) (d : Nat) (l : List Opn) (own : Nat → Nat → Mode) (r : V × List Cell) (s : St) : Option St :=
 bO ((let news := (List.range r.2.length).map fun j => 1000 * (d + 1) + j
  let nm := fun i => news.getD i 0
  let q := impL [renB nm r.1] (1000 * (d + 1))
  newBs news (wrAs q.2.2 (back news (r.2.map (renC nm)) q.2.1 (finR (some d) (q.1.getD 0 (.tu [])))))).run g s) fun r => zc own g l r.2
theorem zvy {f : Nat} {vs : List V} (ho : own f = fun _ => .shown) (h : zb9 vs = true) : zi7 own g d f l vs s = bO (g f vs []) fun r => zkU g d l own r s := by
 have hl : lentOf (own f) vs.length = [] := by rw [ho]; simp [lentOf]
 simp only [zi7]
 rw [zl6 vs _ h]
 simp only [callM, hl, List.map_nil, List.flatMap_nil, preL]
 rw [zgj _ _ _ _ h, zfd _ h]
 simp only [coll, seeA, M.run, zgz _ _ h, List.map_nil]
 cases g f vs [] with
 | none => rfl
 | some r =>
  simp only [bO, zkU, List.length_nil, Nat.sub_zero, List.nil_append, List.zip_nil_left, List.flatMap_nil, revive, unpack, if_true, renBL, renB]
  cases hasFz r.1 || zcY r.2 <;> rfl
theorem retP_sc (v : Value) : zkU g d l own (.sc v, []) s = zc own g l { s with tm := setA s.tm d (.sc v) } := by
 simp [zkU, renB, impL, imp, newBs, wrAs, back, finR, M.run, St.put, bO]
theorem retP_ls (xs : List (List V)) : zkU g d l own (.ls true xs, []) s = match look s.ar (1000 * (d + 1)) with | none => zc own g l { s with tm := setA s.tm d (.rf (1000 * (d + 1)) 0 xs.length), ar := setA s.ar (1000 * (d + 1)) (.a false xs) } | some _ => none := by
 simp only [zkU, renB, impL, imp, newBs, wrAs, back, finR, M.run, St.put, bO, List.length_nil, List.range_zero, List.map_nil, newR, St.get, List.append_nil, List.getD_cons_zero]
 cases look s.ar (1000 * (d + 1)) <;> rfl
theorem zxK (xs : List (List V)) : zkU g d l own (.ag [.ls true xs], []) s = match look s.ar (1000 * (d + 1)) with | none => zc own g l { s with tm := setA s.tm d (.ag [.rf (1000 * (d + 1)) 0 xs.length]), ar := setA s.ar (1000 * (d + 1)) (.a false xs) } | some _ => none := by
 simp only [zkU, renB, renBL, impL, imp, newBs, wrAs, back, finR, M.run, St.put, bO, List.length_nil, List.range_zero, List.map_nil, newR, St.get, List.append_nil, List.getD_cons_zero]
 cases look s.ar (1000 * (d + 1)) <;> rfl
theorem zxL (f : Nat) (vs : List V) : zi7 own g d f l vs s = bO ((fillV vs (callM own (1000 * (d + 1)) f vs (finR (some d)))).run g s) fun r => zc own g l r.2 := nr rfl
theorem retP_gen (r : V × List Cell) : zkU g d l own r s = bO ((let news := (List.range r.2.length).map fun j => 1000 * (d + 1) + j
   let nm := fun i => news.getD i 0
   let q := impL [renB nm r.1] (1000 * (d + 1))
   newBs news (wrAs q.2.2 (back news (r.2.map (renC nm)) q.2.1 (finR (some d) (q.1.getD 0 (.tu [])))))).run g s) fun r => zc own g l r.2 := nr rfl
theorem zpi (v : Value) : zT (.sc v) = true := nr rfl
theorem zpj (xs : List (List V)) : zT (.ls false xs) = true := nr rfl
theorem znr : zT (.ls true []) = true := nr rfl
theorem zpk (cs : List V) : zT (.ag cs) = zb9 cs := nr (by simp only [zT])
theorem zpl (a o n : Nat) : zT (.rf a o n) = false := nr rfl
theorem zns : zb9 [] = true := nr rfl
theorem zl7 (v : V) (l : List V) : zb9 (v :: l) = (zT v && zb9 l) := nr rfl
end Go.Pv

namespace Go.Pv
/-! ### operations that turn nothing but their own variable -/
def Ar.ts : Ar → List Nat
 | .t n => [n]
 | _ => []
def tsL : List Ar → List Nat
 | [] => []
 | x :: l => x.ts ++ tsL l
def opQ : IOp → Option (List Nat)
 | .mv x => some x.ts
 | .pick c a b => some (c.ts ++ a.ts ++ b.ts)
 | .bin _ x y => some (x.ts ++ y.ts)
 | .un .not x => some x.ts
 | .conv _ x => some x.ts
 | .load _ _ p => some p.ts
 | .fld _ p => some p.ts
 | .fget _ _ _ x => some x.ts
 | .idx _ x i => some (x.ts ++ i.ts)
 | .len _ x => some x.ts
 | .ext _ x => some x.ts
 | .slc _ x lo hi mx => some (x.ts ++ (match lo with | some a => a.ts | none => []) ++ (match hi with | some a => a.ts | none => []) ++ (match mx with | some a => a.ts | none => []))
 | .alloc _ => some []
 | .box x => some x.ts
 | .beq _ x y => some (x.ts ++ y.ts)
 | .un .neg x => some x.ts
 | .b2s x => some x.ts
 | .sidx x y => some (x.ts ++ y.ts)
 | .sslc x lo hi => some (x.ts ++ (match lo with | some a => a.ts | none => []) ++ (match hi with | some a => a.ts | none => []))
 | .build _ ps => some (tsL (ps.map (·.2.2)))
 | .mkfn _ az => some (tsL az)
 | .mx x y => some (x.ts ++ y.ts)
 | .mn x y => some (x.ts ++ y.ts)
 | .mksl _ _ x y => some (x.ts ++ y.ts)
 | .mget _ _ _ m k => some (m.ts ++ k.ts)
 | .ment _ _ m k => some (m.ts ++ k.ts)
 | .mst m t x => some (m.ts ++ t.ts ++ x.ts)
 | _ => none
/-- operations whose footprint is looked at: their operands, and the rest -/
def opC : IOp → Option (List Ar)
 | .call _ az => some az
 | .bsl _ _ ps => some (ps.map (·.2))
 | .app _ _ _ x y => some [x, y]
 | .store _ p x => some [p, x]
 | .callv f az => some (f :: az)
 | .copy _ x y => some [x, y]
 | .take _ _ p => some [p]
 | .apps x y => some [x, y]
 | .mset _ m k x => some [m, k, x]
 | .clear _ x => some [x]
 | _ => none
def restM (own : Nat → Nat → Mode) (o : Opn) (vs : List V) : M Unit :=
 let d := 1000 * (o.dst.getD 999999 + 1)
 let k := finR o.dst
 match o.op, vs with
 | .call f _, vs => fillV vs (callM own d f vs k)
 | .take n ag _, [v] => (match v with
  | .ep a i off => .rd (.a a) fun c => match c with
   | some (.a fz xs) => if fz then (match xs[i]? with | some cs => optK (ldN n ag true cs off) k | none => .fail) else takeM n ag a xs i off d k
   | some (.h xs) => takeM n ag a xs i off d k
   | _ => .fail
  | .bx b off => rdB b fun cs => if ag then (if off + n ≤ cs.length then k (.ag ((cs.drop off).take n)) else .fail) else optK cs[off]? k
  | .fp xs i off => match xs[i]? with
   | some cs => optK (ldN n ag true cs off) k
   | none => .fail
  | _ => .fail)
 | .apps _ _, [v, w] => asS w fun t => rowX 1 (decide (0 < t.size)) v fun xs =>
   chk (lim (xs.length + t.size) 1) (newR (.a d) (.wr (.a d) (.a false (xs ++ t.data.toList.map fun b => [intK .u8 b.toNat])) (k (.rf d 0 (xs.length + t.size)))))
 | .mset str _ _ _, [v, w, y] => (match v with
  | .mp b => rdM b fun es => chk (zcN str w && zc5 y) (match zcn w es.1 with
   | some (some _) => .wr (.b b) (.m (zgS w y es.1, es.2)) (k (.tu []))
   | some none => .wr (.b b) (.m (es.1 ++ [((w, y), es.2)], es.2 + 1)) (k (.tu []))
   | none => .fail)
  | _ => .fail)
 | .clear zs _, [v] => (match v with
  | .rf a off len => rdA a fun fz xs => if fz then .fail else if off + len ≤ xs.length then chk (allLen zs.length xs && zs.all zdJ) (.wr (.a a) (.a false (xs.take off ++ List.replicate len zs ++ xs.drop (off + len))) (k (.tu []))) else .fail
  | .ls true [] => k (.tu [])
  | _ => .fail)
 | .bsl zs n ps, vs => if n = 0 then k (.ls true []) else
   cloLs (vs.map cellsOf) fun ws =>
   chk (ws.all (fun c => c.length == zs.length) && decide (n ≤ 1000) && ps.all (fun p => decide (p.1 < n)) && zs.all zdJ)
   (newR (.a d) (.wr (.a d) (.a false (setEls (List.replicate n zs) ((ps.map (·.1)).zip ws))) (k (.rf d 0 n))))
 | .app s bytes ptr _ _, [v, w] => rowY ptr w fun ys => rowX s (!ys.isEmpty) v fun xs =>
   chk (lim (xs.length + ys.length) bytes) (chk (allLen s ys) (newR (.a d) (.wr (.a d) (.a false (xs ++ ys)) (k (.rf d 0 (xs.length + ys.length))))))
 | .store n _ _, [v, w] => chk (decide ((cellsOf w).length = n) && (cellsOf w).all one1) (match v with
  | .bx b off => rdB b fun cs => if off + n ≤ cs.length then .wr (.b b) (.b (setAt cs off (cellsOf w))) (k (.tu [])) else .fail
  | .ep a i off => cloL (cellsOf w) fun ws => .rd (.a a) fun c => match c with
   | some (.a fz xs) => if fz then .fail else (match xs[i]? with
    | some cs => if off + n ≤ cs.length then .wr (.a a) (.a false (xs.set i (setAt cs off ws))) (k (.tu [])) else .fail
    | none => .fail)
   | some (.h xs) => (match xs[i]? with
    | some cs => if off + n ≤ cs.length then .wr (.a a) (.h (xs.set i (setAt cs off ws))) (k (.tu [])) else .fail
    | none => .fail)
   | _ => .fail
  | _ => .fail)
 | .callv _ _, v :: vs => match v with | .fn f caps => fillV (vs ++ caps) (callM own d f (vs ++ caps) k) | _ => .fail
 | .copy s _ _, [v, w] => rowY false w fun ys => match v with
  | .rf a off len => rdA a fun fz xs => if fz then .fail else if off + len ≤ xs.length then
    chk (allLen s xs && allLen s ys) (let n := min ys.length len; .wr (.a a) (.a false (xs.take off ++ ys.take n ++ xs.drop (off + n))) (k (int n))) else .fail
  | _ => .fail
 | _, _ => .fail
def zg8 (o : Opn) : List Nat := (match o.dst with | some d => [d] | none => []) ++ (match o.guard with | some p => [p.1] | none => []) ++ (match opQ o.op with | some l => l | none => match opC o.op with | some p => tsL p | none => [])
def isOff (o : Opn) (s : St) : Bool := match o.guard with | none => false | some (j, want) => match look s.tm j with | some (.sc (.bool b)) => b != want | some (.tu []) => true | _ => false
/-- what is read that is no variable -/
def zdC : Option V → List Res
 | some (.bx b _) => [.b b]
 | some (.ep a _ _) => [.a a]
 | some (.rf a _ _) => [.a a]
 | some (.mp b) => [.b b]
 | _ => []
def wrT : List (Res × Bool) → List (Res × Bool)
 | [] => []
 | p :: l => if p.2 then p :: wrT l else wrT l
def zgy : List (Res × Bool) → List Res
 | [] => []
 | p :: l => match p.1 with | .t _ => zgy l | r => r :: zgy l
def zdk (own : Nat → Nat → Mode) (g : Ora) (o : Opn) (s : St) : List Res :=
 match o.op with
 | .load _ _ p => zdC (val s p)
 | .idx _ x _ => zdC (val s x)
 | .len _ x => zdC (val s x)
 | .slc _ x _ _ _ => zdC (val s x)
 | .b2s x => zdC (val s x)
 | .alloc _ => [.b (1000 * (o.dst.getD 999999 + 1))]
 | .box _ => [.b (1000 * (o.dst.getD 999999 + 1))]
 | .mksl _ _ _ _ => [.a (1000 * (o.dst.getD 999999 + 1))]
 | .mget _ _ _ m _ => zdC (val s m)
 | .ment _ _ m _ => zdC (val s m)
 | .mst m _ _ => zdC (val s m)
 | op => match opC op with
  | some az => if isOff o s then [] else (match vals s az with
   | some vs => zgy ((restM own o vs).foot g s)
   | none => [])
  | none => []
def zfQ (own : Nat → Nat → Mode) (g : Ora) (o : Opn) (s : St) : List Res :=
 match o.op with
 | .alloc _ => [.b (1000 * (o.dst.getD 999999 + 1))]
 | .box _ => [.b (1000 * (o.dst.getD 999999 + 1))]
 | .mksl _ _ _ _ => [.a (1000 * (o.dst.getD 999999 + 1))]
 | .ment _ _ m _ => zdC (val s m)
 | .mst m _ _ => zdC (val s m)
 | op => match opC op with
  | some az => if isOff o s then [] else (match vals s az with
   | some vs => zgy (wrT ((restM own o vs).foot g s))
   | none => [])
  | none => []
def tame (own : Nat → Nat → Mode) (g : Ora) (o : Opn) (s : St) : Bool :=
 match opQ o.op with
 | some _ => true
 | none => match opC o.op with
  | none => isOff o s
  | some p => isOff o s || (vals s p).isSome
def FtOk (g : Ora) (T : List Nat) (D : Option Nat) (R W : List Res) {α : Type} (m : M α) (s : St) : Prop := ∀ p ∈ m.foot g s, (∀ n, p.1 = .t n → n ∈ T ∧ (p.2 = true → D = some n)) ∧ ((∀ n, p.1 ≠ .t n) → p.1 ∈ R ∧ (p.2 = true → p.1 ∈ W))
variable {g : Ora} {T : List Nat} {D : Option Nat} {R W : List Res} {α : Type} {s : St}
theorem FtOk.pure {x : α} : FtOk g T D R W (.pure x) s := by intro p hp; simp [M.foot] at hp
theorem FtOk.fail : FtOk g T D R W (.fail : M α) s := by intro p hp; simp [M.foot] at hp
theorem FtOk.rdT {n : Nat} {k : Option Cell → M α} (hn : n ∈ T) (h : FtOk g T D R W (k (s.get (.t n))) s) : FtOk g T D R W (.rd (.t n) k) s := by
 intro p hp
 simp only [M.foot, List.mem_cons] at hp
 rcases hp with rfl | hp
 ·exact ⟨fun m hm => by cases hm; exact ⟨hn, fun h => by cases h⟩, fun h => absurd rfl (h n)⟩
 ·exact h p hp
theorem FtOk.rdR {r : Res} {k : Option Cell → M α} (hr : ∀ n, r ≠ .t n) (hR : r ∈ R) (h : FtOk g T D R W (k (s.get r)) s) : FtOk g T D R W (.rd r k) s := by
 intro p hp
 simp only [M.foot, List.mem_cons] at hp
 rcases hp with rfl | hp
 ·exact ⟨fun m hm => absurd hm (hr m), fun _ => ⟨hR, fun h => by cases h⟩⟩
 ·exact h p hp
theorem FtOk.wrT {n : Nat} {c : Cell} {k : M α} (hD : D = some n) (hn : n ∈ T) (h : FtOk g T D R W k (s.put (.t n) c)) : FtOk g T D R W (.wr (.t n) c k) s := by
 intro p hp
 simp only [M.foot, List.mem_cons] at hp
 rcases hp with rfl | hp
 ·exact ⟨fun m hm => by cases hm; exact ⟨hn, fun _ => hD⟩, fun h => absurd rfl (h n)⟩
 ·exact h p hp
theorem FtOk.wrR {r : Res} {c : Cell} {k : M α} (hr : ∀ n, r ≠ .t n) (hR : r ∈ R) (hW : r ∈ W) (h : FtOk g T D R W k (s.put r c)) : FtOk g T D R W (.wr r c k) s := by
 intro p hp
 simp only [M.foot, List.mem_cons] at hp
 rcases hp with rfl | hp
 ·exact ⟨fun m hm => absurd hm (hr m), fun _ => ⟨hR, fun _ => hW⟩⟩
 ·exact h p hp
theorem FtOk.fin {d : Option Nat} (hd : ∀ n, d = some n → n ∈ T) (v : V) (s : St) : FtOk g T d R W (finR d v) s := by
 cases d with
 | none => exact .pure
 | some t => exact .wrT rfl (hd t rfl) .pure
theorem FtOk.get {x : Ar} {k : V → M α} (hx : ∀ n ∈ x.ts, n ∈ T) (h : ∀ v, val s x = some v → FtOk g T D R W (k v) s) : FtOk g T D R W (x.get k) s := by
 cases x with
 | t n =>
  refine .rdT (hx n (by simp [Ar.ts])) ?_
  simp only [St.get]
  cases hl : look s.tm n with
  | none => exact .fail
  | some v => exact h v (by simp [val, hl])
 | c v => exact h v rfl
 | no => exact .fail
theorem FtOk.gets : ∀ {az : List Ar} {k : List V → M α}, (∀ n ∈ tsL az, n ∈ T) → (∀ vs, vals s az = some vs → FtOk g T D R W (k vs) s) → FtOk g T D R W (zfC az k) s
 | [], k, _, h => h [] rfl
 | x :: l, k, hx, h => by
  have hx1 : ∀ n ∈ x.ts, n ∈ T := fun n hn => hx n (by simp [tsL, hn])
  have hx2 : ∀ n ∈ tsL l, n ∈ T := fun n hn => hx n (by simp [tsL, hn])
  refine .get hx1 fun v hv => ?_
  exact .gets hx2 fun vs hvs => h (v :: vs) (by simp [vals, hv, hvs, bO])
theorem FtOk.optK {x : Option V} {k : V → M α} (h : ∀ v, FtOk g T D R W (k v) s) : FtOk g T D R W (Pv.optK x k) s := by
 cases x with
 | none => exact .fail
 | some v => exact h v
theorem FtOk.rdA {a : Nat} {k : Bool → List (List V) → M α} (hR : .a a ∈ R) (h : ∀ b xs, FtOk g T D R W (k b xs) s) : FtOk g T D R W (Pv.rdA a k) s := by
 refine .rdR (fun _ h => by cases h) hR ?_
 split
 ·exact h _ _
 ·exact .fail
theorem FtOk.rdX {a : Nat} {k : List (List V) → M α} (hR : .a a ∈ R) (h : ∀ xs, FtOk g T D R W (k xs) s) : FtOk g T D R W (Pv.rdX a k) s := by
 refine .rdR (fun _ h => by cases h) hR ?_
 split
 ·exact h _
 ·exact h _
 ·exact .fail
theorem FtOk.rdB {a : Nat} {k : List V → M α} (hR : .b a ∈ R) (h : ∀ xs, FtOk g T D R W (k xs) s) : FtOk g T D R W (Pv.rdB a k) s := by
 refine .rdR (fun _ h => by cases h) hR ?_
 split
 ·exact h _
 ·exact .fail
theorem FtOk.rdM {a : Nat} {k : zhx → M α} (hR : .b a ∈ R) (h : ∀ xs, FtOk g T D R W (k xs) s) : FtOk g T D R W (Pv.rdM a k) s := by
 refine .rdR (fun _ h => by cases h) hR ?_
 split
 ·exact h _
 ·exact .fail
theorem FtOk.chk {b : Bool} {k : M α} (h : FtOk g T D R W k s) : FtOk g T D R W (Pv.chk b k) s := by
 unfold Pv.chk
 split
 ·exact h
 ·exact .fail
theorem FtOk.asB {v : V} {k : Bool → M α} (h : ∀ b, FtOk g T D R W (k b) s) : FtOk g T D R W (Pv.asB v k) s := by
 unfold Pv.asB
 split
 ·exact h _
 ·exact .fail
theorem FtOk.asI {v : V} {k : Int → M α} (h : ∀ b, FtOk g T D R W (k b) s) : FtOk g T D R W (Pv.asI v k) s := by
 unfold Pv.asI
 split
 ·exact h _
 ·exact .fail
theorem FtOk.ite {c : Prop} [Decidable c] {k l : M α} (h : FtOk g T D R W k s) (h' : FtOk g T D R W l s) : FtOk g T D R W (if c then k else l) s := by
 split
 ·exact h
 ·exact h'
theorem FtOk.natOf {v : V} {k : Nat → M α} (h : ∀ b, FtOk g T D R W (k b) s) : FtOk g T D R W (Pv.natOf v k) s := .asI fun n => .ite (h _) .fail
theorem FtOk.optN {x : Option Ar} {d : Nat} {k : Nat → M α} (hx : ∀ n ∈ (match x with | some a => a.ts | none => []), n ∈ T) (h : ∀ b, FtOk g T D R W (k b) s) : FtOk g T D R W (Pv.optN x d k) s := by
 cases x with
 | none => exact h _
 | some a => exact .get hx fun v _ => .natOf h
theorem znj {own : Nat → Nat → Mode} {o : Opn} {l : List Nat} (ho : opQ o.op = some l) (hl : ∀ n ∈ l, n ∈ T) {k : V → M Unit} (hk : ∀ R W v s, FtOk g T D R W (k v) s) : FtOk g T D (zdk own g o s) (zfQ own g o s) (sem own (o.dst.getD 999999) o.op k) s := by
 obtain ⟨dst, op, gd⟩ := o
 simp only at ho
 have hk2 := hk
 replace hk := fun v => hk (zdk own g ⟨dst, op, gd⟩ s) (zfQ own g ⟨dst, op, gd⟩ s) v s
 cases op with
 | mv x => injection ho with ho; subst ho; exact .get hl fun v _ => hk v
 | pick c a b =>
  injection ho with ho; subst ho
  refine .get (fun n hn => hl n (by simp [hn])) fun v _ => .asB fun t => ?_
  cases t
  ·exact .get (fun n hn => hl n (by simp [hn])) fun v _ => hk v
  ·exact .get (fun n hn => hl n (by simp [hn])) fun v _ => hk v
 | bin op x y =>
  injection ho with ho; subst ho
  exact .get (fun n hn => hl n (by simp [hn])) fun v _ => .get (fun n hn => hl n (by simp [hn])) fun w _ => .optK hk
 | un u x =>
  cases u with
  | not => injection ho with ho; subst ho; exact .get hl fun v _ => .asB fun b => hk _
  | neg =>
   injection ho with ho; subst ho
   refine .get hl fun v _ => ?_
   split
   ·exact hk _
   ·exact .fail
  | xor => cases ho
  | plus => cases ho
 | conv c x => injection ho with ho; subst ho; exact .get hl fun v _ => .asI fun n => hk _
 | load n ag p =>
  injection ho with ho; subst ho
  refine .get hl fun v hv => ?_
  cases v with
  | bx b off =>
   refine .rdB (by simp [zdk, hv, zdC]) fun cs => ?_
   split
   ·exact .ite (hk _) .fail
   ·exact .optK hk
  | ep a i off =>
   refine .rdA (by simp [zdk, hv, zdC]) fun fz xs => ?_
   split
   ·exact .optK hk
   ·exact .fail
  | fp xs i off =>
   show FtOk _ _ _ _ _ (match xs[i]? with | some cs => _ | none => _) _
   split
   ·exact .optK hk
   ·exact .fail
  | sc _ => exact .fail
  | ls _ _ => exact .fail
  | rf _ _ _ => exact .fail
  | ag _ => exact .fail
  | tu _ => exact .fail
  | fn _ _ => exact .fail
  | mp _ => exact .fail
 | fld j p =>
  injection ho with ho; subst ho
  refine .get hl fun v hv => ?_
  split
  ·exact hk _
  ·exact hk _
  ·exact hk _
  ·exact .fail
 | fget off n ag x =>
  injection ho with ho; subst ho
  refine .get hl fun v hv => ?_
  split
  ·split
   ·exact .ite (hk _) .fail
   ·exact .optK hk
  ·exact .fail
 | idx sz x i =>
  injection ho with ho; subst ho
  refine .get (fun n hn => hl n (by simp [hn])) fun v hv => .get (fun n hn => hl n (by simp [hn])) fun w _ => .asI fun n => ?_
  split
  ·exact .rdX (by simp [zdk, hv, zdC]) fun xs => .ite (.chk (hk _)) .fail
  ·exact .ite (.chk (hk _)) .fail
  ·exact .fail
 | len q x =>
  injection ho with ho; subst ho
  refine .get hl fun v hv => ?_
  split
  ·exact hk _
  ·exact hk _
  ·exact hk _
  ·exact .rdM (by simp [zdk, hv, zdC]) fun es => hk _
  ·exact .fail
 | ext j x =>
  injection ho with ho; subst ho
  refine .get hl fun v hv => ?_
  split
  ·exact .optK hk
  ·exact .fail
 | slc sz x lo hi mx =>
  injection ho with ho; subst ho
  refine .get (fun n hn => hl n (by simp [hn])) fun v hv => ?_
  split
  ·refine .rdA (by simp [zdk, hv, zdC]) fun _ xs => .optN (fun n hn => hl n ?_) fun _ => .optN (fun n hn => hl n ?_) fun _ => .optN (fun n hn => hl n ?_) fun _ => .ite (.chk (hk _)) .fail
   ·simp only [List.mem_append]; exact .inl (.inl (.inr hn))
   ·simp only [List.mem_append]; exact .inl (.inr hn)
   ·simp only [List.mem_append]; exact .inr hn
  ·refine .optN (fun n hn => hl n ?_) fun _ => .optN (fun n hn => hl n ?_) fun _ => .optN (fun n hn => hl n ?_) fun _ => .ite ?_ .fail
   ·simp only [List.mem_append]; exact .inl (.inl (.inr hn))
   ·simp only [List.mem_append]; exact .inl (.inr hn)
   ·simp only [List.mem_append]; exact .inr hn
   ·split
    ·exact hk _
    ·exact .chk (hk _)
  ·exact .fail
 | alloc zs =>
  refine .rdR (fun _ h => by cases h) (by simp [zdk]) ?_
  split
  ·exact .wrR (fun _ h => by cases h) (by simp [zdk]) (by simp [zfQ]) (hk2 _ _ _ _)
  ·exact .fail
 | box x =>
  injection ho with ho; subst ho
  refine .get hl fun v hv => .rdR (fun _ h => by cases h) (by simp [zdk]) ?_
  split
  ·exact .wrR (fun _ h => by cases h) (by simp [zdk]) (by simp [zfQ]) (hk2 _ _ _ _)
  ·exact .fail
 | beq neg x y =>
  injection ho with ho; subst ho
  exact .get (fun n hn => hl n (by simp [hn])) fun v _ => .get (fun n hn => hl n (by simp [hn])) fun w _ => .asB fun _ => .asB fun _ => hk _
 | b2s x =>
  injection ho with ho; subst ho
  refine .get hl fun v hv => ?_
  split
  ·split
   ·exact hk _
   ·exact .fail
  ·refine .rdA (by simp [zdk, hv, zdC]) fun fz xs => .chk ?_
   dsimp only
   split
   ·exact hk _
   ·exact .fail
  ·exact .fail
 | sidx x y =>
  injection ho with ho; subst ho
  refine .get (fun n hn => hl n (by simp [hn])) fun v _ => .get (fun n hn => hl n (by simp [hn])) fun w _ => ?_
  unfold asS
  split
  ·refine .asI fun n => .ite ?_ .fail
   split
   ·exact hk _
   ·exact .fail
  ·exact .fail
 | sslc x lo hi =>
  injection ho with ho; subst ho
  refine .get (fun n hn => hl n (by simp [hn])) fun v _ => ?_
  unfold asS
  split
  ·exact .optN (fun n hn => hl n (by simp only [List.mem_append]; exact .inl (.inr hn))) fun _ => .optN (fun n hn => hl n (by simp only [List.mem_append]; exact .inr hn)) fun _ => .ite (hk _) .fail
  ·exact .fail
 | build zs ps =>
  injection ho with ho; subst ho
  exact .gets hl fun vs _ => .optK hk
 | mkfn f az =>
  injection ho with ho; subst ho
  exact .gets hl fun vs _ => hk _
 | mx x y =>
  injection ho with ho; subst ho
  refine .get (fun n hn => hl n (by simp [hn])) fun v _ => .get (fun n hn => hl n (by simp [hn])) fun w _ => ?_
  split
  ·exact hk _
  ·exact .fail
 | mn x y =>
  injection ho with ho; subst ho
  refine .get (fun n hn => hl n (by simp [hn])) fun v _ => .get (fun n hn => hl n (by simp [hn])) fun w _ => ?_
  split
  ·exact hk _
  ·exact .fail
 | mksl zs bytes x y =>
  injection ho with ho; subst ho
  refine .get (fun n hn => hl n (by simp [hn])) fun v _ => .get (fun n hn => hl n (by simp [hn])) fun w _ => .natOf fun _ => .natOf fun _ => .ite ?_ .fail
  refine .rdR (fun _ h => by cases h) (by simp [zdk]) ?_
  split
  ·exact .wrR (fun _ h => by cases h) (by simp [zdk]) (by simp [zfQ]) (hk2 _ _ _ _)
  ·exact .fail
 | mget str z ok m key =>
  injection ho with ho; subst ho
  refine .get (fun n hn => hl n (by simp [hn])) fun v hv => .get (fun n hn => hl n (by simp [hn])) fun w _ => ?_
  split
  ·refine .rdM (by simp [zdk, hv, zdC]) fun es => .chk ?_
   split
   ·exact hk _
   ·exact hk _
   ·exact .fail
  ·exact .fail
 | ment str z m key =>
  injection ho with ho; subst ho
  refine .get (fun n hn => hl n (by simp [hn])) fun v hv => .get (fun n hn => hl n (by simp [hn])) fun w _ => ?_
  split
  ·refine .rdM (by simp [zdk, hv, zdC]) fun es => .chk ?_
   split
   ·exact .wrR (fun _ h => by cases h) (by simp [zdk, hv, zdC]) (by simp [zfQ, hv, zdC]) (hk2 _ _ _ _)
   ·exact .wrR (fun _ h => by cases h) (by simp [zdk, hv, zdC]) (by simp [zfQ, hv, zdC]) (hk2 _ _ _ _)
   ·exact .fail
  ·exact .fail
 | mst m t x =>
  injection ho with ho; subst ho
  refine .get (fun n hn => hl n (by simp [hn])) fun v hv => .get (fun n hn => hl n (by simp [hn])) fun w _ => .get (fun n hn => hl n (by simp [hn])) fun y _ => ?_
  split
  ·refine .rdM (by simp [zdk, hv, zdC]) fun es => .asI fun n => .chk ?_
   split
   ·exact .wrR (fun _ h => by cases h) (by simp [zdk, hv, zdC]) (by simp [zfQ, hv, zdC]) (hk2 _ _ _ _)
   ·exact .fail
  ·exact .fail
 | _ => cases ho
def TOk (g : Ora) (T : List Nat) (D : Option Nat) {α : Type} (m : M α) (s : St) : Prop := ∀ p ∈ m.foot g s, ∀ n, p.1 = .t n → n ∈ T ∧ (p.2 = true → D = some n)
theorem TOk.rd {r : Res} {k : Option Cell → M α} (hr : ∀ n, r ≠ .t n) (h : TOk g T D (k (s.get r)) s) : TOk g T D (.rd r k) s := by
 intro p hp
 simp only [M.foot, List.mem_cons] at hp
 rcases hp with rfl | hp
 ·exact fun n hn => absurd hn (hr n)
 ·exact h p hp
theorem TOk.wr {r : Res} {c : Cell} {k : M α} (hr : ∀ n, r ≠ .t n) (h : TOk g T D k (s.put r c)) : TOk g T D (.wr r c k) s := by
 intro p hp
 simp only [M.foot, List.mem_cons] at hp
 rcases hp with rfl | hp
 ·exact fun n hn => absurd hn (hr n)
 ·exact h p hp
theorem TOk.fail : TOk g T D (.fail : M α) s := by intro p hp; simp [M.foot] at hp
theorem TOk.newR {r : Res} {k : M α} (hr : ∀ n, r ≠ .t n) (h : TOk g T D k s) : TOk g T D (Pv.newR r k) s := by
 refine .rd hr ?_
 split
 ·exact h
 ·exact .fail
theorem TOk.newBs : ∀ (l : List Nat) {k : M α} {s : St}, (∀ s, TOk g T D k s) → TOk g T D (Pv.newBs l k) s
 | [], _, _, h => h _
 | b :: l, k, s, h => .newR (fun _ h => by cases h) (.wr (fun _ h => by cases h) (.newBs l h))
theorem TOk.wrAs : ∀ (l : List (Nat × List (List V))) {k : M α} {s : St}, (∀ s, TOk g T D k s) → TOk g T D (Pv.wrAs l k) s
 | [], _, _, h => h _
 | (n, xs) :: l, k, s, h => .newR (fun _ h => by cases h) (.wr (fun _ h => by cases h) (.wrAs l h))
theorem TOk.back : ∀ (bs : List Nat) (cs : List Cell) (n : Nat) {k : M α} {s : St}, (∀ s, TOk g T D k s) → TOk g T D (Pv.back bs cs n k) s
 | [], [], _, _, _, h => h _
 | b :: bs, .b vs :: cs, n, k, s, h => .wrAs _ fun s => .wr (fun _ h => by cases h) (.back bs cs _ h)
 | b :: bs, .m es :: cs, n, k, s, h => .wr (fun _ h => by cases h) (.back bs cs _ h)
 | [], _ :: _, _, _, _, _ => .fail
 | _ :: _, [], _, _, _, _ => .fail
 | _ :: _, .v _ :: _, _, _, _, _ => .fail
 | _ :: _, .a _ _ :: _, _, _, _, _ => .fail
 | _ :: _, .dead :: _, _, _, _, _ => .fail
 | _ :: _, .h _ :: _, _, _, _, _ => .fail
theorem TOk.chk {b : Bool} {k : M α} (h : TOk g T D k s) : TOk g T D (Pv.chk b k) s := by
 unfold Pv.chk
 split
 ·exact h
 ·exact .fail
theorem TOk.rdA {n : Nat} {k : Bool → List (List V) → M α} (h : ∀ b xs, TOk g T D (k b xs) s) : TOk g T D (Pv.rdA n k) s := by
 refine .rd (fun _ h => by cases h) ?_
 split
 ·exact h _ _
 ·exact .fail
theorem TOk.fillC : ∀ (l : List V) {k : List V → M α} {s : St}, (∀ v s, TOk g T D (k v) s) → TOk g T D (Pv.fillC l k) s
 | [], _, _, h => h _ _
 | v :: l, k, s, h => by
  unfold Pv.fillC
  split
  ·exact .rdA fun _ _ => .chk (.wr (fun _ h => by cases h) (.fillC l fun _ _ => h _ _))
  ·exact .fillC l fun _ _ => h _ _
theorem TOk.fillX : ∀ (l : List (List V)) {k : List (List V) → M α} {s : St}, (∀ v s, TOk g T D (k v) s) → TOk g T D (Pv.fillX l k) s
 | [], _, _, h => h _ _
 | cs :: l, k, s, h => .fillC cs fun _ _ => .fillX l fun _ _ => h _ _
theorem TOk.fillA : ∀ (n : Nat) (l : List Nat) {k : M α} {s : St}, (∀ s, TOk g T D k s) → TOk g T D (Pv.fillA n l k) s
 | 0, _, _, _, h => h _
 | _ + 1, [], _, _, h => h _
 | n + 1, a :: l, k, s, h => by
  refine .rd (fun _ h => by cases h) ?_
  split
  ·refine .fillA n _ fun s => .rd (fun _ h => by cases h) ?_
   split
   ·exact .wr (fun _ h => by cases h) (.fillX _ fun _ _ => .wr (fun _ h => by cases h) (.fillA n l h))
   ·exact .fail
  ·exact .fillA n l h
theorem TOk.fillB : ∀ (n : Nat) (l done : List Nat) {k : M α} {s : St}, (∀ s, TOk g T D k s) → TOk g T D (Pv.fillB n l done k) s
 | 0, _, _, _, _, h => h _
 | _ + 1, [], _, _, _, h => h _
 | n + 1, b :: l, done, k, s, h => by
  unfold Pv.fillB
  split
  ·exact .fillB n l done h
  ·refine .rd (fun _ h => by cases h) ?_
   split
   ·exact .fillA 40 _ fun s => .fillB n _ _ h
   ·exact .fillB n _ _ h
theorem TOk.fillV (vs : List V) {k : M α} {s : St} (h : ∀ s, TOk g T D k s) : TOk g T D (Pv.fillV vs k) s := .fillA 40 _ fun _ => .fillB 20 _ _ h
theorem TOk.preL : ∀ (l : List V) {k : M α} {s : St}, (∀ s, TOk g T D k s) → TOk g T D (Pv.preL l k) s
 | [], _, _, h => h _
 | v :: l, k, s, h => by
  unfold Pv.preL
  split
  ·exact .rdA fun _ _ => .chk (.preL l h)
  ·exact .preL l h
  ·exact .preL l h
  ·exact .fail
mutual
theorem TOk.exp (o : Bool) : ∀ (v : V) {k : V → List Nat → M α} {s : St}, (∀ v l s, TOk g T D (k v l) s) → TOk g T D (Pv.exp o v k) s
 | .sc _, _, _, h => h _ _ _
 | .ls _ _, _, _, h => h _ _ _
 | .bx _ _, _, _, h => h _ _ _
 | .mp _, _, _, h => h _ _ _
 | .ep _ _ _, _, _, _ => .fail
 | .fp _ _ _, _, _, _ => .fail
 | .fn _ _, _, _, h => .chk (h _ _ _)
 | .ag cs, k, s, h => .expL o cs fun _ _ _ => h _ _ _
 | .tu cs, k, s, h => .expL o cs fun _ _ _ => h _ _ _
 | .rf a off len, k, s, h => by
  refine .rdA fun fz xs => .chk ?_
  dsimp only
  split
  ·exact .rdA fun _ _ => .chk (.wr (fun _ h => by cases h) (h _ _ _))
  ·exact h _ _ _
theorem TOk.expL (o : Bool) : ∀ (l : List V) {k : List V → List Nat → M α} {s : St}, (∀ v l s, TOk g T D (k v l) s) → TOk g T D (Pv.expL o l k) s
 | [], _, _, h => h _ _ _
 | v :: l, k, s, h => .exp o v fun _ _ _ => .expL o l fun _ _ _ => h _ _ _
end
theorem TOk.expArgs (o : Nat → Mode) : ∀ (l : List V) (i : Nat) {k : List V → List Nat → M α} {s : St}, (∀ v l s, TOk g T D (k v l) s) → TOk g T D (Pv.expArgs o i l k) s
 | [], _, _, _, h => h _ _ _
 | v :: l, i, k, s, h => .exp _ v fun _ _ _ => .expArgs o l (i + 1) fun _ _ _ => h _ _ _
theorem TOk.coll : ∀ (n : Nat) (todo done : List Nat) (cs : List Cell) {k : List Nat → List Cell → M α} {s : St}, (∀ b c s, TOk g T D (k b c) s) → TOk g T D (Pv.coll n todo done cs k) s
 | 0, _, _, _, _, _, _ => .fail
 | _ + 1, [], _, _, _, _, h => h _ _ _
 | n + 1, b :: todo, done, cs, k, s, h => by
  unfold Pv.coll
  split
  ·exact .coll n todo done cs h
  ·refine .rd (fun _ h => by cases h) ?_
   split
   ·exact .expL true _ fun _ _ _ => .wr (fun _ h => by cases h) (.coll n _ _ _ h)
   ·exact .wr (fun _ h => by cases h) (.coll n _ _ _ h)
   ·exact .fail
theorem TOk.seeA : ∀ (l : List Nat) {k : M α} {s : St}, (∀ s, TOk g T D k s) → TOk g T D (Pv.seeA l k) s
 | [], _, _, h => h _
 | _ :: l, _, _, h => .rdA fun _ _ => .seeA l h
theorem TOk.freezeA : ∀ (l : List Nat) {k : M α} {s : St}, (∀ s, TOk g T D k s) → TOk g T D (Pv.freezeA l k) s
 | [], _, _, h => h _
 | _ :: l, _, _, h => .rdA fun _ _ => .wr (fun _ h => by cases h) (.freezeA l h)
theorem TOk.revive : ∀ (l : List ((V × V) × V)) {k : M α} {s : St}, (∀ s, TOk g T D k s) → TOk g T D (Pv.revive l k) s
 | [], _, _, h => h _
 | p :: l, k, s, h => by
  unfold Pv.revive
  split
  ·exact .rdA fun _ _ => .chk (.wr (fun _ h => by cases h) (.wr (fun _ h => by cases h) (.revive l h)))
  ·exact .revive l h
  ·exact .revive l h
  ·exact .fail
theorem TOk.ask {f : Nat} {as' : List V} {bs : List Cell} {k : V → List Cell → M α} (h : ∀ v c, TOk g T D (k v c) s) : TOk g T D (.ask f as' bs k) s := by
 intro p hp
 simp only [M.foot] at hp
 split at hp
 ·exact h _ _ p hp
 ·cases hp
theorem zi4 : ∀ {l : List (Res × Bool)} {p : Res × Bool}, p ∈ l → (∀ n, p.1 ≠ .t n) → p.1 ∈ zgy l
 | q :: l, p, h, hn => by
  obtain ⟨r, w⟩ := q
  rcases List.mem_cons.1 h with rfl | h
  ·cases r with
   | t n => exact absurd rfl (hn n)
   | a n => simp [zgy]
   | b n => simp [zgy]
  ·have := zi4 h hn
   cases r with
   | t n => simpa [zgy] using this
   | a n => simp [zgy, this]
   | b n => simp [zgy, this]
theorem zkS : ∀ {l : List (Res × Bool)} {p : Res × Bool}, p ∈ l → p.2 = true → p ∈ wrT l
 | q :: l, p, h, hn => by
  unfold wrT
  rcases List.mem_cons.1 h with rfl | h
  ·rw [if_pos hn]; exact List.mem_cons_self
  ·split
   ·exact List.mem_cons_of_mem _ (zkS h hn)
   ·exact zkS h hn
theorem TOk.callM {own : Nat → Nat → Mode} {d f : Nat} {vs : List V} {k : V → M α} (h : ∀ v s, TOk g T D (k v) s) (s : St) : TOk g T D (Pv.callM own d f vs k) s :=
 .preL _ fun s => .expArgs _ _ _ fun _ _ s => .coll _ _ _ _ fun _ _ s => .seeA _ fun s => .ask fun v c => .freezeA _ fun s => .newBs _ fun s => .wrAs _ fun s => .back _ _ _ fun s => .revive _ fun s => h _ _
theorem TOk.ite {c : Prop} [Decidable c] {k l : M α} (h : TOk g T D k s) (h' : TOk g T D l s) : TOk g T D (if c then k else l) s := by
 split
 ·exact h
 ·exact h'
theorem TOk.rdB {n : Nat} {k : List V → M α} (h : ∀ xs, TOk g T D (k xs) s) : TOk g T D (Pv.rdB n k) s := by
 refine .rd (fun _ h => by cases h) ?_
 split
 ·exact h _
 ·exact .fail
theorem TOk.cloL {vs : List V} {k : List V → M α} (h : ∀ v s, TOk g T D (k v) s) (s : St) : TOk g T D (Pv.cloL vs k) s := .expL true _ fun _ _ _ => .chk (h _ _)
theorem TOk.cloLs : ∀ (l : List (List V)) {k : List (List V) → M α} {s : St}, (∀ v s, TOk g T D (k v) s) → TOk g T D (Pv.cloLs l k) s
 | [], _, _, h => h _ _
 | vs :: l, _, _, h => .cloL (fun _ _ => .cloLs l fun _ _ => h _ _) _
theorem TOk.rowY {ptr : Bool} {v : V} {k : List (List V) → M α} (h : ∀ v s, TOk g T D (k v) s) (s : St) : TOk g T D (Pv.rowY ptr v k) s := by
 unfold Pv.rowY
 split
 ·exact h _ _
 ·refine .rdA fun fz xs => .chk ?_
  dsimp only
  exact .ite (h _ _) (.ite (.wr (fun _ h => by cases h) (h _ _)) (.chk (h _ _)))
 ·exact .fail
theorem TOk.rowX {n : Nat} {ne : Bool} {v : V} {k : List (List V) → M α} (h : ∀ v s, TOk g T D (k v) s) (s : St) : TOk g T D (Pv.rowX n ne v k) s := by
 unfold Pv.rowX
 split
 ·exact h _ _
 ·exact .rdA fun fz xs => .ite .fail (.chk (.wr (fun _ h => by cases h) (h _ _)))
 ·exact .fail
theorem TOk.fin {d : Option Nat} (hd : ∀ n, d = some n → n ∈ T) (v : V) (s : St) : TOk g T d (finR d v) s := by
 intro p hp n hn
 exact ((FtOk.fin (R := []) (W := []) hd _ s) p hp).1 n hn
theorem TOk.optK {x : Option V} {k : V → M α} (h : ∀ v, TOk g T D (k v) s) : TOk g T D (Pv.optK x k) s := by
 cases x with
 | none => exact .fail
 | some v => exact h v
theorem TOk.takeM {n : Nat} {ag : Bool} {a : Nat} {xs : List (List V)} {i off d : Nat} {k : V → M α} (h : ∀ v s, TOk g T D (k v) s) (s : St) : TOk g T D (Pv.takeM n ag a xs i off d k) s := by
 unfold Pv.takeM
 split
 ·exact .chk (.wr (fun _ h => by cases h) (.wrAs _ fun s => .wr (fun _ h => by cases h) (h _ _)))
 ·exact .fail
theorem TOk.rdM {n : Nat} {k : zhx → M α} (h : ∀ xs, TOk g T D (k xs) s) : TOk g T D (Pv.rdM n k) s := by
 refine .rd (fun _ h => by cases h) ?_
 split
 ·exact h _
 ·exact .fail
theorem TOk.rest {own : Nat → Nat → Mode} {o : Opn} (hd : ∀ n, o.dst = some n → n ∈ T) (vs : List V) (s : St) : TOk g T o.dst (restM own o vs) s := by
 unfold restM
 dsimp only
 split
 ·exact .fillV _ fun _ => .callM (fun _ _ => .fin hd _ _) _
 ·split
  ·refine .rd (fun _ h => by cases h) ?_
   split
   ·refine .ite ?_ (.takeM (fun _ _ => .fin hd _ _) _)
    split
    ·exact .optK fun _ => .fin hd _ _
    ·exact .fail
   ·exact .takeM (fun _ _ => .fin hd _ _) _
   ·exact .fail
  ·exact .rdB fun cs => .ite (.ite (.fin hd _ _) .fail) (.optK fun _ => .fin hd _ _)
  ·split
   ·exact .optK fun _ => .fin hd _ _
   ·exact .fail
  ·exact .fail
 ·unfold asS
  split
  ·exact .rowX (fun _ _ => .chk (.newR (fun _ h => by cases h) (.wr (fun _ h => by cases h) (.fin hd _ _)))) _
  ·exact .fail
 ·split
  ·refine .rdM fun es => .chk ?_
   split
   ·exact .wr (fun _ h => by cases h) (.fin hd _ _)
   ·exact .wr (fun _ h => by cases h) (.fin hd _ _)
   ·exact .fail
  ·exact .fail
 ·split
  ·exact .rdA fun fz xs => .ite .fail (.ite (.chk (.wr (fun _ h => by cases h) (.fin hd _ _))) .fail)
  ·exact .fin hd _ _
  ·exact .fail
 ·refine .ite (.fin hd _ _) (.cloLs _ fun _ _ => .chk (.newR (fun _ h => by cases h) (.wr (fun _ h => by cases h) (.fin hd _ _))))
 ·exact .rowY (fun _ _ => .rowX (fun _ _ => .chk (.chk (.newR (fun _ h => by cases h) (.wr (fun _ h => by cases h) (.fin hd _ _))))) _) _
 ·refine .chk ?_
  split
  ·exact .rdB fun _ => .ite (.wr (fun _ h => by cases h) (.fin hd _ _)) .fail
  ·refine .cloL (fun _ _ => .rd (fun _ h => by cases h) ?_) _
   split
   ·refine .ite .fail ?_
    split
    ·exact .ite (.wr (fun _ h => by cases h) (.fin hd _ _)) .fail
    ·exact .fail
   ·split
    ·exact .ite (.wr (fun _ h => by cases h) (.fin hd _ _)) .fail
    ·exact .fail
   ·exact .fail
  ·exact .fail
 ·split
  ·exact .fillV _ fun _ => .callM (fun _ _ => .fin hd _ _) _
  ·exact .fail
 ·refine .rowY (fun _ _ => ?_) _
  split
  ·exact .rdA fun _ _ => .ite .fail (.ite (.chk (.wr (fun _ h => by cases h) (.fin hd _ _))) .fail)
  ·exact .fail
 ·exact .fail
theorem zoY {own : Nat → Nat → Mode} {o : Opn} {vs : List V} (hd : ∀ n, o.dst = some n → n ∈ T) (s : St) : FtOk g T o.dst (zgy ((restM own o vs).foot g s)) (zgy (wrT ((restM own o vs).foot g s))) (restM own o vs) s := by
 have hT : TOk g T o.dst (restM own o vs) s := .rest hd vs s
 intro p hp
 exact ⟨hT p hp, fun hn => ⟨zi4 hp hn, fun hw => zi4 (zkS hp hw) hn⟩⟩
theorem zqP {own : Nat → Nat → Mode} {o : Opn} {az : List Ar} (h : opC o.op = some az) : sem own (o.dst.getD 999999) o.op (finR o.dst) = zfC az (restM own o) := by
 obtain ⟨dst, op, gd⟩ := o
 cases op with
 | call f l => injection h with h; subst h; rfl
 | bsl zs n ps => injection h with h; subst h; rfl
 | app a b c x y => injection h with h; subst h; rfl
 | store n x y => injection h with h; subst h; rfl
 | callv f l => injection h with h; subst h; rfl
 | copy n x y => injection h with h; subst h; rfl
 | take n ag p => injection h with h; subst h; rfl
 | apps x y => injection h with h; subst h; rfl
 | mset s m k x => injection h with h; subst h; rfl
 | clear z x => injection h with h; subst h; rfl
 | _ => cases h
theorem zl5 {own : Nat → Nat → Mode} {o : Opn} {az : List Ar} {vs : List V} (h : opC o.op = some az) (hv : vals s az = some vs) (hoff : isOff o s = false) : zdk own g o s = zgy ((restM own o vs).foot g s) ∧ zfQ own g o s = zgy (wrT ((restM own o vs).foot g s)) := by
 unfold zdk zfQ
 cases ho : o.op <;> rw [ho] at h <;> first | (cases h; done) | (dsimp only; rw [h]; dsimp only; rw [hoff, hv]; exact ⟨rfl, rfl⟩)
theorem zoZ {own : Nat → Nat → Mode} {o : Opn} (h : tame own g o s = true) : FtOk g (zg8 o) o.dst (zdk own g o s) (zfQ own g o s) (z9 own o) s := by
 have hd : ∀ n, o.dst = some n → n ∈ zg8 o := by intro n hn; simp [zg8, hn]
 have key : ∀ s : St, isOff o s = false → (opQ o.op).isSome = true ∨ (∃ az vs, opC o.op = some az ∧ vals s az = some vs) → FtOk g (zg8 o) o.dst (zdk own g o s) (zfQ own g o s) (sem own (o.dst.getD 999999) o.op (finR o.dst)) s := by
  intro s hoff hs
  rcases hs with hs | ⟨az, vs, h1, h2⟩
  ·obtain ⟨l, hl⟩ := Option.isSome_iff_exists.1 hs
   exact znj hl (fun n hn => by simp [zg8, hl, hn]) (fun _ _ v s => .fin hd v _)
  ·rw [zqP h1, (zl5 h1 h2 hoff).1, (zl5 h1 h2 hoff).2]
   have hT : opQ o.op = none := by cases ho : o.op <;> rw [ho] at h1 <;> first | rfl | (cases h1; done)
   refine .gets (fun n hn => by simp [zg8, hT, h1, hn]) ?_
   intro ws hw
   rw [h2] at hw; injection hw with hw; subst hw
   exact zoY hd s
 have hon : isOff o s = false → (opQ o.op).isSome = true ∨ (∃ az vs, opC o.op = some az ∧ vals s az = some vs) := by
  intro hf
  unfold tame at h
  split at h
  ·rename_i l hl; exact .inl (by rw [hl]; rfl)
  ·split at h
   ·rw [hf] at h; cases h
   ·rename_i p hp
    rw [hf, Bool.false_or] at h
    obtain ⟨vs, hvs⟩ := Option.isSome_iff_exists.1 h
    exact .inr ⟨p, vs, hp, hvs⟩
 unfold z9
 cases hg : o.guard with
 | none => exact key s (by simp [isOff, hg]) (hon (by simp [isOff, hg]))
 | some p =>
  obtain ⟨j, want⟩ := p
  refine .rdT (by simp [zg8, hg]) ?_
  simp only [St.get]
  cases hl : look s.tm j with
  | none => exact .fail
  | some v =>
   cases v with
   | sc u =>
    cases u with
    | bool b =>
     simp only [Option.map_some]
     by_cases hb : b = want
     ·rw [if_pos hb]
      exact key s (by simp [isOff, hg, hl, hb]) (hon (by simp [isOff, hg, hl, hb]))
     ·rw [if_neg hb]
      exact .fin hd _ _
    | _ => exact .fail
   | tu vs =>
    cases vs with
    | nil => exact .fin hd _ _
    | cons _ _ => exact .fail
   | _ => exact .fail
/-- the run, and what the tame operations touch -/
abbrev Ft := Option (List Res × List Res × List Res)
/-- what a call of a function value writes, but for what is as it was -/
noncomputable def ztd (o : IOp) (W : List Res) (s s' : St) : List Res := match o with | .callv _ _ => W.filter (fun r => !sameR s s' r) | _ => W
noncomputable def ftO (own : Nat → Nat → Mode) (g : Ora) (o : Opn) (s s' : St) : Ft := if tame own g o s then some (zdk own g o s, zfQ own g o s, ztd o.op (zfQ own g o s) s s') else none
noncomputable def zi5 (own : Nat → Nat → Mode) (g : Ora) : List Ft → List Opn → St → Option (St × List Ft)
 | acc, [], s => some (s, acc.reverse)
 | acc, o :: l, s => bO (zc own g [o] s) fun s' => zi5 own g (ftO own g o s s' :: acc) l s'
def zte (a b : Opn) : Bool := match a.dst with | some d => !(zg8 b).contains d | none => true
def iso (a b : Option Opn) : Bool := match a, b with | some a, some b => zte a b && zte b a | _, _ => false
def apart (a b : List Res) : Bool := a.all fun x => b.all fun y => !decide (x = y)
def isoR (a b : Option Ft) : Bool := match a, b with | some (some a), some (some b) => (apart a.2.1 b.1 && apart b.2.1 a.1) || (apart a.2.2 b.1 && apart b.2.2 a.1) | _, _ => false
def sChk (ops : List Opn) (tm : List Ft) (conf : List (Nat × Nat)) : Bool := conf.all fun q => isoR tm[q.1]? tm[q.2]? && iso ops[q.1]? ops[q.2]?
theorem zkT {own : Nat → Nat → Mode} : ∀ (ops : List Opn) (acc : List Ft) (s : St) (r : St × List Ft), zi5 own g acc ops s = some r →
  zc own g ops s = some r.1 ∧ ∃ tm, r.2 = acc.reverse ++ tm ∧ tm.length = ops.length ∧ ∀ (i : Nat) (o : Opn) (R W W' : List Res), ops[i]? = some o → tm[i]? = some (some (R, W, W')) → ∀ p ∈ (zdA own g ops s).getD i [], (∀ n, p.1 = .t n → n ∈ zg8 o ∧ (p.2 = true → o.dst = some n)) ∧ ((∀ n, p.1 ≠ .t n) → p.1 ∈ R ∧ (p.2 = true → p.1 ∈ W ∧ p.1 ∈ W'))
 | [], acc, s, r, h => by
  simp only [zi5, Option.some.injEq] at h
  subst h
  exact ⟨rfl, [], by simp, rfl, by simp⟩
 | o :: l, acc, s, r, h => by
  simp only [zi5, zc, zaa] at h
  obtain ⟨s1, ⟨x, h1, h2⟩, h3⟩ := h
  injection h2 with h2
  subst h2
  obtain ⟨e1, tm, e2, e3, e4⟩ := zkT l _ _ r h3
  refine ⟨by simp only [zc, zaa]; exact ⟨x, h1, e1⟩, ftO own g o s x.2 :: tm, by rw [e2]; simp, by simp [e3], ?_⟩
  intro i o' R W W' ho ht
  cases i with
  | zero =>
   simp only [List.getElem?_cons_zero, Option.some.injEq] at ho ht
   subst ho
   simp only [zdA, h1, List.getD_cons_zero]
   unfold ftO at ht
   split at ht
   ·rename_i htm
    injection ht with ht; injection ht with ht1 ht2; injection ht2 with ht2 ht3
    subst ht1; subst ht2; subst ht3
    intro p hp
    obtain ⟨⟨q, b⟩, h5, rfl⟩ := List.mem_map.1 hp
    have h6 := zoZ htm _ h5
    refine ⟨fun n hn => ⟨(h6.1 n hn).1, fun hb => ?_⟩, fun hn => ⟨(h6.2 hn).1, fun hb => ?_⟩⟩
    ·simp only [Bool.and_eq_true] at hb
     exact (h6.1 n hn).2 hb.1
    ·simp only [Bool.and_eq_true] at hb
     have h7 := (h6.2 hn).2 hb.1
     refine ⟨h7, ?_⟩
     unfold ztd
     split
     ·exact List.mem_filter.2 ⟨h7, hb.2⟩
     ·exact h7
   ·cases ht
  | succ i =>
   simp only [List.getElem?_cons_succ] at ho ht
   simp only [zdA, h1, List.getD_cons_succ]
   exact e4 i o' R W W' ho ht
theorem zjU {own : Nat → Nat → Mode} : ∀ (ops : List Opn) (acc : List Ft) (s s' : St), zc own g ops s = some s' → ∃ tm, zi5 own g acc ops s = some (s', tm)
 | [], acc, s, s', h => by
  simp only [zc, Option.some.injEq] at h
  subst h
  exact ⟨_, rfl⟩
 | o :: l, acc, s, s', h => by
  simp only [zc, zaa] at h
  obtain ⟨x, h1, h2⟩ := h
  obtain ⟨tm, h3⟩ := zjU l (ftO own g o s x.2 :: acc) _ _ h2
  exact ⟨tm, by simp only [zi5, zc, zaa]; exact ⟨x.2, ⟨x, h1, rfl⟩, h3⟩⟩
theorem zg9 {a b : List Res} (h : apart a b = true) {x : Res} (ha : x ∈ a) (hb : x ∈ b) : False := by
 have := List.all_eq_true.1 (List.all_eq_true.1 h x ha) x hb
 simp at this
theorem znk (own : Nat → Nat → Mode) (e : Task → Option Ans) (ops : List Opn) (p : Nat × Nat) (conf : List (Nat × Nat)) (s : St) : zal own e (.region ops (p :: conf)) s =
  bO (zi5 own (callOf e) [] ops s) fun r => if sChk ops r.2 (p :: conf) then some (.normal, r.1) else bO (zc own (callOf e) ops s) fun s' => if (p :: conf).all (fun q => !zhP ((zdA own (callOf e) ops s).getD q.1 []) ((zdA own (callOf e) ops s).getD q.2 [])) then some (.normal, s') else none := by
 rw [zpb]
 cases hr : zc own (callOf e) ops s with
 | none =>
  cases hg : zi5 own (callOf e) [] ops s with
  | none => rfl
  | some r => rw [(zkT _ _ _ _ hg).1] at hr; cases hr
 | some s' =>
  obtain ⟨tm, hg⟩ := zjU (own := own) (g := callOf e) ops [] s s' hr
  obtain ⟨h1, tm', h2, h3, h4⟩ := zkT _ _ _ _ hg
  simp only [List.reverse_nil, List.nil_append] at h2
  subst h2
  rw [hg]
  simp only [bO]
  by_cases hs : sChk ops tm (p :: conf) = true
  ·rw [if_pos hs]
   have : ((p :: conf).all fun q => !zhP ((zdA own (callOf e) ops s).getD q.1 []) ((zdA own (callOf e) ops s).getD q.2 [])) = true := by
    rw [List.all_eq_true]
    intro q hq
    have h5 := List.all_eq_true.1 hs q hq
    simp only [Bool.and_eq_true] at h5
    obtain ⟨h6, h8⟩ := h5
    unfold isoR at h6
    split at h6
    ·rename_i x y u v hu hv
     obtain ⟨R1, W1, V1⟩ := u
     obtain ⟨R2, W2, V2⟩ := v
     simp only [Bool.or_eq_true, Bool.and_eq_true] at h6
     unfold iso at h8
     split at h8
     ·rename_i o1 o2 a2 b2
      simp only [Bool.and_eq_true] at h8
      have hx := h4 _ _ _ _ _ a2 hu
      have hy := h4 _ _ _ _ _ b2 hv
      rw [Bool.not_eq_true']
      apply Classical.byContradiction
      intro hc
      rw [Bool.not_eq_false] at hc
      simp only [zhP, List.any_eq_true, Bool.and_eq_true, Bool.or_eq_true, decide_eq_true_eq] at hc
      obtain ⟨u, hu, v, hv, huv, hw⟩ := hc
      by_cases ht : ∃ n, u.1 = .t n
      ·obtain ⟨n, hn⟩ := ht
       have m1 := (hx u hu).1 n hn
       have m2 := (hy v hv).1 n (by rw [← huv]; exact hn)
       rcases hw with hw | hw
       ·have h9 := h8.1
        simp [zte, m1.2 hw, m2.1] at h9
       ·have h9 := h8.2
        simp [zte, m2.2 hw, m1.1] at h9
      ·have hne : ∀ n, u.1 ≠ .t n := fun n hn => ht ⟨n, hn⟩
       have m1 := (hx u hu).2 hne
       have m2 := (hy v hv).2 (by rw [← huv]; exact hne)
       rcases h6 with h6 | h6 <;> rcases hw with hw | hw
       ·exact zg9 h6.1 (m1.2 hw).1 (by rw [huv]; exact m2.1)
       ·exact zg9 h6.2 (m2.2 hw).1 (by rw [← huv]; exact m1.1)
       ·exact zg9 h6.1 (m1.2 hw).2 (by rw [huv]; exact m2.1)
       ·exact zg9 h6.2 (m2.2 hw).2 (by rw [← huv]; exact m1.1)
     ·cases h8
    ·cases h6
   rw [if_pos this]
  ·rw [if_neg hs]
theorem zwu {own : Nat → Nat → Mode} (acc : List Ft) : zi5 own g acc [] s = some (s, acc.reverse) := nr rfl
theorem ztf {own : Nat → Nat → Mode} (acc : List Ft) (o : Opn) (l : List Opn) : zi5 own g acc (o :: l) s = bO (zc own g [o] s) fun s' => zi5 own g (ftO own g o s s' :: acc) l s' := nr rfl
theorem tame_q {own : Nat → Nat → Mode} {d : Option Nat} {op : IOp} {gd : Option (Nat × Bool)} (h : (opQ op).isSome = true) : tame own g ⟨d, op, gd⟩ s = true := by
 unfold tame
 obtain ⟨l, hl⟩ := Option.isSome_iff_exists.1 h
 simp only [hl]
theorem tame_c {own : Nat → Nat → Mode} {d : Option Nat} {f : Nat} {az : List Ar} {gd : Option (Nat × Bool)} : tame own g ⟨d, .call f az, gd⟩ s = (isOff ⟨d, .call f az, gd⟩ s || (vals s az).isSome) := nr rfl
theorem isOff_n {d : Option Nat} {op : IOp} : isOff ⟨d, op, none⟩ s = false := nr rfl
theorem isOff_g {d : Option Nat} {op : IOp} {j : Nat} {w : Bool} : isOff ⟨d, op, some (j, w)⟩ s = match look s.tm j with | some (.sc (.bool b)) => b != w | some (.tu []) => true | _ => false := nr rfl
theorem ztg {own : Nat → Nat → Mode} {d : Option Nat} {gd : Option (Nat × Bool)} (x : Ar) : tame own g ⟨d, (.mv x), gd⟩ s = true := nr rfl
theorem zo0 {own : Nat → Nat → Mode} {d : Option Nat} {gd : Option (Nat × Bool)} (x y z : Ar) : tame own g ⟨d, (.pick x y z), gd⟩ s = true := nr rfl
theorem zqQ {own : Nat → Nat → Mode} {d : Option Nat} {gd : Option (Nat × Bool)} (o : BinOp) (x y : Ar) : tame own g ⟨d, (.bin o x y), gd⟩ s = true := nr rfl
theorem zqR {own : Nat → Nat → Mode} {d : Option Nat} {gd : Option (Nat × Bool)} (x : Ar) : tame own g ⟨d, (.un .not x), gd⟩ s = true := nr rfl
theorem zo1 {own : Nat → Nat → Mode} {d : Option Nat} {gd : Option (Nat × Bool)} (k : IntKind) (x : Ar) : tame own g ⟨d, (.conv k x), gd⟩ s = true := nr rfl
theorem zo2 {own : Nat → Nat → Mode} {d : Option Nat} {gd : Option (Nat × Bool)} (n : Nat) (ag : Bool) (x : Ar) : tame own g ⟨d, (.load n ag x), gd⟩ s = true := nr rfl
theorem zqS {own : Nat → Nat → Mode} {d : Option Nat} {gd : Option (Nat × Bool)} (n : Nat) (x : Ar) : tame own g ⟨d, (.fld n x), gd⟩ s = true := nr rfl
theorem zo3 {own : Nat → Nat → Mode} {d : Option Nat} {gd : Option (Nat × Bool)} (o n : Nat) (ag : Bool) (x : Ar) : tame own g ⟨d, (.fget o n ag x), gd⟩ s = true := nr rfl
theorem zqT {own : Nat → Nat → Mode} {d : Option Nat} {gd : Option (Nat × Bool)} (n : Nat) (x y : Ar) : tame own g ⟨d, (.idx n x y), gd⟩ s = true := nr rfl
theorem zqU {own : Nat → Nat → Mode} {d : Option Nat} {gd : Option (Nat × Bool)} (n : Nat) (x : Ar) : tame own g ⟨d, (.len n x), gd⟩ s = true := nr rfl
theorem zqV {own : Nat → Nat → Mode} {d : Option Nat} {gd : Option (Nat × Bool)} (n : Nat) (x : Ar) : tame own g ⟨d, (.ext n x), gd⟩ s = true := nr rfl
theorem ftO_eq {own : Nat → Nat → Mode} {o : Opn} {s' : St} : ftO own g o s s' = if tame own g o s then some (zdk own g o s, zfQ own g o s, ztd o.op (zfQ own g o s) s s') else none := nr rfl
theorem zth {n : Nat} {s' : St} : sameR s s' (.b n) = @decide (look s.bx n = look s'.bx n) (Classical.propDecidable _) := nr rfl
theorem zti {n : Nat} {s' : St} : sameR s s' (.a n) = @decide (look s.ar n = look s'.ar n) (Classical.propDecidable _) := nr rfl
theorem zqW {own : Nat → Nat → Mode} {d : Option Nat} {gd : Option (Nat × Bool)} (n : Nat) (x : Ar) (lo hi mx : Option Ar) : tame own g ⟨d, (.slc n x lo hi mx), gd⟩ s = true := nr rfl
theorem tame_alloc {own : Nat → Nat → Mode} {d : Option Nat} {gd : Option (Nat × Bool)} (z : List V) : tame own g ⟨d, (.alloc z), gd⟩ s = true := nr rfl
theorem tame_box {own : Nat → Nat → Mode} {d : Option Nat} {gd : Option (Nat × Bool)} (x : Ar) : tame own g ⟨d, (.box x), gd⟩ s = true := nr rfl
theorem zo4 {own : Nat → Nat → Mode} {d : Option Nat} {gd : Option (Nat × Bool)} (n : Nat) (l : List Ar) : tame own g ⟨d, (.mkfn n l), gd⟩ s = true := nr rfl
theorem znl {own : Nat → Nat → Mode} {d : Option Nat} {gd : Option (Nat × Bool)} (z : List V) (l : List (Nat × Nat × Ar)) : tame own g ⟨d, (.build z l), gd⟩ s = true := nr rfl
theorem zo5 {own : Nat → Nat → Mode} {d : Option Nat} {gd : Option (Nat × Bool)} (z : List V) (n : Nat) (x y : Ar) : tame own g ⟨d, (.mksl z n x y), gd⟩ s = true := nr rfl
theorem znm {own : Nat → Nat → Mode} {d : Option Nat} {gd : Option (Nat × Bool)} (z : List V) (x : Ar) : tame own g ⟨d, (.clear z x), gd⟩ s = (isOff ⟨d, (.clear z x), gd⟩ s || (vals s [x]).isSome) := nr rfl
theorem zo6 {own : Nat → Nat → Mode} {d : Option Nat} {gd : Option (Nat × Bool)} (a : Bool) (x y z : Ar) : tame own g ⟨d, (.mset a x y z), gd⟩ s = (isOff ⟨d, (.mset a x y z), gd⟩ s || (vals s [x, y, z]).isSome) := nr rfl
theorem tame_mx {own : Nat → Nat → Mode} {d : Option Nat} {gd : Option (Nat × Bool)} (x y : Ar) : tame own g ⟨d, (.mx x y), gd⟩ s = true := nr rfl
theorem tame_mn {own : Nat → Nat → Mode} {d : Option Nat} {gd : Option (Nat × Bool)} (x y : Ar) : tame own g ⟨d, (.mn x y), gd⟩ s = true := nr rfl
theorem zo7 {own : Nat → Nat → Mode} {d : Option Nat} {gd : Option (Nat × Bool)} (a : Bool) (z : V) (b : Bool) (x y : Ar) : tame own g ⟨d, (.mget a z b x y), gd⟩ s = true := nr rfl
theorem zo8 {own : Nat → Nat → Mode} {d : Option Nat} {gd : Option (Nat × Bool)} (a : Bool) (z : V) (x y : Ar) : tame own g ⟨d, (.ment a z x y), gd⟩ s = true := nr rfl
theorem zqX {own : Nat → Nat → Mode} {d : Option Nat} {gd : Option (Nat × Bool)} (x y z : Ar) : tame own g ⟨d, (.mst x y z), gd⟩ s = true := nr rfl
theorem znn {own : Nat → Nat → Mode} {d : Option Nat} {gd : Option (Nat × Bool)} (n : Nat) (x y : Ar) : tame own g ⟨d, (.store n x y), gd⟩ s = (isOff ⟨d, (.store n x y), gd⟩ s || (vals s [x, y]).isSome) := nr rfl
theorem zqY {own : Nat → Nat → Mode} {d : Option Nat} {gd : Option (Nat × Bool)} (n m : Nat) (b : Bool) (x y : Ar) : tame own g ⟨d, (.app n m b x y), gd⟩ s = (isOff ⟨d, (.app n m b x y), gd⟩ s || (vals s [x, y]).isSome) := nr rfl
theorem zqZ {own : Nat → Nat → Mode} {d : Option Nat} {gd : Option (Nat × Bool)} (z : List V) (n : Nat) (l : List (Nat × Ar)) : tame own g ⟨d, (.bsl z n l), gd⟩ s = (isOff ⟨d, (.bsl z n l), gd⟩ s || (vals s (l.map (·.2))).isSome) := nr rfl
theorem zno {own : Nat → Nat → Mode} {d : Option Nat} {gd : Option (Nat × Bool)} (x : Ar) (l : List Ar) : tame own g ⟨d, (.callv x l), gd⟩ s = (isOff ⟨d, (.callv x l), gd⟩ s || (vals s (x :: l)).isSome) := nr rfl
theorem zo9 {own : Nat → Nat → Mode} {d : Option Nat} {gd : Option (Nat × Bool)} (n : Nat) (x y : Ar) : tame own g ⟨d, (.copy n x y), gd⟩ s = (isOff ⟨d, (.copy n x y), gd⟩ s || (vals s [x, y]).isSome) := nr rfl
theorem tame_take {own : Nat → Nat → Mode} {d : Option Nat} {gd : Option (Nat × Bool)} (n : Nat) (ag : Bool) (x : Ar) : tame own g ⟨d, (.take n ag x), gd⟩ s = (isOff ⟨d, (.take n ag x), gd⟩ s || (vals s [x]).isSome) := nr rfl
theorem tame_apps {own : Nat → Nat → Mode} {d : Option Nat} {gd : Option (Nat × Bool)} (x y : Ar) : tame own g ⟨d, (.apps x y), gd⟩ s = (isOff ⟨d, (.apps x y), gd⟩ s || (vals s [x, y]).isSome) := nr rfl
theorem tame_beq {own : Nat → Nat → Mode} {d : Option Nat} {gd : Option (Nat × Bool)} (b : Bool) (x y : Ar) : tame own g ⟨d, (.beq b x y), gd⟩ s = true := nr rfl
theorem tame_neg {own : Nat → Nat → Mode} {d : Option Nat} {gd : Option (Nat × Bool)} (x : Ar) : tame own g ⟨d, (.un .neg x), gd⟩ s = true := nr rfl
theorem tame_b2s {own : Nat → Nat → Mode} {d : Option Nat} {gd : Option (Nat × Bool)} (x : Ar) : tame own g ⟨d, (.b2s x), gd⟩ s = true := nr rfl
theorem tame_sidx {own : Nat → Nat → Mode} {d : Option Nat} {gd : Option (Nat × Bool)} (x y : Ar) : tame own g ⟨d, (.sidx x y), gd⟩ s = true := nr rfl
theorem tame_sslc {own : Nat → Nat → Mode} {d : Option Nat} {gd : Option (Nat × Bool)} (x : Ar) (lo hi : Option Ar) : tame own g ⟨d, (.sslc x lo hi), gd⟩ s = true := nr rfl
end Go.Pv

namespace Go.Pv
variable {own : Nat → Nat → Mode} {g : Ora} {l : List Opn} {s : St} {d : Nat}
theorem zre (zs : List V) : zc own g (⟨some d, .alloc zs, none⟩ :: l) s = match look s.bx (1000 * (d + 1)) with
  | none => zc own g l { s with tm := setA s.tm d (.bx (1000 * (d + 1)) 0), bx := setA s.bx (1000 * (d + 1)) (.b zs) }
  | some _ => none := by
 simp only [zc, z9, sem, newR, M.run, St.get, Option.getD_some]
 cases look s.bx (1000 * (d + 1)) <;> rfl
theorem zwJ (x : Ar) : zc own g (⟨some d, .box x, none⟩ :: l) s = bO (val s x) fun v => match look s.bx (1000 * (d + 1)) with
  | none => zc own g l { s with tm := setA s.tm d (.bx (1000 * (d + 1)) 0), bx := setA s.bx (1000 * (d + 1)) (.b (cellsOf v)) }
  | some _ => none := by
 simp only [zc, z9, sem, zx]
 cases val s x with
 | none => rfl
 | some v =>
  simp only [bO, newR, M.run, St.get, Option.getD_some]
  cases look s.bx (1000 * (d + 1)) <;> rfl
def zfR (own : Nat → Nat → Mode) (g : Ora) (l : List Opn) (s : St) (n : Nat) (v w : V) : Option St :=
 bO ((chk (decide ((cellsOf w).length = n) && (cellsOf w).all one1) (match v with
  | .bx b off => rdB b fun cs => if off + n ≤ cs.length then .wr (.b b) (.b (setAt cs off (cellsOf w))) (M.pure ()) else .fail
  | .ep a i off => cloL (cellsOf w) fun ws => .rd (.a a) fun c => match c with
   | some (.a fz xs) => if fz then .fail else (match xs[i]? with
    | some cs => if off + n ≤ cs.length then .wr (.a a) (.a false (xs.set i (setAt cs off ws))) (M.pure ()) else .fail
    | none => .fail)
   | some (.h xs) => (match xs[i]? with
    | some cs => if off + n ≤ cs.length then .wr (.a a) (.h (xs.set i (setAt cs off ws))) (M.pure ()) else .fail
    | none => .fail)
   | _ => .fail
  | _ => .fail)).run g s) fun r => zc own g l r.2
theorem zwK (n : Nat) (v w : V) : zfR own g l s n v w = bO ((chk (decide ((cellsOf w).length = n) && (cellsOf w).all one1) (match v with
  | .bx b off => rdB b fun cs => if off + n ≤ cs.length then .wr (.b b) (.b (setAt cs off (cellsOf w))) (M.pure ()) else .fail
  | .ep a i off => cloL (cellsOf w) fun ws => .rd (.a a) fun c => match c with
   | some (.a fz xs) => if fz then .fail else (match xs[i]? with
    | some cs => if off + n ≤ cs.length then .wr (.a a) (.a false (xs.set i (setAt cs off ws))) (M.pure ()) else .fail
    | none => .fail)
   | some (.h xs) => (match xs[i]? with
    | some cs => if off + n ≤ cs.length then .wr (.a a) (.h (xs.set i (setAt cs off ws))) (M.pure ()) else .fail
    | none => .fail)
   | _ => .fail
  | _ => .fail)).run g s) fun r => zc own g l r.2 := nr rfl
theorem zrf (n : Nat) (p x : Ar) : zc own g (⟨none, .store n p x, none⟩ :: l) s = bO (val s p) fun v => bO (val s x) fun w => zfR own g l s n v w := by
 simp only [zc, z9, sem, zx]
 cases val s p with
 | none => rfl
 | some v =>
  simp only [bO, zx]
  cases val s x with
  | none => rfl
  | some w => rfl
theorem zpm (n b off : Nat) (w : V) : zfR own g l s n (.bx b off) w = if (cellsOf w).length = n ∧ (cellsOf w).all one1 = true then (match look s.bx b with
  | some (.b cs) => if off + n ≤ cs.length then zc own g l { s with bx := setA s.bx b (.b (setAt cs off (cellsOf w))) } else none
  | _ => none) else none := by
 unfold zfR
 by_cases h : (cellsOf w).length = n ∧ (cellsOf w).all one1 = true
 ·rw [if_pos h]
  simp only [chk, h.1, h.2, decide_true, Bool.and_self, if_true, rdB, M.run, St.get]
  cases look s.bx b with
  | none => rfl
  | some c =>
   cases c with
   | b cs => by_cases h2 : off + n ≤ cs.length <;> simp [h2, M.run, bO, St.put]
   | _ => rfl
 ·rw [if_neg h]
  have : (decide ((cellsOf w).length = n) && (cellsOf w).all one1) = false := by
   rw [Bool.eq_false_iff]
   simp only [ne_eq, Bool.and_eq_true, decide_eq_true_eq]
   exact h
  simp only [chk, this, Bool.false_eq_true, if_false, M.run, bO]
theorem zxM (a i off : Nat) (v : Value) : zfR own g l s 1 (.ep a i off) (.sc v) = match look s.ar a with
  | some (.a false xs) => (match xs[i]? with | some cs => if off + 1 ≤ cs.length then zc own g l { s with ar := setA s.ar a (.a false (xs.set i (setAt cs off [.sc v]))) } else none | none => none)
  | some (.h xs) => (match xs[i]? with | some cs => if off + 1 ≤ cs.length then zc own g l { s with ar := setA s.ar a (.h (xs.set i (setAt cs off [.sc v]))) } else none | none => none)
  | _ => none := by
 unfold zfR
 simp only [chk, cellsOf, List.length_singleton, decide_true, List.all_cons, one1, List.all_nil, Bool.and_self, if_true, cloL, expL, exp, zdJ, rdA, M.run, St.get]
 cases look s.ar a with
 | none => rfl
 | some c =>
  cases c with
  | a fz xs =>
   cases fz with
   | true => rfl
   | false =>
    simp only [Bool.false_eq_true, if_false]
    cases h : xs[i]? with
    | none => rfl
    | some cs => by_cases h2 : off + 1 ≤ cs.length <;> simp [h2, M.run, bO, St.put]
  | h xs =>
   cases h : xs[i]? with
   | none => simp only [h]; rfl
   | some cs => by_cases h2 : off + 1 ≤ cs.length <;> simp [h, h2, M.run, bO, St.put]
  | _ => rfl
/-- rows are taken out -/
def zhX (own : Nat → Nat → Mode) (g : Ora) (d : Nat) (l : List Opn) (s : St) (n : Nat) (ag : Bool) (v : V) : Option St :=
 bO ((match v with
  | .ep a i off => .rd (.a a) fun c => match c with
   | some (.a fz xs) => if fz then (match xs[i]? with | some cs => optK (ldN n ag true cs off) (finR (some d)) | none => .fail) else takeM n ag a xs i off (1000 * (d + 1)) (finR (some d))
   | some (.h xs) => takeM n ag a xs i off (1000 * (d + 1)) (finR (some d))
   | _ => .fail
  | .bx b off => rdB b fun cs => if ag then (if off + n ≤ cs.length then finR (some d) (.ag ((cs.drop off).take n)) else .fail) else optK cs[off]? (finR (some d))
  | .fp xs i off => match xs[i]? with
   | some cs => optK (ldN n ag true cs off) (finR (some d))
   | none => .fail
  | _ => .fail : M Unit).run g s) fun r => zc own g l r.2
theorem zxN (n : Nat) (ag : Bool) (v : V) : zhX own g d l s n ag v = bO ((match v with
  | .ep a i off => .rd (.a a) fun c => match c with
   | some (.a fz xs) => if fz then (match xs[i]? with | some cs => optK (ldN n ag true cs off) (finR (some d)) | none => .fail) else takeM n ag a xs i off (1000 * (d + 1)) (finR (some d))
   | some (.h xs) => takeM n ag a xs i off (1000 * (d + 1)) (finR (some d))
   | _ => .fail
  | .bx b off => rdB b fun cs => if ag then (if off + n ≤ cs.length then finR (some d) (.ag ((cs.drop off).take n)) else .fail) else optK cs[off]? (finR (some d))
  | .fp xs i off => match xs[i]? with
   | some cs => optK (ldN n ag true cs off) (finR (some d))
   | none => .fail
  | _ => .fail : M Unit).run g s) fun r => zc own g l r.2 := nr rfl
theorem ztT (n : Nat) (ag : Bool) (p : Ar) : zc own g (⟨some d, .take n ag p, none⟩ :: l) s = bO (val s p) fun v => zhX own g d l s n ag v := by
 simp only [zc, z9, sem, zx]
 cases val s p with
 | none => rfl
 | some v => cases v <;> rfl
theorem zrg (n : Nat) (ag : Bool) (xs : List (List V)) (i off : Nat) : zhX own g d l s n ag (.fp xs i off) = match xs[i]? with | some cs => bO (ldN n ag true cs off) fun v => zc own g l { s with tm := setA s.tm d v } | none => none := by
 unfold zhX
 cases h : xs[i]? with
 | none => simp [h, M.run, bO]
 | some cs => cases h2 : ldN n ag true cs off <;> simp [h, h2, optK, M.run, bO, finR, St.put]
/-- one cell, a row of one's own, is taken out of a row -/
theorem zxO (n : Nat) (a i off : Nat) : zhX own g d l s n false (.ep a i off) = match look s.ar a with
  | some (.a true xs) => (match xs[i]? with | some cs => bO (ldN n false true cs off) fun v => zc own g l { s with tm := setA s.tm d v } | none => none)
  | some (.a false xs) => bO ((takeM n false a xs i off (1000 * (d + 1)) (finR (some d))).run g s) fun r => zc own g l r.2
  | some (.h xs) => bO ((takeM n false a xs i off (1000 * (d + 1)) (finR (some d))).run g s) fun r => zc own g l r.2
  | _ => none := by
 unfold zhX
 simp only [M.run, St.get]
 cases look s.ar a with
 | none => rfl
 | some c =>
  cases c with
  | a fz xs =>
   cases fz with
   | true =>
    simp only [if_true]
    cases h : xs[i]? with
    | none => simp [h, M.run, bO]
    | some cs => cases h2 : ldN n false true cs off <;> simp [h, h2, optK, M.run, bO, finR, St.put]
   | false => rfl
  | _ => rfl
theorem ztU (f : Nat) (cs : List Ar) : zc own g (⟨some d, .mkfn f cs, none⟩ :: l) s = bO (vals s cs) fun vs => zc own g l { s with tm := setA s.tm d (.fn f vs) } := by
 simp only [zc, z9, sem, zeY]
 cases vals s cs <;> rfl
theorem zrh (x : Ar) (az : List Ar) : zc own g (⟨some d, .callv x az, none⟩ :: l) s = bO (val s x) fun v => bO (vals s az) fun vs => match v with | .fn f caps => zi7 own g d f l (vs ++ caps) s | _ => none := by
 simp only [zc, z9, sem, zx]
 cases val s x with
 | none => rfl
 | some v =>
  simp only [bO, zeY]
  cases vals s az with
  | none => rfl
  | some vs => cases v <;> rfl
def zkV : V → Option Nat
 | .sc (.int _ n) => if 0 ≤ n then some n.toNat else none
 | _ => none
theorem zri (k : IntKind) (n : Int) : zkV (.sc (.int k n)) = if 0 ≤ n then some n.toNat else none := nr rfl
theorem zhH {α : Type} (v : V) (k : Nat → M α) : (natOf v k).run g s = bO (zkV v) fun n => (k n).run g s := by
 cases v with
 | sc u =>
  cases u with
  | int k n => by_cases h : 0 ≤ n <;> simp [natOf, asI, zkV, h, bO, M.run]
  | _ => rfl
 | _ => rfl
theorem ztV (zs : List V) (bytes : Nat) (x y : Ar) : zc own g (⟨some d, .mksl zs bytes x y, none⟩ :: l) s = bO (val s x) fun v => bO (val s y) fun w => bO (zkV v) fun n => bO (zkV w) fun c =>
  if n ≤ c ∧ lim c bytes = true ∧ zs.all zdJ = true ∧ (n = 0 → c = 0) then (match look s.ar (1000 * (d + 1)) with
   | none => zc own g l { s with tm := setA s.tm d (.rf (1000 * (d + 1)) 0 n), ar := setA s.ar (1000 * (d + 1)) (.a false (List.replicate n zs)) }
   | some _ => none) else none := by
 simp only [zc, z9, sem, zx]
 cases val s x with
 | none => rfl
 | some v =>
  simp only [bO, zx]
  cases val s y with
  | none => rfl
  | some w =>
   simp only [bO, zhH]
   cases zkV v with
   | none => rfl
   | some n =>
    simp only [bO, zhH]
    cases zkV w with
    | none => rfl
    | some c =>
     simp only [bO]
     by_cases h : n ≤ c ∧ lim c bytes = true ∧ zs.all zdJ = true ∧ (n = 0 → c = 0)
     ·rw [if_pos h, if_pos h]
      simp only [newR, M.run, St.get, Option.getD_some]
      cases look s.ar (1000 * (d + 1)) <;> rfl
     ·rw [if_neg h, if_neg h]; rfl
/-- a row literal of plain cells -/
def zkW (own : Nat → Nat → Mode) (g : Ora) (d : Nat) (l : List Opn) (s : St) (zs : List V) (n : Nat) (ks : List Nat) (vs : List V) : Option St :=
 bO ((if n = 0 then finR (some d) (.ls true []) else cloLs (vs.map cellsOf) fun ws =>
   chk (ws.all (fun c => c.length == zs.length) && decide (n ≤ 1000) && ks.all (fun p => decide (p < n)) && zs.all zdJ)
   (newR (.a (1000 * (d + 1))) (.wr (.a (1000 * (d + 1))) (.a false (setEls (List.replicate n zs) (ks.zip ws))) (finR (some d) (.rf (1000 * (d + 1)) 0 n)))) : M Unit).run g s) fun r => zc own g l r.2
theorem zwL (zs : List V) (n : Nat) (ps : List (Nat × Ar)) : zc own g (⟨some d, .bsl zs n ps, none⟩ :: l) s = bO (vals s (ps.map (·.2))) fun vs => zkW own g d l s zs n (ps.map (·.1)) vs := by
 simp only [zc, z9, sem, zeY]
 cases vals s (ps.map (·.2)) with
 | none => rfl
 | some vs =>
  simp only [bO, zkW, Option.getD_some, List.all_map]
  rfl
theorem zwM (zs : List V) (ks : List Nat) (vs : List V) : zkW own g d l s zs 0 ks vs = zc own g l { s with tm := setA s.tm d (.ls true []) } := nr rfl
theorem bslR_1 (v : Value) (k : IntKind) (m : Int) : zkW own g d l s [.sc (.int k m)] 1 [0] [.sc v] = match look s.ar (1000 * (d + 1)) with
   | none => zc own g l { s with tm := setA s.tm d (.rf (1000 * (d + 1)) 0 1), ar := setA s.ar (1000 * (d + 1)) (.a false [[.sc v]]) }
   | some _ => none := by
 have h : (cloLs ([V.sc v].map cellsOf) fun ws =>
   chk (ws.all (fun c => c.length == [V.sc (.int k m)].length) && decide (1 ≤ 1000) && [0].all (fun p => decide (p < 1)) && [V.sc (.int k m)].all zdJ)
   (newR (.a (1000 * (d + 1))) (.wr (.a (1000 * (d + 1))) (.a false (setEls (List.replicate 1 [V.sc (.int k m)]) ([0].zip ws))) (finR (some d) (.rf (1000 * (d + 1)) 0 1)))) : M Unit)
   = newR (.a (1000 * (d + 1))) (.wr (.a (1000 * (d + 1))) (.a false [[.sc v]]) (finR (some d) (.rf (1000 * (d + 1)) 0 1))) := by
  simp [cloLs, cloL, cellsOf, expL, exp, zdJ, chk, setEls]
 unfold zkW
 rw [if_neg (by omega), h]
 simp only [newR, M.run, St.get]
 cases look s.ar (1000 * (d + 1)) <;> rfl
def zhY (s : St) (ptr : Bool) : V → Option (List (List V) × St)
 | .ls _ xs => some (zbM xs, s)
 | .rf a off len => match look s.ar a with
  | some (.a fz xs) => if off + len ≤ xs.length then (if fz then some (zbM (sub xs off len), s) else if ptr then some (sub xs off len, { s with ar := setA s.ar a .dead }) else if flatR (sub xs off len) then some (sub xs off len, s) else none) else none
  | _ => none
 | _ => none
def zhZ (s : St) (sz : Nat) (ne : Bool) : V → Option (List (List V) × St)
 | .ls true [] => some ([], s)
 | .rf a off len => match look s.ar a with
  | some (.a false xs) => if decide (off + len ≤ xs.length) && allLen sz xs && (decide (off = 0 ∧ len = xs.length) || (ne || decide (0 < len))) then some (sub xs off len, { s with ar := setA s.ar a .dead }) else none
  | _ => none
 | _ => none
theorem zrj (s : St) (ptr o : Bool) (xs : List (List V)) : zhY s ptr (.ls o xs) = some (zbM xs, s) := nr rfl
theorem zrk (s : St) (ptr : Bool) (a off len : Nat) : zhY s ptr (.rf a off len) = match look s.ar a with
  | some (.a fz xs) => if off + len ≤ xs.length then (if fz then some (zbM (sub xs off len), s) else if ptr then some (sub xs off len, { s with ar := setA s.ar a .dead }) else if flatR (sub xs off len) then some (sub xs off len, s) else none) else none
  | _ => none := nr rfl
theorem zpn (s : St) (sz : Nat) (ne : Bool) : zhZ s sz ne (.ls true []) = some ([], s) := nr rfl
theorem zrl (s : St) (sz : Nat) (ne : Bool) (a off len : Nat) : zhZ s sz ne (.rf a off len) = match look s.ar a with
  | some (.a false xs) => if decide (off + len ≤ xs.length) && allLen sz xs && (decide (off = 0 ∧ len = xs.length) || (ne || decide (0 < len))) then some (sub xs off len, { s with ar := setA s.ar a .dead }) else none
  | _ => none := nr rfl
theorem zl8 {α : Type} (ptr : Bool) (v : V) (k : List (List V) → M α) : (rowY ptr v k).run g s = bO (zhY s ptr v) fun p => (k p.1).run g p.2 := by
 cases v with
 | ls o xs => rfl
 | rf a off len =>
  simp only [rowY, rdS, rdA, M.run, St.get, zhY]
  cases look s.ar a with
  | none => rfl
  | some c =>
   cases c with
   | a fz xs =>
    simp only [chk]
    by_cases h : off + len ≤ xs.length
    ·simp only [h, decide_true, if_true]
     cases fz with
     | true => rfl
     | false =>
      cases ptr with
      | true => rfl
      | false => cases h2 : flatR (sub xs off len) <;> simp [h2, bO, M.run]
    ·simp only [h, decide_false, Bool.false_eq_true, if_false]; rfl
   | _ => rfl
 | _ => rfl
theorem zl9 {α : Type} (sz : Nat) (ne : Bool) (v : V) (k : List (List V) → M α) : (rowX sz ne v k).run g s = bO (zhZ s sz ne v) fun p => (k p.1).run g p.2 := by
 cases v with
 | ls o xs => cases o <;> cases xs <;> rfl
 | rf a off len =>
  simp only [rowX, rdA, M.run, St.get, zhZ]
  cases look s.ar a with
  | none => rfl
  | some c =>
   cases c with
   | a fz xs =>
    cases fz with
    | true => rfl
    | false =>
     simp only [chk, Bool.false_eq_true, if_false]
     cases h : (decide (off + len ≤ xs.length) && allLen sz xs && (decide (off = 0 ∧ len = xs.length) || (ne || decide (0 < len)))) with
     | true => rfl
     | false => rfl
   | _ => rfl
 | _ => rfl
theorem zwN (sz bytes : Nat) (ptr : Bool) (x y : Ar) : zc own g (⟨some d, .app sz bytes ptr x y, none⟩ :: l) s = bO (val s x) fun v => bO (val s y) fun w => bO (zhY s ptr w) fun p => bO (zhZ p.2 sz (!p.1.isEmpty) v) fun q =>
  if (lim (q.1.length + p.1.length) bytes && allLen sz p.1) = true then (match look q.2.ar (1000 * (d + 1)) with
   | none => zc own g l { q.2 with tm := setA q.2.tm d (.rf (1000 * (d + 1)) 0 (q.1.length + p.1.length)), ar := setA q.2.ar (1000 * (d + 1)) (.a false (q.1 ++ p.1)) }
   | some _ => none) else none := by
 simp only [zc, z9, sem, zx]
 cases val s x with
 | none => rfl
 | some v =>
  simp only [bO, zx]
  cases val s y with
  | none => rfl
  | some w =>
   simp only [bO, zl8]
   cases zhY s ptr w with
   | none => rfl
   | some p =>
    simp only [bO, zl9]
    cases zhZ p.2 sz (!p.1.isEmpty) v with
    | none => rfl
    | some q =>
     simp only [bO, chk]
     cases h1 : lim (q.1.length + p.1.length) bytes with
     | false => simp [M.run]
     | true =>
      cases h2 : allLen sz p.1 with
      | false => simp [M.run]
      | true =>
       simp only [if_true, Bool.and_self, newR, M.run, St.get, Option.getD_some]
       cases look q.2.ar (1000 * (d + 1)) <;> rfl
def zfS (s : St) (x : Option Ar) (n : Nat) : Option Nat := match x with | none => some n | some a => bO (val s a) zkV
theorem zwO (s : St) (n : Nat) : zfS s none n = some n := nr rfl
theorem zwP (s : St) (a : Ar) (n : Nat) : zfS s (some a) n = bO (val s a) zkV := nr rfl
theorem zdD {α : Type} (x : Option Ar) (n : Nat) (k : Nat → M α) : (optN x n k).run g s = bO (zfS s x n) fun m => (k m).run g s := by
 cases x with
 | none => rfl
 | some a =>
  simp only [optN, zfS, zx]
  cases val s a with
  | none => rfl
  | some v => simp only [bO, zhH]
def zrm (s : St) : V → Option Nat
 | .rf a _ len => match look s.ar a with | some (.a _ _) => some len | _ => none
 | .ls _ xs => some xs.length
 | _ => none
def znt (s : St) (sz : Nat) (v : V) (i h : Nat) : Option V :=
 match v with
 | .rf a off len => match look s.ar a with
  | some (.a _ xs) => if decide (off + len ≤ xs.length) && allLen sz xs then some (.rf a (off + i) (h - i)) else none
  | _ => none
 | .ls true [] => some (.ls true [])
 | .ls _ xs => if allLen sz xs then some (.ls false (sub xs i (h - i))) else none
 | _ => none
theorem ztW (s : St) (a o n : Nat) : zrm s (.rf a o n) = match look s.ar a with | some (.a _ _) => some n | _ => none := nr rfl
theorem ztX (s : St) (o : Bool) (xs : List (List V)) : zrm s (.ls o xs) = some xs.length := nr rfl
theorem ztY (s : St) (sz a off len i h : Nat) : znt s sz (.rf a off len) i h = match look s.ar a with
  | some (.a _ xs) => if decide (off + len ≤ xs.length) && allLen sz xs then some (.rf a (off + i) (h - i)) else none
  | _ => none := nr rfl
theorem ztZ (s : St) (sz : Nat) (xs : List (List V)) (i h : Nat) : znt s sz (.ls false xs) i h = if allLen sz xs then some (.ls false (sub xs i (h - i))) else none := nr (by cases xs <;> rfl)
theorem zrn (s : St) (sz i h : Nat) : znt s sz (.ls true []) i h = some (.ls true []) := nr rfl
theorem zwQ (sz : Nat) (x : Ar) (lo hi mx : Option Ar) : zc own g (⟨some d, .slc sz x lo hi mx, none⟩ :: l) s = bO (val s x) fun v => bO (zrm s v) fun n => bO (zfS s lo 0) fun i => bO (zfS s hi n) fun h => bO (zfS s mx h) fun m =>
  if i ≤ h ∧ h ≤ m ∧ m ≤ n then bO (znt s sz v i h) fun w => zc own g l { s with tm := setA s.tm d w } else none := by
 simp only [zc, z9, sem, zx]
 cases val s x with
 | none => rfl
 | some v =>
  cases v with
  | rf a off len =>
   simp only [bO, zrm, znt, rdA, M.run, St.get]
   cases look s.ar a with
   | none => rfl
   | some c =>
    cases c with
    | a fz xs =>
     simp only [zdD]
     cases zfS s lo 0 with
     | none => rfl
     | some i =>
      simp only [bO, zdD]
      cases zfS s hi len with
      | none => rfl
      | some h =>
       simp only [bO, zdD]
       cases zfS s mx h with
       | none => rfl
       | some m =>
        simp only [bO]
        by_cases hc : i ≤ h ∧ h ≤ m ∧ m ≤ len
        ·simp only [hc, and_self, if_true]
         cases hd : (decide (off + len ≤ xs.length) && allLen sz xs) with
         | true => rfl
         | false => rfl
        ·rw [if_neg hc, if_neg hc]; rfl
    | _ => rfl
  | ls o xs =>
   simp only [bO, zrm, zdD]
   cases zfS s lo 0 with
   | none => rfl
   | some i =>
    simp only [bO, zdD]
    cases zfS s hi xs.length with
    | none => rfl
    | some h =>
     simp only [bO, zdD]
     cases zfS s mx h with
     | none => rfl
     | some m =>
      simp only [bO]
      by_cases hc : i ≤ h ∧ h ≤ m ∧ m ≤ xs.length
      ·rw [if_pos hc, if_pos hc]
       cases o with
       | true =>
        cases xs with
        | nil => rfl
        | cons y ys =>
         simp only [znt]
         cases hd : allLen sz (y :: ys) with
         | true => rfl
         | false => rfl
       | false =>
        simp only [znt]
        cases hd : allLen sz xs with
        | true => simp [hd, chk, finR, M.run, bO, St.put]
        | false => simp [hd, chk, M.run, bO]
      ·rw [if_neg hc, if_neg hc]; rfl
  | _ => rfl
end Go.Pv
