/- Proof: what the evaluation is: values without memory, small steps, the run. No condition. -/
import Derived.WalkKit
import Derived.KernelRfl
set_option autoImplicit true
set_option relaxedAutoImplicit true
set_option linter.unusedSimpArgs false
set_option linter.unusedVariables false
namespace Go.Pv

/-- Values without memory: what a Go value says, its rows written out. 'ls true': handed over (in a call), or the empty row without memory; 'rf': a row of one's own, by name; 'bx': a variable in memory, by name. -/
inductive V where
  | sc (v : Value)
  | ls (own : Bool) (xs : List (List V))
  | rf (a off len : Nat)
  | ag (cs : List V)
  | tu (vs : List V)
  | bx (b off : Nat)
  | ep (a i off : Nat)
  | fp (xs : List (List V)) (i off : Nat)
  | fn (f : Nat) (caps : List V)
  | mp (b : Nat)

/-- how a row is handed on: to be read only; for good; to be turned, and back -/
inductive Mode where
  | shown
  | given
  | lent
deriving DecidableEq
def Mode.gives : Mode → Bool
  | .shown => false
  | _ => true
inductive Res where
  | t (n : Nat)
  | a (n : Nat)
  | b (n : Nat)
deriving DecidableEq

/-- a map: its entries, each with the number that it was born with, and the next such number -/
abbrev MapV := List ((V × V) × Nat) × Nat
inductive Cell where
  | v (x : V)
  | a (fz : Bool) (xs : List (List V))
  | dead
  | b (cs : List V)
  | m (es : MapV)
  | h (xs : List (List V))

def look {α : Type} : List (Nat × α) → Nat → Option α
  | [], _ => none
  | (k, v) :: l, n => if k = n then some v else look l n
def setA {α : Type} : List (Nat × α) → Nat → α → List (Nat × α)
  | [], n, x => [(n, x)]
  | (k, v) :: l, n, x => if k = n then (n, x) :: l else (k, v) :: setA l n x

structure St where
  np : Nat
  tm : List (Nat × V)
  ar : List (Nat × Cell)
  bx : List (Nat × Cell)

def St.get (s : St) : Res → Option Cell
  | .t n => (look s.tm n).map Cell.v
  | .a n => look s.ar n
  | .b n => look s.bx n
def St.put (s : St) (r : Res) (c : Cell) : St :=
  match r, c with
  | .t n, .v x => { s with tm := setA s.tm n x }
  | .t _, _ => s
  | .a n, c => { s with ar := setA s.ar n c }
  | .b n, c => { s with bx := setA s.bx n c }

inductive Exit' where
  | normal
  | exit (id : Nat)
  | ret
def Exit'.isN : Exit' → Bool
  | .normal => true
  | _ => false
def Exit'.isX : Exit' → Bool
  | .exit _ => true
  | _ => false
def Exit'.outOf (id : Nat) : Exit' → Exit'
  | .exit id' => if id' = id then .normal else .exit id'
  | e => e

/-! ### operations -/
inductive Ar where
  | t (n : Nat)
  | c (v : V)
  | no

inductive IOp where
  | mv (x : Ar)
  | pick (c a b : Ar)
  | bin (op : BinOp) (x y : Ar)
  | beq (neg : Bool) (x y : Ar)
  | un (op : UnOp) (x : Ar)
  | conv (k : IntKind) (x : Ar)
  | b2s (x : Ar)
  | alloc (zero : List V)
  | box (x : Ar)
  | load (n : Nat) (ag : Bool) (p : Ar)
  | take (n : Nat) (ag : Bool) (p : Ar)
  | hold (n : Nat) (ag : Bool) (p : Ar)
  | store (n : Nat) (p x : Ar)
  | sth (n : Nat) (p x : Ar)
  | fld (k : Nat) (p : Ar)
  | fget (off n : Nat) (ag : Bool) (x : Ar)
  | idx (s : Nat) (x i : Ar)
  | sidx (x i : Ar)
  | slc (s : Nat) (x : Ar) (lo hi mx : Option Ar)
  | sslc (x : Ar) (lo hi : Option Ar)
  | build (zero : List V) (parts : List (Nat × Nat × Ar))
  | bsl (zero : List V) (len : Nat) (parts : List (Nat × Ar))
  | mksl (zero : List V) (bytes : Nat) (len cap : Ar)
  | app (s bytes : Nat) (ptr : Bool) (x y : Ar)
  | apps (x y : Ar)
  | len (q : Nat) (x : Ar)
  | clear (zero : List V) (x : Ar)
  | copy (s : Nat) (x y : Ar)
  | mx (x y : Ar)
  | mn (x y : Ar)
  | ext (k : Nat) (x : Ar)
  | call (f : Nat) (args : List Ar)
  | callv (g : Ar) (args : List Ar)
  | mkfn (f : Nat) (caps : List Ar)
  | mkmap
  | mget (str : Bool) (zero : V) (ok : Bool) (m k : Ar)
  | mset (str : Bool) (m k x : Ar)
  | ment (str : Bool) (zero : V) (m k : Ar)
  | mst (m t x : Ar)
  | nilc (x : Ar)
  | bad

structure Opn where
  dst : Option Nat
  op : IOp
  guard : Option (Nat × Bool)

inductive IC where
  | skip
  | region (ops : List Opn) (conf : List (Nat × Nat))
  | seq (a b : IC)
  | cond (c : Ar) (x y : IC)
  | block (id : Nat) (body : IC)
  | loop (body : IC) (keep out : List Nat)
  | alt (ops ops' : List Opn) (z : IC) (keep : List Nat)
  | exit (id : Nat)
  | ret
  | refuse

/-- A piece of a run: reads and writes of what has a name, calls. -/
inductive M (α : Type) where
  | pure (x : α)
  | fail
  | rd (r : Res) (k : Option Cell → M α)
  | wr (r : Res) (c : Cell) (k : M α)
  | ask (f : Nat) (args : List V) (bxs : List Cell) (k : V → List Cell → M α)

abbrev Ora := Nat → List V → List Cell → Option (V × List Cell)

def M.run {α : Type} (g : Ora) : M α → St → Option (α × St)
  | .pure x, s => some (x, s)
  | .fail, _ => none
  | .rd r k, s => (k (s.get r)).run g s
  | .wr r c k, s => k.run g (s.put r c)
  | .ask f as bs k, s => match g f as bs with
    | some r => (k r.1 r.2).run g s
    | none => none

variable {α : Type}

def int (n : Int) : V := .sc (.int .i64 n)
def intK (k : IntKind) (n : Int) : V := .sc (.int k n)
def bool (b : Bool) : V := .sc (.bool b)
def str (s : ByteArray) : V := .sc (.string s)

/-! ### small words -/
def Ar.get (x : Ar) (k : V → M α) : M α :=
  match x with
  | .c v => k v
  | .t n => .rd (.t n) fun c => match c with | some (.v v) => k v | _ => .fail
  | .no => .fail
def getsA : List Ar → (List V → M α) → M α
  | [], k => k []
  | x :: xs, k => x.get fun v => getsA xs fun vs => k (v :: vs)
def asB (v : V) (k : Bool → M α) : M α := match v with | .sc (.bool b) => k b | _ => .fail
def asI (v : V) (k : Int → M α) : M α := match v with | .sc (.int _ n) => k n | _ => .fail
def asS (v : V) (k : ByteArray → M α) : M α := match v with | .sc (.string s) => k s | _ => .fail
def rdA (a : Nat) (k : Bool → List (List V) → M α) : M α := .rd (.a a) fun c => match c with | some (.a fz xs) => k fz xs | _ => .fail
/-- a row of one's own, even one out of which rows were taken -/
def rdX (a : Nat) (k : List (List V) → M α) : M α := .rd (.a a) fun c => match c with | some (.a _ xs) => k xs | some (.h xs) => k xs | _ => .fail
def chk (b : Bool) (k : M α) : M α := if b then k else .fail
def rdB (b : Nat) (k : List V → M α) : M α := .rd (.b b) fun c => match c with | some (.b cs) => k cs | _ => .fail
def rdM (b : Nat) (k : MapV → M α) : M α := .rd (.b b) fun c => match c with | some (.m es) => k es | _ => .fail
def newR (r : Res) (k : M α) : M α := .rd r fun c => match c with | none => k | _ => .fail

/-! ### rows -/
mutual
/-- all rows below are held as they are -/
def frz : V → V
  | .ls _ xs => .ls false (frzR xs)
  | v => v
def frzL : List V → List V
  | [] => []
  | v :: l => frz v :: frzL l
def frzR : List (List V) → List (List V)
  | [] => []
  | l :: r => frzL l :: frzR r
end
def allLen (s : Nat) (xs : List (List V)) : Bool := xs.all fun cs => cs.length == s
def flat1 (v : V) : Bool := match v with | .sc _ => true | _ => false
/-- no rows within -/
def flatR (xs : List (List V)) : Bool := xs.all fun cs => cs.all flat1
def sub (xs : List (List V)) (off len : Nat) : List (List V) := (xs.drop off).take len
/-- a part of a row -/
def rdS (a off len : Nat) (k : Bool → List (List V) → M α) : M α := rdA a fun fz xs => chk (decide (off + len ≤ xs.length)) (k fz (sub xs off len))
/-- a view of the whole row, or what is told -/
def wholeOr (a off len : Nat) (b : Bool) (k : M α) : M α := rdA a fun _ xs => chk (decide (off = 0 ∧ len = xs.length) || b) k
/-- may stand in a row -/
def clo1 (v : V) : Bool := match v with | .sc _ => true | .ls _ _ => true | _ => false
def cloR (xs : List (List V)) : Bool := xs.all fun cs => cs.all clo1
/-- a cell of a row, read -/
def ld1 (fz : Bool) (v : V) : Option V :=
  match v with
  | .sc x => some (.sc x)
  | .ls false xs => some (.ls false xs)
  | .ls true [] => some (.ls false [])
  | .ls true xs => if fz then some (.ls false (frzR xs)) else none
  | _ => none
def ldL (fz : Bool) : List V → Option (List V)
  | [] => some []
  | v :: l => match ld1 fz v, ldL fz l with | some x, some r => some (x :: r) | _, _ => none
def ldN (n : Nat) (ag : Bool) (fz : Bool) (cs : List V) (off : Nat) : Option V :=
  if ag then (if off + n ≤ cs.length then (ldL fz ((cs.drop off).take n)).map .ag else none)
  else match cs[off]? with | some v => ld1 fz v | none => none
def setAt {β : Type} : List β → Nat → List β → List β
  | [], _, _ => []
  | l, _, [] => l
  | _ :: l, 0, y :: ys => y :: setAt l 0 ys
  | x :: l, n + 1, ys => x :: setAt l n ys
def cellsOf (v : V) : List V := match v with | .ag cs => cs | v => [v]
def one1 (v : V) : Bool := match v with | .ag _ => false | .tu _ => false | _ => true
def optK (x : Option V) (k : V → M α) : M α := match x with | some v => k v | none => .fail

/-! ### what leads to what -/
mutual
def arsOf : V → List Nat
  | .rf a _ _ => [a]
  | .ag cs => arsOfL cs
  | .tu cs => arsOfL cs
  | .fn _ cs => arsOfL cs
  | .ep a _ _ => [a]
  | _ => []
def arsOfL : List V → List Nat
  | [] => []
  | v :: l => arsOf v ++ arsOfL l
end
mutual
def bxsOf : V → List Nat
  | .bx b _ => [b]
  | .mp b => [b]
  | .ag cs => bxsOfL cs
  | .tu cs => bxsOfL cs
  | .fn _ cs => bxsOfL cs
  | _ => []
def bxsOfL : List V → List Nat
  | [] => []
  | v :: l => bxsOf v ++ bxsOfL l
end
mutual
def renB (f : Nat → Nat) : V → V
  | .bx b o => .bx (f b) o
  | .mp b => .mp (f b)
  | .ag cs => .ag (renBL f cs)
  | .tu cs => .tu (renBL f cs)
  | .fn g cs => .fn g (renBL f cs)
  | v => v
def renBL (f : Nat → Nat) : List V → List V
  | [] => []
  | v :: l => renB f v :: renBL f l
end
mutual
/-- the rows of one's own come in: each gets a name -/
def imp : V → Nat → V × Nat × List (Nat × List (List V))
  | .ls true xs, n => (.rf n 0 xs.length, n + 1, [(n, xs)])
  | .ag cs, n => let r := impL cs n; (.ag r.1, r.2)
  | .tu cs, n => let r := impL cs n; (.tu r.1, r.2)
  | v, n => (v, n, [])
def impL : List V → Nat → List V × Nat × List (Nat × List (List V))
  | [], n => ([], n, [])
  | v :: l, n => let r := imp v n; let r' := impL l r.2.1; (r.1 :: r'.1, r'.2.1, r.2.2 ++ r'.2.2)
end
mutual
/-- is a row handed on that is not the receiver's own? -/
def hasFz : V → Bool
  | .ls false _ => true
  | .ls true xs => hasFzR xs
  | .ag cs => hasFzL cs
  | .tu cs => hasFzL cs
  | _ => false
def hasFzL : List V → Bool
  | [] => false
  | v :: l => hasFz v || hasFzL l
def hasFzR : List (List V) → Bool
  | [] => false
  | l :: r => hasFzL l || hasFzR r
end
def cap1 (v : V) : Bool := match v with | .sc _ => true | .bx _ _ => true | .mp _ => true | _ => false
mutual
/-- what goes out: rows written out; 'own': they are handed over. The second: the rows that were only shown. -/
def exp (own : Bool) : V → (V → List Nat → M α) → M α
  | .rf a off len, k => rdS a off len fun fz xs => if own && !fz then wholeOr a off len (decide (0 < len)) (.wr (.a a) .dead (k (.ls true xs) [])) else k (.ls false (frzR xs)) (if fz then [] else [a])
  | .ag cs, k => expL own cs fun r l => k (.ag r) l
  | .tu cs, k => expL own cs fun r l => k (.tu r) l
  | .ep .., _ => .fail
  | .fp .., _ => .fail
  | .fn f cs, k => chk (cs.all cap1) (k (.fn f cs) [])
  | v, k => k v []
def expL (own : Bool) : List V → (List V → List Nat → M α) → M α
  | [], k => k [] []
  | v :: l, k => exp own v fun r n => expL own l fun r' n' => k (r :: r') (n ++ n')
end
def expArgs (own : Nat → Mode) : Nat → List V → (List V → List Nat → M α) → M α
  | _, [], k => k [] []
  | i, v :: l, k => exp (own i).gives v fun r n => expArgs own (i + 1) l fun r' n' => k (r :: r') (n ++ n')
/-- all variables in memory that are reached, and what they hold -/
def coll : Nat → List Nat → List Nat → List Cell → (List Nat → List Cell → M α) → M α
  | 0, _, _, _, _ => .fail
  | _ + 1, [], done, cs, k => k done cs
  | n + 1, b :: todo, done, cs, k =>
    if done.contains b then coll n todo done cs k else
    .rd (.b b) fun c => match c with
      | some (.b vs) => expL true vs fun vs' _ => .wr (.b b) .dead (coll n (todo ++ bxsOfL vs') (done ++ [b]) (cs ++ [.b vs']) k)
      | some (.m es) => .wr (.b b) .dead (coll n todo (done ++ [b]) (cs ++ [.m es]) k)
      | _ => .fail
def idxOf : List Nat → Nat → Nat
  | [], _ => 0
  | y :: r, x => if y = x then 0 else idxOf r x + 1
def renC (f : Nat → Nat) : Cell → Cell
  | .b cs => .b (renBL f cs)
  | c => c
def wrAs : List (Nat × List (List V)) → M α → M α
  | [], k => k
  | (n, xs) :: l, k => newR (.a n) (.wr (.a n) (.a false xs) (wrAs l k))
/-- the variables in memory get back what they hold now -/
def back : List Nat → List Cell → Nat → M α → M α
  | [], [], _, k => k
  | b :: bs, .b vs :: cs, n, k => let r := impL vs n; wrAs r.2.2 (.wr (.b b) (.b r.1) (back bs cs r.2.1 k))
  | b :: bs, .m es :: cs, n, k => .wr (.b b) (.m es) (back bs cs n k)
  | _, _, _, _ => .fail
def newBs : List Nat → M α → M α
  | [], k => k
  | b :: l, k => newR (.b b) (.wr (.b b) .dead (newBs l k))
/-- rows that are there still -/
def seeA : List Nat → M α → M α
  | [], k => k
  | a :: l, k => rdA a fun _ _ => seeA l k
def freezeA : List Nat → M α → M α
  | [], k => k
  | a :: l, k => rdA a fun _ xs => .wr (.a a) (.a true xs) (freezeA l k)
def hasFzC : List Cell → Bool
  | [] => false
  | .b vs :: l => hasFzL vs || hasFzC l
  | _ :: l => hasFzC l
def lentOf (own : Nat → Mode) (n : Nat) : List Nat := (List.range n).filter fun i => decide (own i = .lent)
/-- what is lent is one's own, and whole -/
def preL : List V → M α → M α
  | [], k => k
  | v :: l, k => match v with
    | .rf a off len => rdA a fun fz xs => chk (!fz && decide (off = 0 ∧ len = xs.length)) (preL l k)
    | .ls true [] => preL l k
    | .sc _ => preL l k
    | _ => .fail
def sameL (xs ys : List (List V)) : Bool := xs.all fun y => allLen y.length ys
/-- what was lent is back under its name -/
def revive : List ((V × V) × V) → M α → M α
  | [], k => k
  | p :: l, k => match p.1.1, p.1.2, p.2 with
    | .rf a _ _, .ls true xs0, .rf d off n => rdA d fun fz xs => chk (!fz && decide (off = 0 ∧ n = xs.length ∧ xs.length = xs0.length) && sameL xs0 xs) (.wr (.a d) .dead (.wr (.a a) (.a false xs) (revive l k)))
    | .ls true [], _, _ => revive l k
    | .sc _, _, _ => revive l k
    | _, _, _ => .fail
/-- cell by cell -/
def split3 (p : (V × V) × V) : List ((V × V) × V) := ((cellsOf p.1.1).zip (cellsOf p.1.2)).zip (cellsOf p.2)
def unpack (n : Nat) (v : V) : List V := if n = 0 then [v] else match v with | .tu vs => vs | v => [v]
/-- a call: 'd': the names of what is new begin there -/
def callM (own : Nat → Nat → Mode) (d : Nat) (f : Nat) (args : List V) (k : V → M α) : M α :=
  let L := lentOf (own f) args.length
  preL ((L.map fun i => args.getD i (.tu [])).flatMap cellsOf) <|
  expArgs (own f) 0 args fun as shown =>
  coll 20 (bxsOfL as) [] [] fun bs cs => seeA shown <|
  .ask f (renBL (idxOf bs) as) (cs.map (renC (idxOf bs))) fun v cs' =>
  let news := (List.range (cs'.length - bs.length)).map fun j => d + j
  let all := bs ++ news
  let nm := fun i => all.getD i 0
  let r := impL (renBL nm (unpack L.length v)) d
  freezeA (if hasFz v || hasFzC cs' then shown else []) (newBs news (wrAs r.2.2 (back all (cs'.map (renC nm)) r.2.1 (revive (((L.map fun i => (args.getD i (.tu []), as.getD i (.tu []))).zip (r.1.drop 1)).flatMap split3) (k (r.1.getD 0 (.tu [])))))))

/-! ### arithmetic -/
def binI (op : BinOp) (a : IntKind) (n m : Int) : Option V :=
  match op with
  | .add => some (intK a (a.wrap (n + m)))
  | .sub => some (intK a (a.wrap (n - m)))
  | .mul => some (intK a (a.wrap (n * m)))
  | .quo => if m = 0 then none else some (intK a (a.wrap (n.tdiv m)))
  | .rem => if m = 0 then none else some (intK a (n.tmod m))
  | .eql => some (bool (decide (n = m)))
  | .neq => some (bool !(decide (n = m)))
  | .lss => some (bool (decide (n < m)))
  | .leq => some (bool (decide (n ≤ m)))
  | .gtr => some (bool (decide (m < n)))
  | .geq => some (bool (decide (m ≤ n)))
  | _ => none
/-- bits: only with a constant on the right -/
def binB (op : BinOp) (a : IntKind) (n m : Int) : Option V :=
  match op, a with
  | .and, .i64 => if m = 7 then some (int (n % 8)) else if m = 255 then some (int (n % 256)) else if m = 4294967295 then some (int (n % 4294967296)) else if m = 1073741823 then some (int (n % 1073741824)) else none
  | _, _ => none
def eqCells : List V → List V → Option Bool
  | [], [] => some true
  | .sc (.int a n) :: xs, .sc (.int b m) :: ys => if a = b then (eqCells xs ys).map fun r => decide (n = m) && r else none
  | .sc (.string x) :: xs, .sc (.string y) :: ys => (eqCells xs ys).map fun r => (x == y) && r
  | .sc (.bool x) :: xs, .sc (.bool y) :: ys => (eqCells xs ys).map fun r => (x == y) && r
  | _, _ => none
def binV (op : BinOp) (x y : V) : Option V :=
  match x, y with
  | .sc (.int a n), .sc (.int b m) => match op with
    | .shl => if 0 ≤ m ∧ m < 32 ∧ a = .i64 then some (int (IntKind.i64.wrap (n * 2 ^ m.toNat))) else none
    | .shr => if 0 ≤ m ∧ m < 64 ∧ (a = .i64 ∨ a = .u64) then some (intK a (n / 2 ^ m.toNat)) else none
    | .xor => if a = .i64 ∧ b = .i64 then some (int (IntKind.i64.wrap ((BitVec.ofInt 64 n ^^^ BitVec.ofInt 64 m).toNat : Int))) else none
    | .and => if a = b then binB .and a n m else none
    | op => if a = b then binI op a n m else none
  | .sc (.string a), .sc (.string b) => match op with
    | .add => if a.size + b.size ≤ 9223372036854775807 then some (str (a ++ b)) else none
    | .eql => some (bool (decide (a = b)))
    | .neq => some (bool !(decide (a = b)))
    | _ => none
  | _, _ => none
def eqKey : V → V → Option Bool
  | .sc (.int a n), .sc (.int b m) => if a = b then some (decide (n = m)) else none
  | .sc (.string x), .sc (.string y) => some (decide (x = y))
  | .sc (.bool x), .sc (.bool y) => some (x == y)
  | _, _ => none
def mfind (k : V) : List ((V × V) × Nat) → Option (Option (V × Nat))
  | [] => some none
  | e :: l => match eqKey k e.1.1 with | some true => some (some (e.1.2, e.2)) | some false => mfind k l | none => none
def keyOk (str : Bool) (v : V) : Bool := match v with | .sc (.int _ _) => !str | .sc (.string _) => str | _ => false
/-- the entry of a key that is there -/
def mput (k v : V) : List ((V × V) × Nat) → List ((V × V) × Nat)
  | [] => []
  | e :: l => match eqKey k e.1.1 with | some true => ((k, v), e.2) :: l | _ => e :: mput k v l
/-- the entry that was born so -/
def mborn (n : Int) (v : V) : List ((V × V) × Nat) → Option (List ((V × V) × Nat))
  | [] => none
  | e :: l => if (e.2 : Int) = n then some (((e.1.1, v), e.2) :: l) else (mborn n v l).map (e :: ·)

def maxB : Nat := 140737488351232
def lim (n bytes : Nat) : Bool := decide (n * bytes ≤ maxB)
def fillP : List V → List (Nat × Nat × V) → Option (List V)
  | z, [] => some z
  | z, (off, n, v) :: l => if (cellsOf v).length = n ∧ off + n ≤ z.length then fillP (setAt z off (cellsOf v)) l else none
def bytesR : List (List V) → Option (List UInt8)
  | [] => some []
  | [.sc (.int .u8 n)] :: l => (bytesR l).map fun r => UInt8.ofNat n.toNat :: r
  | _ => none
def natOf (v : V) (k : Nat → M α) : M α := asI v fun n => if 0 ≤ n then k n.toNat else .fail
def optN (x : Option Ar) (d : Nat) (k : Nat → M α) : M α := match x with | none => k d | some a => a.get fun v => natOf v k
/-- the elements that are copied out of a row -/
def rowY (ptr : Bool) (v : V) (k : List (List V) → M α) : M α :=
  match v with
  | .ls _ xs => k (frzR xs)
  | .rf a off len => rdS a off len fun fz xs => if fz then k (frzR xs) else if ptr then .wr (.a a) .dead (k xs) else chk (flatR xs) (k xs)
  | _ => .fail
/-- a row that is appended to -/
def rowX (s : Nat) (ne : Bool) (v : V) (k : List (List V) → M α) : M α :=
  match v with
  | .ls true [] => k []
  | .rf a off len => rdA a fun fz xs => if fz then .fail else chk (decide (off + len ≤ xs.length) && allLen s xs && (decide (off = 0 ∧ len = xs.length) || (ne || decide (0 < len)))) (.wr (.a a) .dead (k (sub xs off len)))
  | _ => .fail
def cloL (vs : List V) (k : List V → M α) : M α := expL true vs fun vs' _ => chk (vs'.all clo1) (k vs')
def cloLs : List (List V) → (List (List V) → M α) → M α
  | [], k => k []
  | vs :: l, k => cloL vs fun vs' => cloLs l fun l' => k (vs' :: l')
def setEls : List (List V) → List (Nat × List V) → List (List V)
  | z, [] => z
  | z, (i, v) :: l => setEls (z.set i v) l

/-- may be taken out of a row, or left as a name in it -/
def tk1 (v : V) : Bool := match v with | .sc _ => true | .ls _ _ => true | .rf _ _ _ => true | _ => false
/-- a part of a row's element is read; the rows in it get names, and the row holds these names from then on -/
def takeM (n : Nat) (ag : Bool) (a : Nat) (xs : List (List V)) (i off d : Nat) (k : V → M α) : M α :=
  match xs[i]? with
  | some cs =>
    let m := if ag then n else 1
    let p := (cs.drop off).take m
    chk (decide (off + m ≤ cs.length ∧ 0 < m) && p.all tk1 && allLen cs.length xs)
      (.wr (.a a) .dead (wrAs (impL p d).2.2 (.wr (.a a) (.h (xs.set i (setAt cs off (impL p d).1))) (k (if ag then .ag (impL p d).1 else (impL p d).1.getD 0 (.tu []))))))
  | none => .fail
/-- what was taken out of a row is put back -/
def fillC : List V → (List V → M α) → M α
  | [], k => k []
  | v :: l, k => match v with
    | .rf m off len => rdA m fun fz ys => chk (decide (off = 0 ∧ len = ys.length) && !fz) (.wr (.a m) .dead (fillC l fun l' => k (.ls true ys :: l')))
    | v => fillC l fun l' => k (v :: l')
def fillX : List (List V) → (List (List V) → M α) → M α
  | [], k => k []
  | cs :: l, k => fillC cs fun cs' => fillX l fun l' => k (cs' :: l')
def isRf (v : V) : Bool := match v with | .rf _ _ _ => true | _ => false
def rfsX : List (List V) → List Nat
  | [] => []
  | cs :: l => (cs.filterMap fun v => match v with | .rf m _ _ => some m | _ => none) ++ rfsX l
/-- rows get back what was taken out of them, those within first -/
def fillA : Nat → List Nat → M α → M α
  | 0, _, k => k
  | _ + 1, [], k => k
  | n + 1, a :: l, k => .rd (.a a) fun c => match c with
    | some (.h xs) => fillA n (rfsX xs) (.rd (.a a) fun c => match c with
      | some (.h xs) => .wr (.a a) .dead (fillX xs fun xs' => .wr (.a a) (.a false xs') (fillA n l k))
      | _ => .fail)
    | _ => fillA n l k
/-- ... and those of all variables in memory that are reached -/
def fillB : Nat → List Nat → List Nat → M α → M α
  | 0, _, _, k => k
  | _ + 1, [], _, k => k
  | n + 1, b :: todo, done, k => if done.contains b then fillB n todo done k else
    .rd (.b b) fun c => match c with
      | some (.b vs) => fillA 40 (arsOfL vs) (fillB n (todo ++ bxsOfL vs) (done ++ [b]) k)
      | _ => fillB n todo (done ++ [b]) k
def fillV (vs : List V) (k : M α) : M α := fillA 40 (arsOfL vs) (fillB 20 (bxsOfL vs) [] k)

def sem (own : Nat → Nat → Mode) (dst : Nat) (op : IOp) (k : V → M α) : M α :=
  let d := 1000 * (dst + 1)
  match op with
  | .mv x => x.get k
  | .pick c a b => c.get fun v => asB v fun t => if t then a.get k else b.get k
  | .bin op x y => x.get fun a => y.get fun b => optK (binV op a b) k
  | .beq neg x y => x.get fun a => y.get fun b => asB a fun p => asB b fun q => k (bool (if neg then !(p == q) else p == q))
  | .un .not x => x.get fun v => asB v fun b => k (bool !b)
  | .un .neg x => x.get fun v => match v with | .sc (.int a n) => k (intK a (a.wrap (0 - n))) | _ => .fail
  | .conv c x => x.get fun v => asI v fun n => k (intK c (c.wrap n))
  | .b2s x => x.get fun v => match v with
    | .ls _ xs => match bytesR xs with | some l => k (str ⟨l.toArray⟩) | none => .fail
    | .rf a off len => rdS a off len fun _ xs => match bytesR xs with | some l => k (str ⟨l.toArray⟩) | none => .fail
    | _ => .fail
  | .alloc zs => newR (.b d) (.wr (.b d) (.b zs) (k (.bx d 0)))
  | .box x => x.get fun v => newR (.b d) (.wr (.b d) (.b (cellsOf v)) (k (.bx d 0)))
  | .load n ag p => p.get fun v => match v with
    | .bx b off => rdB b fun cs => if ag then (if off + n ≤ cs.length then k (.ag ((cs.drop off).take n)) else .fail) else optK cs[off]? k
    | .ep a i off => rdA a fun fz xs => match xs[i]? with
      | some cs => optK (ldN n ag fz cs off) k
      | none => .fail
    | .fp xs i off => match xs[i]? with
      | some cs => optK (ldN n ag true cs off) k
      | none => .fail
    | _ => .fail
  | .hold n ag p => p.get fun v => match v with
    | .bx b off => rdB b fun cs => if ag then (if off + n ≤ cs.length then (fun V => freezeA (arsOf V) (k V)) (.ag ((cs.drop off).take n)) else .fail) else optK cs[off]? (fun V => freezeA (arsOf V) (k V))
    | .ep a i off => rdA a fun fz xs => match xs[i]? with
      | some cs => optK (ldN n ag fz cs off) (fun V => freezeA (arsOf V) (k V))
      | none => .fail
    | .fp xs i off => match xs[i]? with
      | some cs => optK (ldN n ag true cs off) (fun V => freezeA (arsOf V) (k V))
      | none => .fail
    | _ => .fail
  | .take n ag p => p.get fun v => match v with
    | .ep a i off => .rd (.a a) fun c => match c with
      | some (.a fz xs) => if fz then (match xs[i]? with | some cs => optK (ldN n ag true cs off) k | none => .fail) else takeM n ag a xs i off d k
      | some (.h xs) => takeM n ag a xs i off d k
      | _ => .fail
    | .bx b off => rdB b fun cs => if ag then (if off + n ≤ cs.length then k (.ag ((cs.drop off).take n)) else .fail) else optK cs[off]? k
    | .fp xs i off => match xs[i]? with
      | some cs => optK (ldN n ag true cs off) k
      | none => .fail
    | _ => .fail
  | .store n p x => p.get fun v => x.get fun w => chk (decide ((cellsOf w).length = n) && (cellsOf w).all one1) (match v with
    | .bx b off => rdB b fun cs => if off + n ≤ cs.length then .wr (.b b) (.b (setAt cs off (cellsOf w))) (k (.tu [])) else .fail
    | .ep a i off => cloL (cellsOf w) fun ws => .rd (.a a) fun c => match c with
      | some (.a fz xs) => if fz then .fail else (match xs[i]? with
        | some cs => if off + n ≤ cs.length then .wr (.a a) (.a false (xs.set i (setAt cs off ws))) (k (.tu [])) else .fail
        | none => .fail)
      | some (.h xs) => (match xs[i]? with
        | some cs => if off + n ≤ cs.length then .wr (.a a) (.h (xs.set i (setAt cs off ws))) (k (.tu [])) else .fail
        | none => .fail)
      | _ => .fail
    | _ => .fail)
  | .sth n p x => p.get fun v => x.get fun w => chk (decide (n = 1) && isRf w && one1 w) (match v with
    | .ep a i off => .rd (.a a) fun c => match c with
      | some (.h xs) => (match xs[i]? with
        | some cs => if off + 1 ≤ cs.length then .wr (.a a) (.h (xs.set i (setAt cs off [w]))) (k (.tu [])) else .fail
        | none => .fail)
      | _ => .fail
    | _ => .fail)
  | .fld j p => p.get fun v => match v with
    | .bx b off => k (.bx b (off + j))
    | .ep a i off => k (.ep a i (off + j))
    | .fp xs i off => k (.fp xs i (off + j))
    | _ => .fail
  | .fget off n ag x => x.get fun v => match v with
    | .ag cs => if ag then (if off + n ≤ cs.length then k (.ag ((cs.drop off).take n)) else .fail) else optK cs[off]? k
    | _ => .fail
  | .idx s x i => x.get fun v => i.get fun w => asI w fun n => match v with
    | .rf a off len => rdX a fun xs => if 0 ≤ n ∧ n < len then chk (decide (off + len ≤ xs.length) && allLen s xs) (k (.ep a (off + n.toNat) 0)) else .fail
    | .ls _ xs => if 0 ≤ n ∧ n < xs.length then chk (allLen s xs) (k (.fp xs n.toNat 0)) else .fail
    | _ => .fail
  | .sidx x i => x.get fun v => i.get fun w => asS v fun s => asI w fun n => if 0 ≤ n then (match s[n.toNat]? with | some b => k (intK .u8 b.toNat) | none => .fail) else .fail
  | .slc s x lo hi mx => x.get fun v => match v with
    | .rf a off len => rdA a fun _ xs => optN lo 0 fun l => optN hi len fun h => optN mx h fun m => if l ≤ h ∧ h ≤ m ∧ m ≤ len then chk (decide (off + len ≤ xs.length) && allLen s xs) (k (.rf a (off + l) (h - l))) else .fail
    | .ls o xs => optN lo 0 fun l => optN hi xs.length fun h => optN mx h fun m => if l ≤ h ∧ h ≤ m ∧ m ≤ xs.length then (match o, xs with | true, [] => k (.ls true []) | _, _ => chk (allLen s xs) (k (.ls false (sub xs l (h - l))))) else .fail
    | _ => .fail
  | .sslc x lo hi => x.get fun v => asS v fun s => optN lo 0 fun l => optN hi s.size fun h => if l ≤ h ∧ h ≤ s.size then k (str (s.extract l h)) else .fail
  | .build zs ps => getsA (ps.map (·.2.2)) fun vs => optK ((fillP zs ((ps.zip vs).map fun p => (p.1.1, p.1.2.1, p.2))).map .ag) k
  | .bsl zs n ps => getsA (ps.map (·.2)) fun vs => if n = 0 then k (.ls true []) else
      cloLs (vs.map cellsOf) fun ws =>
      chk (ws.all (fun c => c.length == zs.length) && decide (n ≤ 1000) && ps.all (fun p => decide (p.1 < n)) && zs.all clo1)
      (newR (.a d) (.wr (.a d) (.a false (setEls (List.replicate n zs) ((ps.map (·.1)).zip ws))) (k (.rf d 0 n))))
  | .mksl zs bytes x y => x.get fun v => y.get fun w => natOf v fun l => natOf w fun c => if l ≤ c ∧ lim c bytes = true ∧ zs.all clo1 = true ∧ (l = 0 → c = 0) then
      newR (.a d) (.wr (.a d) (.a false (List.replicate l zs)) (k (.rf d 0 l))) else .fail
  | .app s bytes ptr x y => x.get fun v => y.get fun w => rowY ptr w fun ys => rowX s (!ys.isEmpty) v fun xs =>
      chk (lim (xs.length + ys.length) bytes) (chk (allLen s ys) (newR (.a d) (.wr (.a d) (.a false (xs ++ ys)) (k (.rf d 0 (xs.length + ys.length))))))
  | .apps x y => x.get fun v => y.get fun w => asS w fun t => rowX 1 (decide (0 < t.size)) v fun xs =>
      chk (lim (xs.length + t.size) 1) (newR (.a d) (.wr (.a d) (.a false (xs ++ t.data.toList.map fun b => [intK .u8 b.toNat])) (k (.rf d 0 (xs.length + t.size)))))
  | .len q x => x.get fun v => match q, v with
    | 0, .rf _ _ len => k (int len)
    | 0, .ls _ xs => k (int xs.length)
    | 1, .sc (.string s) => k (int s.size)
    | 2, .mp b => rdM b fun es => k (int es.1.length)
    | _, _ => .fail
  | .clear zs x => x.get fun v => match v with
    | .rf a off len => rdA a fun fz xs => if fz then .fail else if off + len ≤ xs.length then chk (allLen zs.length xs && zs.all clo1) (.wr (.a a) (.a false (xs.take off ++ List.replicate len zs ++ xs.drop (off + len))) (k (.tu []))) else .fail
    | .ls true [] => k (.tu [])
    | _ => .fail
  | .copy s x y => x.get fun v => y.get fun w => rowY false w fun ys => match v with
    | .rf a off len => rdA a fun fz xs => if fz then .fail else if off + len ≤ xs.length then
        chk (allLen s xs && allLen s ys) (let n := min ys.length len; .wr (.a a) (.a false (xs.take off ++ ys.take n ++ xs.drop (off + n))) (k (int n))) else .fail
    | _ => .fail
  | .mx x y => x.get fun v => y.get fun w => match v, w with | .sc (.int a n), .sc (.int _ m) => k (intK a (if m > n then m else n)) | _, _ => .fail
  | .mn x y => x.get fun v => y.get fun w => match v, w with | .sc (.int a n), .sc (.int _ m) => k (intK a (if m < n then m else n)) | _, _ => .fail
  | .ext j x => x.get fun v => match v with | .tu vs => optK vs[j]? k | _ => .fail
  | .call f as => getsA as fun vs => fillV vs (callM own d f vs k)
  | .callv g as => g.get fun v => getsA as fun vs => match v with | .fn f caps => fillV (vs ++ caps) (callM own d f (vs ++ caps) k) | _ => .fail
  | .mkfn f cs => getsA cs fun vs => k (.fn f vs)
  | .mkmap => newR (.b d) (.wr (.b d) (.m ([], 0)) (k (.mp d)))
  | .mget str z ok m key => m.get fun v => key.get fun w => match v with
    | .mp b => rdM b fun es => chk (keyOk str w) (match mfind w es.1 with
      | some (some r) => k (if ok then .tu [r.1, bool true] else r.1)
      | some none => k (if ok then .tu [z, bool false] else z)
      | none => .fail)
    | _ => .fail
  | .mset str m key x => m.get fun v => key.get fun w => x.get fun y => match v with
    | .mp b => rdM b fun es => chk (keyOk str w && flat1 y) (match mfind w es.1 with
      | some (some _) => .wr (.b b) (.m (mput w y es.1, es.2)) (k (.tu []))
      | some none => .wr (.b b) (.m (es.1 ++ [((w, y), es.2)], es.2 + 1)) (k (.tu []))
      | none => .fail)
    | _ => .fail
  | .ment str z m key => m.get fun v => key.get fun w => match v with
    | .mp b => rdM b fun es => chk (keyOk str w && flat1 z) (match mfind w es.1 with
      | some (some r) => .wr (.b b) (.m (mput w r.1 es.1, es.2)) (k (.tu [r.1, int r.2]))
      | some none => .wr (.b b) (.m (es.1 ++ [((w, z), es.2)], es.2 + 1)) (k (.tu [z, int es.2]))
      | none => .fail)
    | _ => .fail
  | .mst m t x => m.get fun v => t.get fun w => x.get fun y => match v with
    | .mp b => rdM b fun es => asI w fun n => chk (flat1 y) (match mborn n y es.1 with
      | some l => .wr (.b b) (.m (l, es.2)) (k (.tu []))
      | none => .fail)
    | _ => .fail
  | .nilc x => x.get fun v => match v with | .bx _ _ => k v | .ep _ _ _ => k v | .fp _ _ _ => k v | .fn _ _ => k v | _ => .fail
  | _ => .fail

def finR (dst : Option Nat) (v : V) : M Unit := match dst with | some t => .wr (.t t) (.v v) (.pure ()) | none => .pure ()
def stepM (own : Nat → Nat → Mode) (o : Opn) : M Unit :=
  match o.guard with
  | none => sem own (o.dst.getD 999999) o.op (finR o.dst)
  | some (g, want) => .rd (.t g) fun c => match c with
    | some (.v (.sc (.bool b))) => if b = want then sem own (o.dst.getD 999999) o.op (finR o.dst) else finR o.dst (.tu [])
    | some (.v (.tu [])) => finR o.dst (.tu [])
    | _ => .fail

def bO {β : Type} (x : Option α) (f : α → Option β) : Option β := match x with | some a => f a | none => none
/-! ### the loop's head: names anew -/
mutual
def renA (f : Nat → Nat) : V → V
  | .rf a o n => .rf (f a) o n
  | .ep a i o => .ep (f a) i o
  | .ag cs => .ag (renAL f cs)
  | .tu cs => .tu (renAL f cs)
  | .fn g cs => .fn g (renAL f cs)
  | v => v
def renAL (f : Nat → Nat) : List V → List V
  | [] => []
  | v :: l => renA f v :: renAL f l
end
def dedup : List Nat → List Nat → List Nat
  | done, [] => done
  | done, x :: l => if done.contains x then dedup done l else dedup (done ++ [x]) l
def cellsIn (s : St) (b : Nat) : List V := match look s.bx b with | some (.b cs) => cs | _ => []
def closeB (s : St) : Nat → List Nat → List Nat → List Nat
  | 0, done, _ => done
  | _ + 1, done, [] => done
  | n + 1, done, b :: l => if done.contains b then closeB s n done l else closeB s n (done ++ [b]) (l ++ bxsOfL (cellsIn s b))
def keepT (s : St) : List Nat → List (Nat × V)
  | [] => []
  | t :: l => match look s.tm t with | some v => (t, v) :: keepT s l | none => keepT s l
def subset (l m : List Nat) : Bool := l.all fun x => m.contains x
def renAB (fa fb : Nat → Nat) : Cell → Cell
  | .b cs => .b (renAL fa (renBL fb cs))
  | c => c
mutual
/-- empty rows without memory get names -/
def nn : V → Nat → V × Nat
  | .ls true [], n => (.rf n 0 0, n + 1)
  | .ag cs, n => let r := nnL cs n; (.ag r.1, r.2)
  | .tu cs, n => let r := nnL cs n; (.tu r.1, r.2)
  | v, n => (v, n)
def nnL : List V → Nat → List V × Nat
  | [], n => ([], n)
  | v :: l, n => let r := nn v n; let r' := nnL l r.2; (r.1 :: r'.1, r'.2)
end
def nnT : List (Nat × V) → Nat → List (Nat × V) × Nat
  | [], n => ([], n)
  | (t, v) :: l, n => let r := nn v n; let r' := nnT l r.2; ((t, r.1) :: r'.1, r'.2)
def nnB : List (Nat × Cell) → Nat → List (Nat × Cell) × Nat
  | [], n => ([], n)
  | (b, .b cs) :: l, n => let r := nnL cs n; let r' := nnB l r.2; ((b, .b r.1) :: r'.1, r'.2)
  | (b, c) :: l, n => let r' := nnB l n; ((b, c) :: r'.1, r'.2)
def topA : List (Nat × Cell) → Nat
  | [] => 0
  | (k, _) :: l => max (k + 1) (topA l)
def newE : Nat → Nat → List (Nat × Cell)
  | _, 0 => []
  | n, m + 1 => (n, .a false []) :: newE (n + 1) m
/-- .. of all variables -/
def nameE (s : St) : St :=
  let n0 := topA s.ar
  let r := nnT s.tm n0
  let r' := nnB s.bx r.2
  { s with tm := r.1, bx := r'.1, ar := s.ar ++ newE n0 (r'.2 - n0) }
def okA (c : Option Cell) : Bool := match c with | some (.h _) => false | some _ => true | none => false
def norm0 (keep : List Nat) (s : St) : Option St :=
  let ts := keepT s keep
  let vs := ts.map (·.2)
  let bs := closeB s 40 [] (List.range s.np ++ bxsOfL vs)
  let as := dedup [] (arsOfL vs ++ bs.flatMap fun b => arsOfL (cellsIn s b))
  let fa := idxOf as
  let fb := idxOf bs
  if (List.range s.np).all (fun i => fb i == i) && bs.all (fun b => (look s.bx b).isSome) && as.all (fun a => okA (look s.ar a)) && subset (bs.flatMap fun b => bxsOfL (cellsIn s b)) bs && subset (bxsOfL vs) bs && subset (List.range s.np) bs then
    some { np := s.np
           tm := ts.map fun p => (p.1, renA fa (renB fb p.2))
           ar := as.filterMap fun a => (look s.ar a).map fun c => (fa a, c)
           bx := bs.filterMap fun b => (look s.bx b).map fun c => (fb b, renAB fa fb c) }
  else none
def noOra : Ora := fun _ _ _ => none
/-- what is kept of the variables, rows filled, empty rows named -/
def norm (keep : List Nat) (s : St) : Option St :=
  bO ((fillV (keepT s keep |>.map (·.2)) (fillB 20 (List.range s.np) [] (.pure ()))).run noOra s) fun r =>
  norm0 keep (nameE { r.2 with tm := keepT r.2 keep })

/-! ### code -/
inductive Task where
  | call (f : Nat) (args : List V) (bxs : List Cell)
  | loop (c : IC) (keep out : List Nat) (s : St)
inductive Ans where
  | val (v : V) (bxs : List Cell)
  | out (e : Exit') (s : St)

def callOf (ev : Task → Option Ans) : Ora := fun f as bs => match ev (.call f as bs) with
  | some (.val v bs') => some (v, bs')
  | _ => none
def loopOf (ev : Task → Option Ans) (c : IC) (keep out : List Nat) (s : St) : Option (Exit' × St) := match ev (.loop c keep out s) with
  | some (.out e s') => some (e, s')
  | _ => none

def runOps (own : Nat → Nat → Mode) (g : Ora) : List Opn → St → Option St
  | [], s => some s
  | o :: l, s => bO ((stepM own o).run g s) fun r => runOps own g l r.2

/-! what the operations of a region touch, in the text's order -/
def M.foot (g : Ora) : M α → St → List (Res × Bool)
  | .pure _, _ => []
  | .fail, _ => []
  | .rd r k, s => (r, false) :: (k (s.get r)).foot g s
  | .wr r c k, s => (r, true) :: k.foot g (s.put r c)
  | .ask f as bs k, s => match g f as bs with
    | some r => (k r.1 r.2).foot g s
    | none => []
def onlyAB (l : List (Res × Bool)) : List (Res × Bool) := l.filter fun p => match p.1 with | .t _ => false | _ => true
noncomputable def sameR (s s' : St) (r : Res) : Bool := @decide (s.get r = s'.get r) (Classical.propDecidable _)
/-- what is written and is as it was, counts as read -/
noncomputable def effF (l : List (Res × Bool)) (s s' : St) : List (Res × Bool) := l.map fun p => (p.1, p.2 && !sameR s s' p.1)
noncomputable def feet (own : Nat → Nat → Mode) (g : Ora) : List Opn → St → List (List (Res × Bool))
  | [], _ => []
  | o :: l, s => match (stepM own o).run g s with | some r => effF ((stepM own o).foot g s) s r.2 :: feet own g l r.2 | none => []
def clash (x y : List (Res × Bool)) : Bool := x.any fun p => y.any fun q => decide (p.1 = q.1) && (p.2 || q.2)

def condO (c : Ar) (s : St) : Option Bool :=
  match c with
  | .t n => match look s.tm n with
    | some (.sc (.bool b)) => some b
    | _ => none
  | .c (.sc (.bool b)) => some b
  | _ => none
noncomputable def sameA (x y : Exit' × St) : Bool := @decide (x = y) (Classical.propDecidable _)
noncomputable def exec (own : Nat → Nat → Mode) (ev : Task → Option Ans) : IC → St → Option (Exit' × St)
  | .skip, s => some (.normal, s)
  | .region ops conf, s => bO (runOps own (callOf ev) ops s) fun s' =>
      if conf.isEmpty || (let f := feet own (callOf ev) ops s; conf.all fun p => !clash (f.getD p.1 []) (f.getD p.2 [])) then some (.normal, s') else none
  | .seq a b, s => bO (exec own ev a s) fun r => if r.1.isN then exec own ev b r.2 else some r
  | .cond c x y, s => bO (condO c s) fun b => if b then exec own ev x s else exec own ev y s
  | .block id c, s => bO (exec own ev c s) fun r => some (r.1.outOf id, r.2)
  | .loop c keep out, s => bO (norm keep s) fun s' => loopOf ev c keep out s'
  | .alt o1 o2 z keep, s => bO (runOps own (callOf ev) o1 s) fun s1 => bO (runOps own (callOf ev) o2 s) fun s2 => bO (exec own ev z s1) fun r1 => bO (exec own ev z s2) fun r2 =>
      bO (norm keep r1.2) fun n1 => bO (norm keep r2.2) fun n2 => if sameA (r1.1, n1) (r2.1, n2) then some (r1.1, n1) else none
  | .exit id, s => some (.exit id, s)
  | .ret, s => some (.ret, s)
  | .refuse, _ => none

/-- a result: out of a variable, or out of memory -/
inductive RI where
  | t (n : Nat)
  | c (n sz : Nat) (ag : Bool)
def RI.tmp : RI → Nat
  | .t n => n
  | .c n _ _ => n
structure IFun where
  body : IC
  res : List RI
  lent : List Nat
  tk : List Nat

structure Env where
  fn : Nat → Option IFun
  own : Nat → Nat → Mode
  lib : Nat → List V → List Cell → Option (V × List Cell)

def putAll : Nat → List V → M Unit
  | _, [] => .pure ()
  | n, v :: l => .wr (.t n) (.v v) (putAll (n + 1) l)
/-- what is handed in gets names -/
def initM (args : List V) (bxs : List Cell) : M Unit :=
  newBs (List.range bxs.length) (wrAs (impL args 0).2.2 (back (List.range bxs.length) bxs (impL args 0).2.1 (putAll 0 (impL args 0).1)))
def oneOr : List V → V
  | [v] => v
  | vs => .tu vs
def getR (x : RI) (k : V → M α) : M α :=
  match x with
  | .t n => (Ar.t n).get k
  | .c n sz ag => (Ar.t n).get fun v => match v with
    | .bx b off => rdB b fun cs => if ag then (if off + sz ≤ cs.length then k (.ag ((cs.drop off).take sz)) else .fail) else optK cs[off]? k
    | _ => .fail
def getsR : List RI → (List V → M α) → M α
  | [], k => k []
  | x :: l, k => getR x fun v => getsR l fun vs => k (v :: vs)
def pack (n : Nat) (vs : List V) : V := if n = 0 then oneOr vs else .tu (oneOr (vs.take (vs.length - n)) :: vs.drop (vs.length - n))
def finishM (res : List RI) (lent : List Nat) (nb : Nat) : M (V × List Cell) :=
  getsR (res ++ lent.map RI.t) fun vs => fillV vs <| fillB 20 (List.range nb) [] <| expL true vs fun vs' _ =>
    coll 20 (List.range nb ++ bxsOfL vs') [] [] fun bs cs =>
      .pure (renB (idxOf bs) (pack lent.length vs'), cs.map (renC (idxOf bs)))

noncomputable def body (E : Env) (ev : Task → Option Ans) : Task → Option Ans
  | .call f as bs => (match E.fn f with
    | none => bO (E.lib f as bs) fun x => some (.val x.1 x.2)
    | some F => bO (if F.lent = lentOf (E.own f) as.length then some () else none) fun _ => bO ((initM as bs).run (callOf ev) ⟨bs.length, [], [], []⟩) fun i => bO (exec E.own ev F.body i.2) fun r => if r.1.isX then none else
      bO ((finishM F.res F.lent bs.length).run (callOf ev) r.2) fun x => some (.val x.1.1 x.1.2))
  | .loop c keep out s => bO (exec E.own ev c s) fun r => if r.1.isN then
      bO (norm keep r.2) fun s' => bO (loopOf ev c keep out s') fun x => some (.out x.1 x.2)
    else bO (norm out r.2) fun s' => some (.out r.1 s')

noncomputable def it (E : Env) : Nat → Task → Option Ans
  | 0 => fun _ => none
  | n + 1 => body E (it E n)
open Classical in
/-- what the evaluation comes to, with rounds enough -/
noncomputable def ev (E : Env) (t : Task) : Option Ans :=
  if h : ∃ a n, it E n t = some a then some h.choose else none

end Go.Pv

namespace Go.Pv
variable {α : Type}

theorem bO_eq {β : Type} {x : Option α} {f : α → Option β} {b : β} : bO x f = some b ↔ ∃ a, x = some a ∧ f a = some b := by
  cases x <;> simp [bO]

/-- tells as much, or more -/
def LeG (g g' : Ora) : Prop := ∀ f a b r, g f a b = some r → g' f a b = some r
theorem M.run_mono {g g' : Ora} (h : LeG g g') : ∀ (m : M α) (s : St) (x : α × St), m.run g s = some x → m.run g' s = some x ∧ m.foot g s = m.foot g' s := by
  intro m
  induction m with
  | pure y => intro s x hx; exact ⟨hx, rfl⟩
  | fail => intro s x hx; simp [M.run] at hx
  | rd r k ih => intro s x hx; exact ⟨(ih _ s x hx).1, by simp only [M.foot]; rw [(ih _ s x hx).2]⟩
  | wr r c k ih => intro s x hx; exact ⟨(ih _ x hx).1, by simp only [M.foot]; rw [(ih _ x hx).2]⟩
  | ask f as bs k ih =>
    intro s x hx
    simp only [M.run] at hx ⊢
    cases hg : g f as bs with
    | none => rw [hg] at hx; cases hx
    | some r =>
      rw [hg] at hx
      rw [h _ _ _ _ hg]
      refine ⟨(ih _ _ s x hx).1, ?_⟩
      simp only [M.foot, hg, h _ _ _ _ hg]
      exact (ih _ _ s x hx).2
def LeT (e e' : Task → Option Ans) : Prop := ∀ t a, e t = some a → e' t = some a
theorem callOf_mono {e e' : Task → Option Ans} (h : LeT e e') : LeG (callOf e) (callOf e') := by
  intro f a b r hr
  unfold callOf at hr ⊢
  cases he : e (.call f a b) with
  | none => rw [he] at hr; cases hr
  | some x => rw [he] at hr; rw [h _ _ he]; exact hr
theorem loopOf_mono {e e' : Task → Option Ans} (h : LeT e e') {c : IC} {k o : List Nat} {s : St} {r : Exit' × St} (hr : loopOf e c k o s = some r) : loopOf e' c k o s = some r := by
  unfold loopOf at hr ⊢
  cases he : e (.loop c k o s) with
  | none => rw [he] at hr; cases hr
  | some x => rw [he] at hr; rw [h _ _ he]; exact hr
theorem runOps_mono {own : Nat → Nat → Mode} {g g' : Ora} (h : LeG g g') : ∀ (l : List Opn) (s x : St), runOps own g l s = some x → runOps own g' l s = some x ∧ feet own g l s = feet own g' l s := by
  intro l
  induction l with
  | nil => intro s x hx; exact ⟨hx, rfl⟩
  | cons o l ih =>
    intro s x hx
    simp only [runOps, bO_eq] at hx ⊢
    obtain ⟨a, h1, h2⟩ := hx
    have h3 := M.run_mono h _ _ _ h1
    refine ⟨⟨a, h3.1, (ih _ _ h2).1⟩, ?_⟩
    simp only [feet, h1, h3.1, h3.2, (ih _ _ h2).2]
theorem exec_mono {own : Nat → Nat → Mode} {e e' : Task → Option Ans} (h : LeT e e') : ∀ (c : IC) (s : St) (r : Exit' × St), exec own e c s = some r → exec own e' c s = some r := by
  intro c
  induction c with
  | skip => intro s r hr; exact hr
  | region ops conf =>
    intro s r hr
    simp only [exec, bO_eq] at hr ⊢
    obtain ⟨s', h1, h2⟩ := hr
    have h3 := runOps_mono (own := own) (callOf_mono h) _ _ _ h1
    exact ⟨s', h3.1, by rw [← h3.2]; exact h2⟩
  | seq a b iha ihb =>
    intro s r hr
    simp only [exec, bO_eq] at hr ⊢
    obtain ⟨x, h1, h2⟩ := hr
    refine ⟨x, iha _ _ h1, ?_⟩
    split at h2
    · rename_i heq; rw [if_pos heq]; exact ihb _ _ h2
    · rename_i heq; rw [if_neg heq]; exact h2
  | alt o1 o2 z keep ihz =>
    intro s r hr
    simp only [exec, bO_eq] at hr ⊢
    obtain ⟨s1, h1, s2, h2, r1, h3, r2, h4, h5⟩ := hr
    exact ⟨s1, (runOps_mono (own := own) (callOf_mono h) _ _ _ h1).1, s2, (runOps_mono (own := own) (callOf_mono h) _ _ _ h2).1, r1, ihz _ _ h3, r2, ihz _ _ h4, h5⟩
  | cond c x y ihx ihy =>
    intro s r hr
    simp only [exec, bO_eq] at hr ⊢
    obtain ⟨b, h1, h2⟩ := hr
    refine ⟨b, h1, ?_⟩
    split at h2
    · rename_i heq; rw [if_pos heq]; exact ihx _ _ h2
    · rename_i heq; rw [if_neg heq]; exact ihy _ _ h2
  | block id c ih =>
    intro s r hr
    simp only [exec, bO_eq] at hr ⊢
    obtain ⟨x, h1, h2⟩ := hr
    exact ⟨x, ih _ _ h1, h2⟩
  | loop c k o ih =>
    intro s r hr
    simp only [exec, bO_eq] at hr ⊢
    obtain ⟨x, h1, h2⟩ := hr
    exact ⟨x, h1, loopOf_mono h h2⟩
  | exit id => intro s r hr; exact hr
  | ret => intro s r hr; exact hr
  | refuse => intro s r hr; exact hr
theorem body_mono {E : Env} {e e' : Task → Option Ans} (h : LeT e e') : LeT (body E e) (body E e') := by
  intro t a ha
  cases t with
  | call f as bs =>
    simp only [body] at ha ⊢
    cases h1 : E.fn f with
    | none => rw [h1] at ha; exact ha
    | some F =>
    rw [h1] at ha
    simp only [bO_eq] at ha ⊢
    obtain ⟨u, hu, i, h0, r, h2, h3⟩ := ha
    refine ⟨u, hu, i, (M.run_mono (callOf_mono h) _ _ _ h0).1, r, exec_mono h _ _ _ h2, ?_⟩
    split at h3
    · cases h3
    · rename_i heq
      rw [if_neg heq]
      simp only [bO_eq] at h3 ⊢
      obtain ⟨x, h4, h5⟩ := h3
      exact ⟨x, (M.run_mono (callOf_mono h) _ _ _ h4).1, h5⟩
  | loop c k o s =>
    simp only [body, bO_eq] at ha ⊢
    obtain ⟨r, h1, h2⟩ := ha
    refine ⟨r, exec_mono h _ _ _ h1, ?_⟩
    split at h2
    · rename_i heq
      rw [if_pos heq]
      simp only [bO_eq] at h2 ⊢
      obtain ⟨s', h3, x, h4, h5⟩ := h2
      exact ⟨s', h3, x, loopOf_mono h h4, h5⟩
    · rename_i heq
      rw [if_neg heq]
      exact h2
theorem it_step (E : Env) : ∀ n, LeT (it E n) (it E (n + 1))
  | 0 => fun _ _ h => by simp [it] at h
  | n + 1 => body_mono (it_step E n)
theorem it_mono (E : Env) {n m : Nat} (h : n ≤ m) : LeT (it E n) (it E m) := by
  induction h with
  | refl => exact fun _ _ h => h
  | step _ ih => exact fun t a ha => it_step E _ t a (ih t a ha)
theorem ev_iff (E : Env) (t : Task) (a : Ans) : ev E t = some a ↔ ∃ n, it E n t = some a := by
  unfold ev
  constructor
  · intro h
    split at h
    · rename_i hx
      obtain ⟨n, hn⟩ := hx.choose_spec
      injection h with h
      exact ⟨n, by rw [hn, h]⟩
    · cases h
  · rintro ⟨n, hn⟩
    have hx : ∃ a n, it E n t = some a := ⟨a, n, hn⟩
    rw [dif_pos hx]
    obtain ⟨m, hm⟩ := hx.choose_spec
    have h1 := it_mono E (Nat.le_max_left n m) t a hn
    have h2 := it_mono E (Nat.le_max_right n m) t _ hm
    rw [h1] at h2
    exact h2.symm
theorem it_le_ev (E : Env) (n : Nat) : LeT (it E n) (ev E) := fun t a h => (ev_iff E t a).2 ⟨n, h⟩
theorem two {p q : Nat → Prop} (hp : ∃ n, p n) (hq : ∃ n, q n) (mp : ∀ n m, n ≤ m → p n → p m) (mq : ∀ n m, n ≤ m → q n → q m) : ∃ n, p n ∧ q n := by
  obtain ⟨a, ha⟩ := hp
  obtain ⟨b, hb⟩ := hq
  exact ⟨max a b, mp _ _ (Nat.le_max_left a b) ha, mq _ _ (Nat.le_max_right a b) hb⟩
theorem run_cont (E : Env) : ∀ (m : M α) (s : St) (x : α × St), m.run (callOf (ev E)) s = some x → ∃ n, m.run (callOf (it E n)) s = some x := by
  intro m
  induction m with
  | pure y => intro s x hx; exact ⟨0, hx⟩
  | fail => intro s x hx; simp [M.run] at hx
  | rd r k ih => intro s x hx; exact ih _ s x hx
  | wr r c k ih => intro s x hx; exact ih _ x hx
  | ask f as bs k ih =>
    intro s x hx
    simp only [M.run] at hx
    cases hg : callOf (ev E) f as bs with
    | none => rw [hg] at hx; cases hx
    | some r =>
      rw [hg] at hx
      have h1 : ∃ n, callOf (it E n) f as bs = some r := by
        unfold callOf at hg
        cases he : ev E (.call f as bs) with
        | none => rw [he] at hg; cases hg
        | some a =>
          rw [he] at hg
          obtain ⟨n, hn⟩ := (ev_iff E _ _).1 he
          exact ⟨n, by unfold callOf; rw [hn]; exact hg⟩
      obtain ⟨n, h2, h3⟩ := two h1 (ih _ _ s x hx) (fun n m h => callOf_mono (it_mono E h) _ _ _ _) (fun n m h hh => (M.run_mono (callOf_mono (it_mono E h)) _ _ _ hh).1)
      exact ⟨n, by simp only [M.run, h2]; exact h3⟩
theorem loop_cont (E : Env) {c : IC} {k o : List Nat} {s : St} {r : Exit' × St} (h : loopOf (ev E) c k o s = some r) : ∃ n, loopOf (it E n) c k o s = some r := by
  unfold loopOf at h
  cases he : ev E (.loop c k o s) with
  | none => rw [he] at h; cases h
  | some a =>
    rw [he] at h
    obtain ⟨n, hn⟩ := (ev_iff E _ _).1 he
    exact ⟨n, by unfold loopOf; rw [hn]; exact h⟩
theorem ops_cont (E : Env) : ∀ (l : List Opn) (s x : St), runOps E.own (callOf (ev E)) l s = some x → ∃ n, runOps E.own (callOf (it E n)) l s = some x := by
  intro l
  induction l with
  | nil => intro s x hx; exact ⟨0, hx⟩
  | cons o l ih =>
    intro s x hx
    simp only [runOps, bO_eq] at hx
    obtain ⟨a, h1, h2⟩ := hx
    obtain ⟨n, h3, h4⟩ := two (run_cont E _ _ _ h1) (ih _ _ h2) (fun n m h hh => (M.run_mono (callOf_mono (it_mono E h)) _ _ _ hh).1) (fun n m h hh => (runOps_mono (callOf_mono (it_mono E h)) _ _ _ hh).1)
    exact ⟨n, by simp only [runOps, bO_eq]; exact ⟨a, h3, h4⟩⟩
theorem exec_cont (E : Env) : ∀ (c : IC) (s : St) (r : Exit' × St), exec E.own (ev E) c s = some r → ∃ n, exec E.own (it E n) c s = some r := by
  intro c
  induction c with
  | skip => intro s r hr; exact ⟨0, hr⟩
  | region ops conf =>
    intro s r hr
    simp only [exec, bO_eq] at hr
    obtain ⟨s', h1, h2⟩ := hr
    obtain ⟨n, hn⟩ := ops_cont E _ _ _ h1
    refine ⟨n, ?_⟩
    simp only [exec, bO_eq]
    exact ⟨s', hn, by rw [(runOps_mono (callOf_mono (it_le_ev E n)) _ _ _ hn).2]; exact h2⟩
  | seq a b iha ihb =>
    intro s r hr
    simp only [exec, bO_eq] at hr
    obtain ⟨x, h1, h2⟩ := hr
    split at h2
    · rename_i heq
      obtain ⟨n, h3, h4⟩ := two (iha _ _ h1) (ihb _ _ h2) (fun n m h hh => exec_mono (it_mono E h) _ _ _ hh) (fun n m h hh => exec_mono (it_mono E h) _ _ _ hh)
      exact ⟨n, by simp only [exec, bO_eq]; exact ⟨x, h3, by rw [if_pos heq]; exact h4⟩⟩
    · rename_i heq
      obtain ⟨n, h3⟩ := iha _ _ h1
      exact ⟨n, by simp only [exec, bO_eq]; exact ⟨x, h3, by rw [if_neg heq]; exact h2⟩⟩
  | alt o1 o2 z keep ihz =>
    intro s r hr
    simp only [exec, bO_eq] at hr
    obtain ⟨s1, h1, s2, h2, r1, h3, r2, h4, h5⟩ := hr
    obtain ⟨n1, a1, a2⟩ := two (ops_cont E _ _ _ h1) (ihz _ _ h3) (fun n m h hh => (runOps_mono (callOf_mono (it_mono E h)) _ _ _ hh).1) (fun n m h hh => exec_mono (it_mono E h) _ _ _ hh)
    obtain ⟨n2, b1, b2⟩ := two (ops_cont E _ _ _ h2) (ihz _ _ h4) (fun n m h hh => (runOps_mono (callOf_mono (it_mono E h)) _ _ _ hh).1) (fun n m h hh => exec_mono (it_mono E h) _ _ _ hh)
    obtain ⟨n, ⟨c1, c2⟩, d1, d2⟩ := two (p := fun n => runOps E.own (callOf (it E n)) o1 s = some s1 ∧ exec E.own (it E n) z s1 = some r1) (q := fun n => runOps E.own (callOf (it E n)) o2 s = some s2 ∧ exec E.own (it E n) z s2 = some r2) ⟨n1, a1, a2⟩ ⟨n2, b1, b2⟩
      (fun n m h hh => ⟨(runOps_mono (callOf_mono (it_mono E h)) _ _ _ hh.1).1, exec_mono (it_mono E h) _ _ _ hh.2⟩) (fun n m h hh => ⟨(runOps_mono (callOf_mono (it_mono E h)) _ _ _ hh.1).1, exec_mono (it_mono E h) _ _ _ hh.2⟩)
    refine ⟨n, ?_⟩
    simp only [exec, bO_eq]
    exact ⟨s1, c1, s2, d1, r1, c2, r2, d2, h5⟩
  | cond c x y ihx ihy =>
    intro s r hr
    simp only [exec, bO_eq] at hr
    obtain ⟨b, h1, h2⟩ := hr
    split at h2
    · rename_i heq
      obtain ⟨n, h3⟩ := ihx _ _ h2
      exact ⟨n, by simp only [exec, bO_eq]; exact ⟨b, h1, by rw [if_pos heq]; exact h3⟩⟩
    · rename_i heq
      obtain ⟨n, h3⟩ := ihy _ _ h2
      exact ⟨n, by simp only [exec, bO_eq]; exact ⟨b, h1, by rw [if_neg heq]; exact h3⟩⟩
  | block id c ih =>
    intro s r hr
    simp only [exec, bO_eq] at hr
    obtain ⟨x, h1, h2⟩ := hr
    obtain ⟨n, hn⟩ := ih _ _ h1
    exact ⟨n, by simp only [exec, bO_eq]; exact ⟨x, hn, h2⟩⟩
  | loop c k o ih =>
    intro s r hr
    simp only [exec, bO_eq] at hr
    obtain ⟨x, h1, h2⟩ := hr
    obtain ⟨n, hn⟩ := loop_cont E h2
    exact ⟨n, by simp only [exec, bO_eq]; exact ⟨x, h1, hn⟩⟩
  | exit id => intro s r hr; exact ⟨0, hr⟩
  | ret => intro s r hr; exact ⟨0, hr⟩
  | refuse => intro s r hr; exact ⟨0, hr⟩
theorem body_cont (E : Env) (t : Task) (a : Ans) (h : body E (ev E) t = some a) : ∃ n, body E (it E n) t = some a := by
  cases t with
  | call f as bs =>
    cases h1 : E.fn f with
    | none => exact ⟨0, by simp only [body] at h ⊢; rw [h1] at h ⊢; exact h⟩
    | some F =>
    simp only [body] at h
    rw [h1] at h
    simp only [bO_eq] at h
    obtain ⟨u, hu, i, h0, r, h2, h3⟩ := h
    split at h3
    · cases h3
    · rename_i heq
      simp only [bO_eq] at h3
      obtain ⟨x, h4, h5⟩ := h3
      obtain ⟨n0, h8, h9⟩ := two (run_cont E _ _ _ h0) (exec_cont E _ _ _ h2) (fun n m h hh => (M.run_mono (callOf_mono (it_mono E h)) _ _ _ hh).1) (fun n m h hh => exec_mono (it_mono E h) _ _ _ hh)
      obtain ⟨n1, h6, h7⟩ := two ⟨n0, h9⟩ (run_cont E _ _ _ h4) (fun n m h hh => exec_mono (it_mono E h) _ _ _ hh) (fun n m h hh => (M.run_mono (callOf_mono (it_mono E h)) _ _ _ hh).1)
      obtain ⟨n, h10, h11, h12⟩ := two (q := fun n => exec E.own (it E n) F.body i.2 = some r ∧ (finishM F.res F.lent bs.length).run (callOf (it E n)) r.2 = some x) (run_cont E _ _ _ h0) ⟨n1, And.intro h6 h7⟩ (fun n m h hh => (M.run_mono (callOf_mono (it_mono E h)) _ _ _ hh).1) (fun n m h hh => ⟨exec_mono (it_mono E h) _ _ _ hh.1, (M.run_mono (callOf_mono (it_mono E h)) _ _ _ hh.2).1⟩)
      exact ⟨n, by simp only [body]; rw [h1]; simp only [bO_eq]; exact ⟨u, hu, i, h10, r, h11, by rw [if_neg heq, bO_eq]; exact ⟨x, h12, h5⟩⟩⟩
  | loop c k o s =>
    simp only [body, bO_eq] at h
    obtain ⟨r, h1, h2⟩ := h
    split at h2
    · rename_i heq
      simp only [bO_eq] at h2
      obtain ⟨s', h3, x, h4, h5⟩ := h2
      obtain ⟨n, h6, h7⟩ := two (exec_cont E _ _ _ h1) (loop_cont E h4) (fun n m h hh => exec_mono (it_mono E h) _ _ _ hh) (fun n m h hh => loopOf_mono (it_mono E h) hh)
      exact ⟨n, by simp only [body, bO_eq]; exact ⟨r, h6, by rw [if_pos heq, bO_eq]; exact ⟨s', h3, by rw [bO_eq]; exact ⟨x, h7, h5⟩⟩⟩⟩
    · rename_i heq
      obtain ⟨n, h6⟩ := exec_cont E _ _ _ h1
      exact ⟨n, by simp only [body, bO_eq]; exact ⟨r, h6, by rw [if_neg heq]; exact h2⟩⟩
/-- **the evaluation's own equation** -/
theorem ev_eq (E : Env) (t : Task) : ev E t = body E (ev E) t := by
  cases h : ev E t with
  | some a =>
    obtain ⟨n, hn⟩ := (ev_iff E t a).1 h
    cases n with
    | zero => simp [it] at hn
    | succ n => exact (body_mono (it_le_ev E n) t a hn).symm
  | none =>
    cases h2 : body E (ev E) t with
    | none => rfl
    | some a =>
      obtain ⟨n, hn⟩ := body_cont E t a h2
      have := (ev_iff E t a).2 ⟨n + 1, hn⟩
      rw [h] at this
      cases this
end Go.Pv
