/- Proof: steps of the evaluation as equations. No condition. -/
import Derived.Test.YtaadneenebhnoaaPvF
set_option autoImplicit true
set_option relaxedAutoImplicit true
set_option linter.unusedSimpArgs false
set_option linter.unusedVariables false
namespace Go.Pv
set_option maxRecDepth 8000
theorem nr {α : Sort u} {a b : α} (h : a = b) : a = b := h
theorem look_nil {α : Type} (n : Nat) : look ([] : List (Nat × α)) n = none := nr rfl
theorem look_cons {α : Type} (k : Nat) (v : α) (l : List (Nat × α)) (n : Nat) : look ((k, v) :: l) n = if k = n then some v else look l n := nr rfl
theorem setA_nil {α : Type} (n : Nat) (x : α) : setA ([] : List (Nat × α)) n x = [(n, x)] := nr rfl
theorem setA_cons {α : Type} (k : Nat) (v : α) (l : List (Nat × α)) (n : Nat) (x : α) : setA ((k, v) :: l) n x = if k = n then (n, x) :: l else (k, v) :: setA l n x := nr rfl
/-- an operand's value -/
def val (s : St) : Ar → Option V
  | .t n => look s.tm n
  | .c v => some v
  | .no => none
theorem val_t (s : St) (n : Nat) : val s (.t n) = look s.tm n := nr rfl
theorem val_c (s : St) (v : V) : val s (.c v) = some v := nr rfl
theorem get_run {α : Type} (g : Ora) (x : Ar) (s : St) (k : V → M α) : (x.get k).run g s = bO (val s x) fun v => (k v).run g s := by
  cases x with
  | t n => simp only [Ar.get, M.run, St.get, val]; cases look s.tm n <;> rfl
  | c v => rfl
  | no => rfl
def putT (s : St) (d : Nat) (v : V) : St := { s with tm := setA s.tm d v }
variable {own : Nat → Nat → Mode} {g : Ora} {l : List Opn} {s : St} {d : Nat}
theorem ro_mv (x : Ar) : runOps own g (⟨some d, .mv x, none⟩ :: l) s = bO (val s x) fun v => runOps own g l { s with tm := setA s.tm d v } := by
  simp only [runOps, stepM, sem, get_run]
  cases val s x <;> rfl
def fldP (j : Nat) : V → Option V
  | .bx b off => some (.bx b (off + j))
  | .ep a i off => some (.ep a i (off + j))
  | .fp xs i off => some (.fp xs i (off + j))
  | _ => none
theorem ro_fld (j : Nat) (x : Ar) : runOps own g (⟨some d, .fld j x, none⟩ :: l) s = bO (val s x) fun v => bO (fldP j v) fun v => runOps own g l { s with tm := setA s.tm d v } := by
  simp only [runOps, stepM, sem, get_run]
  cases val s x with
  | none => rfl
  | some v => cases v <;> rfl
def lenP : V → Option V
  | .rf _ _ len => some (int len)
  | .ls _ xs => some (int xs.length)
  | _ => none
theorem ro_len (x : Ar) : runOps own g (⟨some d, .len 0 x, none⟩ :: l) s = bO (val s x) fun v => bO (lenP v) fun v => runOps own g l { s with tm := setA s.tm d v } := by
  simp only [runOps, stepM, sem, get_run]
  cases val s x with
  | none => rfl
  | some v => cases v <;> rfl
theorem ro_bin (op : BinOp) (x y : Ar) : runOps own g (⟨some d, .bin op x y, none⟩ :: l) s = bO (val s x) fun v => bO (val s y) fun w => bO (binV op v w) fun v => runOps own g l { s with tm := setA s.tm d v } := by
  simp only [runOps, stepM, sem, get_run]
  cases val s x with
  | none => rfl
  | some v =>
    simp only [bO, get_run]
    cases val s y with
    | none => rfl
    | some w => cases h : binV op v w <;> simp [h, optK, bO, M.run, finR, St.put]
def loadP (s : St) (n : Nat) (ag : Bool) : V → Option V
  | .bx b off => match look s.bx b with
    | some (.b cs) => if ag then (if off + n ≤ cs.length then some (.ag ((cs.drop off).take n)) else none) else cs[off]?
    | _ => none
  | .ep a i off => match look s.ar a with
    | some (.a fz xs) => match xs[i]? with | some cs => ldN n ag fz cs off | none => none
    | _ => none
  | .fp xs i off => match xs[i]? with | some cs => ldN n ag true cs off | none => none
  | _ => none
theorem ro_load (n : Nat) (ag : Bool) (x : Ar) : runOps own g (⟨some d, .load n ag x, none⟩ :: l) s = bO (val s x) fun v => bO (loadP s n ag v) fun v => runOps own g l { s with tm := setA s.tm d v } := by
  simp only [runOps, stepM, sem, get_run]
  cases val s x with
  | none => rfl
  | some v =>
    cases v with
    | bx b off =>
      simp only [bO, loadP, rdB, M.run, St.get]
      cases look s.bx b with
      | none => rfl
      | some c =>
        cases c with
        | b cs =>
          cases ag
          · cases h : cs[off]? <;> simp [h, optK, bO, M.run, finR, St.put]
          · by_cases h : off + n ≤ cs.length <;> simp [h, optK, bO, M.run, finR, St.put]
        | _ => rfl
    | ep a i off =>
      simp only [bO, loadP, rdA, M.run, St.get]
      cases look s.ar a with
      | none => rfl
      | some c =>
        cases c with
        | a fz xs =>
          cases h : xs[i]? with
          | none => simp only [h, bO, M.run]
          | some cs => cases h2 : ldN n ag fz cs off <;> simp [h, h2, optK, bO, M.run, finR, St.put]
        | _ => rfl
    | fp xs i off =>
      simp only [bO, loadP]
      cases h : xs[i]? with
      | none => simp [bO, M.run]
      | some cs => cases h2 : ldN n ag true cs off <;> simp [h2, optK, bO, M.run, finR, St.put]
    | _ => rfl
theorem loadK_run {own : Nat → Nat → Mode} {α : Type} (dd n : Nat) (ag : Bool) (x : Ar) (k : V → M α) : (sem own dd (.load n ag x) k).run g s = bO (val s x) fun v => bO (loadP s n ag v) fun v => (k v).run g s := by
  simp only [sem, get_run]
  cases val s x with
  | none => rfl
  | some v =>
    cases v with
    | bx b off =>
      simp only [bO, loadP, rdB, M.run, St.get]
      cases look s.bx b with
      | none => rfl
      | some c =>
        cases c with
        | b cs =>
          cases ag
          · cases h : cs[off]? <;> simp [h, optK, bO, M.run]
          · by_cases h : off + n ≤ cs.length <;> simp [h, optK, bO, M.run]
        | _ => rfl
    | ep a i off =>
      simp only [bO, loadP, rdA, M.run, St.get]
      cases look s.ar a with
      | none => rfl
      | some c =>
        cases c with
        | a fz xs =>
          cases h : xs[i]? with
          | none => simp only [h, bO, M.run]
          | some cs => cases h2 : ldN n ag fz cs off <;> simp [h, h2, optK, bO, M.run]
        | _ => rfl
    | fp xs i off =>
      simp only [bO, loadP]
      cases h : xs[i]? with
      | none => simp [bO, M.run]
      | some cs => cases h2 : ldN n ag true cs off <;> simp [h2, optK, bO, M.run]
    | _ => rfl
def rdXP (s : St) (a : Nat) : Option (List (List V)) := match look s.ar a with | some (.a _ xs) => some xs | some (.h xs) => some xs | _ => none
theorem rdX_run {α : Type} (a : Nat) (k : List (List V) → M α) : (rdX a k).run g s = bO (rdXP s a) fun xs => (k xs).run g s := by
  simp only [rdX, M.run, St.get, rdXP]
  cases look s.ar a with
  | none => rfl
  | some c => cases c <;> rfl
def idxP (s : St) (sz : Nat) (v w : V) : Option V :=
  match w with
  | .sc (.int _ n) => match v with
    | .rf a off len => bO (rdXP s a) fun xs => if 0 ≤ n ∧ n < len then (if (decide (off + len ≤ xs.length) && allLen sz xs) then some (.ep a (off + n.toNat) 0) else none) else none
    | .ls _ xs => if 0 ≤ n ∧ n < xs.length then (if allLen sz xs then some (.fp xs n.toNat 0) else none) else none
    | _ => none
  | _ => none
theorem ro_idx (sz : Nat) (x i : Ar) : runOps own g (⟨some d, .idx sz x i, none⟩ :: l) s = bO (val s x) fun v => bO (val s i) fun w => bO (idxP s sz v w) fun v => runOps own g l { s with tm := setA s.tm d v } := by
  simp only [runOps, stepM, sem, get_run]
  cases val s x with
  | none => rfl
  | some v =>
    simp only [bO, get_run]
    cases val s i with
    | none => rfl
    | some w =>
      cases w with
      | sc u =>
        cases u with
        | int k n =>
          simp only [asI, idxP]
          cases v with
          | rf a off len =>
            simp only [rdX_run]
            cases rdXP s a with
            | none => rfl
            | some xs =>
              simp only [bO]
              by_cases h : 0 ≤ n ∧ n < len
              · cases h2 : (decide (off + len ≤ xs.length) && allLen sz xs) <;> simp [h, h2, chk, M.run, finR, St.put]
              · simp [h, M.run]
          | ls o xs =>
            by_cases h : 0 ≤ n ∧ n < xs.length
            · cases h2 : allLen sz xs <;> simp [h, h2, chk, bO, M.run, finR, St.put]
            · simp [h, bO, M.run]
          | _ => rfl
        | _ => rfl
      | _ => rfl
theorem ro_pick (c x y : Ar) : runOps own g (⟨some d, .pick c x y, none⟩ :: l) s = bO (val s c) fun v => match v with | .sc (.bool t) => bO (if t then val s x else val s y) fun v => runOps own g l { s with tm := setA s.tm d v } | _ => none := by
  simp only [runOps, stepM, sem, get_run]
  cases val s c with
  | none => rfl
  | some v =>
    cases v with
    | sc u =>
      cases u with
      | bool t =>
        cases t
        · simp only [bO, asB, get_run, Bool.false_eq_true, if_false]
          cases val s y <;> rfl
        · simp only [bO, asB, get_run, if_true]
          cases val s x <;> rfl
      | _ => rfl
    | _ => rfl
theorem ro_not (x : Ar) : runOps own g (⟨some d, .un .not x, none⟩ :: l) s = bO (val s x) fun v => match v with | .sc (.bool t) => runOps own g l { s with tm := setA s.tm d (bool !t) } | _ => none := by
  simp only [runOps, stepM, sem, get_run]
  cases val s x with
  | none => rfl
  | some v =>
    cases v with
    | sc u => cases u <;> rfl
    | _ => rfl
def extP (j : Nat) : V → Option V
  | .tu vs => vs[j]?
  | _ => none
theorem ro_ext (j : Nat) (x : Ar) : runOps own g (⟨some d, .ext j x, none⟩ :: l) s = bO (val s x) fun v => bO (extP j v) fun v => runOps own g l { s with tm := setA s.tm d v } := by
  simp only [runOps, stepM, sem, get_run]
  cases val s x with
  | none => rfl
  | some v =>
    cases v with
    | tu vs => cases h : vs[j]? <;> simp [h, extP, optK, bO, M.run, finR, St.put]
    | _ => rfl
def fgetP (off n : Nat) (ag : Bool) : V → Option V
  | .ag cs => if ag then (if off + n ≤ cs.length then some (.ag ((cs.drop off).take n)) else none) else cs[off]?
  | _ => none
theorem ro_fget (off n : Nat) (ag : Bool) (x : Ar) : runOps own g (⟨some d, .fget off n ag x, none⟩ :: l) s = bO (val s x) fun v => bO (fgetP off n ag v) fun v => runOps own g l { s with tm := setA s.tm d v } := by
  simp only [runOps, stepM, sem, get_run]
  cases val s x with
  | none => rfl
  | some v =>
    cases v with
    | ag cs =>
      cases ag
      · cases h : cs[off]? <;> simp [h, fgetP, optK, bO, M.run, finR, St.put]
      · by_cases h : off + n ≤ cs.length <;> simp [h, fgetP, optK, bO, M.run, finR, St.put]
    | _ => rfl
theorem ro_conv (c : IntKind) (x : Ar) : runOps own g (⟨some d, .conv c x, none⟩ :: l) s = bO (val s x) fun v => match v with | .sc (.int _ n) => runOps own g l { s with tm := setA s.tm d (intK c (c.wrap n)) } | _ => none := by
  simp only [runOps, stepM, sem, get_run]
  cases val s x with
  | none => rfl
  | some v =>
    cases v with
    | sc u => cases u <;> rfl
    | _ => rfl
/-- with a guard: as without, or nothing -/
theorem ro_guard (op : IOp) (j : Nat) (want : Bool) : runOps own g (⟨some d, op, some (j, want)⟩ :: l) s = bO (look s.tm j) fun v => match v with
    | .sc (.bool b) => if b = want then runOps own g (⟨some d, op, none⟩ :: l) s else runOps own g l { s with tm := setA s.tm d (.tu []) }
    | .tu [] => runOps own g l { s with tm := setA s.tm d (.tu []) }
    | _ => none := by
  simp only [runOps, stepM, M.run, St.get]
  cases look s.tm j with
  | none => rfl
  | some v =>
    cases v with
    | sc u =>
      cases u with
      | bool b =>
        simp only [Option.map_some, bO]
        by_cases h : b = want
        · simp only [h, if_true]
        · simp only [h, if_false]; rfl
      | _ => rfl
    | tu vs => cases vs <;> rfl
    | _ => rfl
theorem ex_region0 (own : Nat → Nat → Mode) (e : Task → Option Ans) (ops : List Opn) (s : St) : exec own e (.region ops []) s = bO (runOps own (callOf e) ops s) fun s' => some (.normal, s') := by
  simp only [exec]
  congr 1
theorem bO_some {α β : Type} (a : α) (f : α → Option β) : bO (some a) f = f a := nr rfl
theorem bO_none {α β : Type} (f : α → Option β) : bO none f = none := nr rfl
theorem ex_seq (own : Nat → Nat → Mode) (e : Task → Option Ans) (a b : IC) (s : St) : exec own e (.seq a b) s = bO (exec own e a s) fun r => if r.1.isN then exec own e b r.2 else some r := nr rfl
section
variable {e : Task → Option Ans}
theorem ex_skip : exec own e .skip s = some (.normal, s) := nr rfl
theorem ex_ret : exec own e .ret s = some (.ret, s) := nr rfl
theorem ex_exit (n : Nat) : exec own e (.exit n) s = some (.exit n, s) := nr rfl
theorem ex_cond (c : Ar) (x y : IC) : exec own e (.cond c x y) s = bO (val s c) fun v => match v with | .sc (.bool b) => if b then exec own e x s else exec own e y s | _ => none := by
  simp only [exec]
  cases c with
  | t n =>
    simp only [condO, val]
    cases look s.tm n with
    | none => rfl
    | some v =>
      cases v with
      | sc u => cases u <;> rfl
      | _ => rfl
  | c v =>
    cases v with
    | sc u => cases u <;> rfl
    | _ => rfl
  | no => rfl
theorem ex_block (n : Nat) (c : IC) : exec own e (.block n c) s = bO (exec own e c s) fun r => some (r.1.outOf n, r.2) := nr rfl
theorem ex_loop (c : IC) (k o : List Nat) : exec own e (.loop c k o) s = bO (norm k s) fun s' => loopOf e c k o s' := nr rfl
theorem ex_region (ops : List Opn) (p : Nat × Nat) (conf : List (Nat × Nat)) : exec own e (.region ops (p :: conf)) s = bO (runOps own (callOf e) ops s) fun s' => if (p :: conf).all (fun q => !clash ((feet own (callOf e) ops s).getD q.1 []) ((feet own (callOf e) ops s).getD q.2 [])) then some (.normal, s') else none := by
  simp only [exec, List.isEmpty_cons, Bool.false_or]
end
theorem ro_nil : runOps own g [] s = some s := nr rfl
theorem ro_gen (op : IOp) (d : Option Nat) : runOps own g (⟨d, op, none⟩ :: l) s = bO ((sem own (d.getD 999999) op (finR d)).run g s) fun r => runOps own g l r.2 := nr rfl
theorem fldP_bx (j b o : Nat) : fldP j (.bx b o) = some (.bx b (o + j)) := nr rfl
theorem fldP_ep (j a i o : Nat) : fldP j (.ep a i o) = some (.ep a i (o + j)) := nr rfl
theorem fldP_fp (j : Nat) (xs : List (List V)) (i o : Nat) : fldP j (.fp xs i o) = some (.fp xs i (o + j)) := nr rfl
theorem lenP_rf (a o n : Nat) : lenP (.rf a o n) = some (int n) := nr rfl
theorem lenP_ls (o : Bool) (xs : List (List V)) : lenP (.ls o xs) = some (int xs.length) := nr rfl
theorem extP_tu (j : Nat) (vs : List V) : extP j (.tu vs) = vs[j]? := nr rfl
theorem fgetP_ag (off n : Nat) (ag : Bool) (cs : List V) : fgetP off n ag (.ag cs) = if ag then (if off + n ≤ cs.length then some (.ag ((cs.drop off).take n)) else none) else cs[off]? := nr rfl
theorem loadP_bx (s : St) (n : Nat) (ag : Bool) (b off : Nat) : loadP s n ag (.bx b off) = match look s.bx b with
    | some (.b cs) => if ag then (if off + n ≤ cs.length then some (.ag ((cs.drop off).take n)) else none) else cs[off]?
    | _ => none := nr rfl
theorem loadP_ep (s : St) (n : Nat) (ag : Bool) (a i off : Nat) : loadP s n ag (.ep a i off) = match look s.ar a with
    | some (.a fz xs) => match xs[i]? with | some cs => ldN n ag fz cs off | none => none
    | _ => none := nr rfl
theorem loadP_fp (s : St) (n : Nat) (ag : Bool) (xs : List (List V)) (i off : Nat) : loadP s n ag (.fp xs i off) = match xs[i]? with | some cs => ldN n ag true cs off | none => none := nr rfl
theorem idxP_rf (s : St) (sz : Nat) (a off len : Nat) (k : IntKind) (n : Int) : idxP s sz (.rf a off len) (.sc (.int k n)) = bO (rdXP s a) fun xs => if 0 ≤ n ∧ n < len then (if (decide (off + len ≤ xs.length) && allLen sz xs) then some (.ep a (off + n.toNat) 0) else none) else none := nr rfl
theorem rdXP_eq (s : St) (a : Nat) : rdXP s a = match look s.ar a with | some (.a _ xs) => some xs | some (.h xs) => some xs | _ => none := nr rfl
theorem idxP_ls (s : St) (sz : Nat) (o : Bool) (xs : List (List V)) (k : IntKind) (n : Int) : idxP s sz (.ls o xs) (.sc (.int k n)) = if 0 ≤ n ∧ n < xs.length then (if allLen sz xs then some (.fp xs n.toNat 0) else none) else none := nr rfl
theorem bin_add (a : IntKind) (n m : Int) : binV .add (.sc (.int a n)) (.sc (.int a m)) = some (intK a (a.wrap (n + m))) := by simp [binV, binI]
theorem bin_sub (a : IntKind) (n m : Int) : binV .sub (.sc (.int a n)) (.sc (.int a m)) = some (intK a (a.wrap (n - m))) := by simp [binV, binI]
theorem bin_mul (a : IntKind) (n m : Int) : binV .mul (.sc (.int a n)) (.sc (.int a m)) = some (intK a (a.wrap (n * m))) := by simp [binV, binI]
theorem bin_eql (a : IntKind) (n m : Int) : binV .eql (.sc (.int a n)) (.sc (.int a m)) = some (bool (decide (n = m))) := by simp [binV, binI]
theorem bin_neq (a : IntKind) (n m : Int) : binV .neq (.sc (.int a n)) (.sc (.int a m)) = some (bool !(decide (n = m))) := by simp [binV, binI]
theorem bin_lss (a : IntKind) (n m : Int) : binV .lss (.sc (.int a n)) (.sc (.int a m)) = some (bool (decide (n < m))) := by simp [binV, binI]
theorem bin_leq (a : IntKind) (n m : Int) : binV .leq (.sc (.int a n)) (.sc (.int a m)) = some (bool (decide (n ≤ m))) := by simp [binV, binI]
theorem bin_gtr (a : IntKind) (n m : Int) : binV .gtr (.sc (.int a n)) (.sc (.int a m)) = some (bool (decide (m < n))) := by simp [binV, binI]
theorem bin_geq (a : IntKind) (n m : Int) : binV .geq (.sc (.int a n)) (.sc (.int a m)) = some (bool (decide (m ≤ n))) := by simp [binV, binI]
theorem bin_and7 (n : Int) : binV .and (.sc (.int .i64 n)) (.sc (.int .i64 7)) = some (int (n % 8)) := by simp [binV, binB]
theorem bin_shr (n m : Int) (b : IntKind) : binV .shr (.sc (.int .i64 n)) (.sc (.int b m)) = if 0 ≤ m ∧ m < 64 then some (int (n / 2 ^ m.toNat)) else none := by simp [binV, int, intK]
theorem bin_shru (n m : Int) (b : IntKind) : binV .shr (.sc (.int .u64 n)) (.sc (.int b m)) = if 0 ≤ m ∧ m < 64 then some (intK .u64 (n / 2 ^ m.toNat)) else none := by simp [binV]
theorem bin_sadd (x y : ByteArray) : binV .add (.sc (.string x)) (.sc (.string y)) = if x.size + y.size ≤ 9223372036854775807 then some (str (x ++ y)) else none := by simp [binV]
theorem bin_rem (a : IntKind) (n m : Int) : binV .rem (.sc (.int a n)) (.sc (.int a m)) = if m = 0 then none else some (intK a (n.tmod m)) := by simp [binV, binI]
theorem bin_quo (a : IntKind) (n m : Int) : binV .quo (.sc (.int a n)) (.sc (.int a m)) = if m = 0 then none else some (intK a (a.wrap (n.tdiv m))) := by simp [binV, binI]
theorem bin_and255 (n : Int) : binV .and (.sc (.int .i64 n)) (.sc (.int .i64 255)) = some (int (n % 256)) := by simp [binV, binB]
theorem bin_and30 (n : Int) : binV .and (.sc (.int .i64 n)) (.sc (.int .i64 1073741823)) = some (int (n % 1073741824)) := by simp [binV, binB]
theorem bin_and32 (n : Int) : binV .and (.sc (.int .i64 n)) (.sc (.int .i64 4294967295)) = some (int (n % 4294967296)) := by simp [binV, binB]
theorem bin_xor (n m : Int) : binV .xor (.sc (.int .i64 n)) (.sc (.int .i64 m)) = some (int (IntKind.i64.wrap ((BitVec.ofInt 64 n ^^^ BitVec.ofInt 64 m).toNat : Int))) := by simp [binV]
theorem bin_seql (x y : ByteArray) : binV .eql (.sc (.string x)) (.sc (.string y)) = some (bool (decide (x = y))) := by simp [binV]
theorem bin_sneq (x y : ByteArray) : binV .neq (.sc (.string x)) (.sc (.string y)) = some (bool !(decide (x = y))) := by simp [binV]
theorem ldN_1 (fz : Bool) (v : V) : ldN 1 false fz [v] 0 = ld1 fz v := by simp [ldN]
theorem ld1_sc (fz : Bool) (x : Value) : ld1 fz (.sc x) = some (.sc x) := nr rfl
theorem ld1_ls (fz : Bool) (xs : List (List V)) : ld1 fz (.ls false xs) = some (.ls false xs) := nr rfl
def vals (s : St) : List Ar → Option (List V)
  | [] => some []
  | x :: l => bO (val s x) fun v => bO (vals s l) fun vs => some (v :: vs)
theorem vals_nil (s : St) : vals s [] = some [] := nr rfl
theorem vals_cons (s : St) (x : Ar) (l : List Ar) : vals s (x :: l) = bO (val s x) fun v => bO (vals s l) fun vs => some (v :: vs) := nr rfl
theorem gets_run {α : Type} (g : Ora) : ∀ (az : List Ar) (s : St) (k : List V → M α), (getsA az k).run g s = bO (vals s az) fun vs => (k vs).run g s
  | [], s, k => rfl
  | x :: l, s, k => by
    simp only [getsA, get_run, vals]
    cases val s x with
    | none => rfl
    | some v =>
      simp only [bO, gets_run g l]
      cases vals s l <;> rfl
/-- a call, and what comes behind it -/
def callR (own : Nat → Nat → Mode) (g : Ora) (d f : Nat) (l : List Opn) (vs : List V) (s : St) : Option St := bO ((fillV vs (callM own (1000 * (d + 1)) f vs (finR (some d)))).run g s) fun r => runOps own g l r.2
theorem ro_call (f : Nat) (az : List Ar) : runOps own g (⟨some d, .call f az, none⟩ :: l) s = bO (vals s az) fun vs => callR own g d f l vs s := by
  simp only [runOps, stepM, sem, gets_run]
  cases vals s az <;> rfl
mutual
/-- nothing of one's own within -/
def plainV : V → Bool
  | .sc _ => true
  | .ls false _ => true
  | .ls true [] => true
  | .ag cs => plainL cs
  | _ => false
def plainL : List V → Bool
  | [] => true
  | v :: l => plainV v && plainL l
end
mutual
theorem exp_plain {α : Type} (o : Bool) : ∀ (v : V) (k : V → List Nat → M α), plainV v = true → exp o v k = k v []
  | .sc _, k, _ => rfl
  | .ls false _, k, _ => rfl
  | .ls true [], k, _ => rfl
  | .ls true (_ :: _), k, h => by simp [plainV] at h
  | .ag cs, k, h => by
    simp only [exp]
    rw [expL_plain o cs _ (by simpa [plainV] using h)]
  | .rf _ _ _, _, h => by simp [plainV] at h
  | .tu _, _, h => by simp [plainV] at h
  | .bx _ _, _, h => by simp [plainV] at h
  | .ep _ _ _, _, h => by simp [plainV] at h
  | .fp _ _ _, _, h => by simp [plainV] at h
  | .fn _ _, _, h => by simp [plainV] at h
  | .mp _, _, h => by simp [plainV] at h
theorem expL_plain {α : Type} (o : Bool) : ∀ (l : List V) (k : List V → List Nat → M α), plainL l = true → expL o l k = k l []
  | [], k, _ => rfl
  | v :: l, k, h => by
    simp only [plainL, Bool.and_eq_true] at h
    simp only [expL]
    rw [exp_plain o v _ h.1]
    rw [expL_plain o l _ h.2]
    rfl
end
theorem expArgs_plain {α : Type} (ow : Nat → Mode) : ∀ (l : List V) (i : Nat) (k : List V → List Nat → M α), plainL l = true → expArgs ow i l k = k l []
  | [], i, k, _ => rfl
  | v :: l, i, k, h => by
    simp only [plainL, Bool.and_eq_true] at h
    simp only [expArgs]
    rw [exp_plain _ v _ h.1, expArgs_plain ow l (i + 1) _ h.2]
    rfl
mutual
theorem plain_bxs : ∀ v : V, plainV v = true → bxsOf v = []
  | .sc _, _ => rfl
  | .ls _ _, _ => rfl
  | .ag cs, h => by simp only [bxsOf]; exact plainL_bxs cs (by simpa [plainV] using h)
  | .rf _ _ _, h => by simp [plainV] at h
  | .tu _, h => by simp [plainV] at h
  | .bx _ _, h => by simp [plainV] at h
  | .ep _ _ _, h => by simp [plainV] at h
  | .fp _ _ _, h => by simp [plainV] at h
  | .fn _ _, h => by simp [plainV] at h
  | .mp _, h => by simp [plainV] at h
theorem plainL_bxs : ∀ l : List V, plainL l = true → bxsOfL l = []
  | [], _ => rfl
  | v :: l, h => by
    simp only [plainL, Bool.and_eq_true] at h
    simp only [bxsOfL, plain_bxs v h.1, plainL_bxs l h.2, List.append_nil]
end
mutual
theorem plain_ren (f : Nat → Nat) : ∀ v : V, plainV v = true → renB f v = v
  | .sc _, _ => rfl
  | .ls _ _, _ => rfl
  | .ag cs, h => by simp only [renB]; rw [plainL_ren f cs (by simpa [plainV] using h)]
  | .rf _ _ _, h => by simp [plainV] at h
  | .tu _, h => by simp [plainV] at h
  | .bx _ _, h => by simp [plainV] at h
  | .ep _ _ _, h => by simp [plainV] at h
  | .fp _ _ _, h => by simp [plainV] at h
  | .fn _ _, h => by simp [plainV] at h
  | .mp _, h => by simp [plainV] at h
theorem plainL_ren (f : Nat → Nat) : ∀ l : List V, plainL l = true → renBL f l = l
  | [], _ => rfl
  | v :: l, h => by
    simp only [plainL, Bool.and_eq_true] at h
    simp only [renBL, plain_ren f v h.1, plainL_ren f l h.2]
end
mutual
theorem plain_ars : ∀ v : V, plainV v = true → arsOf v = []
  | .sc _, _ => rfl
  | .ls _ _, _ => rfl
  | .ag cs, h => by simp only [arsOf]; exact plainL_ars cs (by simpa [plainV] using h)
  | .rf _ _ _, h => by simp [plainV] at h
  | .tu _, h => by simp [plainV] at h
  | .bx _ _, h => by simp [plainV] at h
  | .ep _ _ _, h => by simp [plainV] at h
  | .fp _ _ _, h => by simp [plainV] at h
  | .fn _ _, h => by simp [plainV] at h
  | .mp _, h => by simp [plainV] at h
theorem plainL_ars : ∀ l : List V, plainL l = true → arsOfL l = []
  | [], _ => rfl
  | v :: l, h => by
    simp only [plainL, Bool.and_eq_true] at h
    simp only [arsOfL, plain_ars v h.1, plainL_ars l h.2, List.append_nil]
end
theorem fillV_plain {α : Type} (vs : List V) (k : M α) (h : plainL vs = true) : fillV vs k = k := by
  simp [fillV, plainL_ars vs h, plainL_bxs vs h, fillA, fillB]
/-- what comes back, when no variables were handed in -/
def retP (g : Ora) (d : Nat) (l : List Opn) (own : Nat → Nat → Mode) (r : V × List Cell) (s : St) : Option St :=
  bO ((let news := (List.range r.2.length).map fun j => 1000 * (d + 1) + j
   let nm := fun i => news.getD i 0
   let q := impL [renB nm r.1] (1000 * (d + 1))
   newBs news (wrAs q.2.2 (back news (r.2.map (renC nm)) q.2.1 (finR (some d) (q.1.getD 0 (.tu [])))))).run g s) fun r => runOps own g l r.2
theorem callR_plain {f : Nat} {vs : List V} (ho : own f = fun _ => .shown) (h : plainL vs = true) : callR own g d f l vs s = bO (g f vs []) fun r => retP g d l own r s := by
  have hl : lentOf (own f) vs.length = [] := by rw [ho]; simp [lentOf]
  simp only [callR]
  rw [fillV_plain vs _ h]
  simp only [callM, hl, List.map_nil, List.flatMap_nil, preL]
  rw [expArgs_plain _ _ _ _ h, plainL_bxs _ h]
  simp only [coll, seeA, M.run, plainL_ren _ _ h, List.map_nil]
  cases g f vs [] with
  | none => rfl
  | some r =>
    simp only [bO, retP, List.length_nil, Nat.sub_zero, List.nil_append, List.zip_nil_left, List.flatMap_nil, revive, unpack, if_true, renBL, renB]
    cases hasFz r.1 || hasFzC r.2 <;> rfl
theorem retP_sc (v : Value) : retP g d l own (.sc v, []) s = runOps own g l { s with tm := setA s.tm d (.sc v) } := by
  simp [retP, renB, impL, imp, newBs, wrAs, back, finR, M.run, St.put, bO]
theorem retP_ls (xs : List (List V)) : retP g d l own (.ls true xs, []) s = match look s.ar (1000 * (d + 1)) with | none => runOps own g l { s with tm := setA s.tm d (.rf (1000 * (d + 1)) 0 xs.length), ar := setA s.ar (1000 * (d + 1)) (.a false xs) } | some _ => none := by
  simp only [retP, renB, impL, imp, newBs, wrAs, back, finR, M.run, St.put, bO, List.length_nil, List.range_zero, List.map_nil, newR, St.get, List.append_nil, List.getD_cons_zero]
  cases look s.ar (1000 * (d + 1)) <;> rfl
theorem retP_agls (xs : List (List V)) : retP g d l own (.ag [.ls true xs], []) s = match look s.ar (1000 * (d + 1)) with | none => runOps own g l { s with tm := setA s.tm d (.ag [.rf (1000 * (d + 1)) 0 xs.length]), ar := setA s.ar (1000 * (d + 1)) (.a false xs) } | some _ => none := by
  simp only [retP, renB, renBL, impL, imp, newBs, wrAs, back, finR, M.run, St.put, bO, List.length_nil, List.range_zero, List.map_nil, newR, St.get, List.append_nil, List.getD_cons_zero]
  cases look s.ar (1000 * (d + 1)) <;> rfl
theorem callR_gen (f : Nat) (vs : List V) : callR own g d f l vs s = bO ((fillV vs (callM own (1000 * (d + 1)) f vs (finR (some d)))).run g s) fun r => runOps own g l r.2 := nr rfl
theorem retP_gen (r : V × List Cell) : retP g d l own r s = bO ((let news := (List.range r.2.length).map fun j => 1000 * (d + 1) + j
   let nm := fun i => news.getD i 0
   let q := impL [renB nm r.1] (1000 * (d + 1))
   newBs news (wrAs q.2.2 (back news (r.2.map (renC nm)) q.2.1 (finR (some d) (q.1.getD 0 (.tu [])))))).run g s) fun r => runOps own g l r.2 := nr rfl
theorem plainV_sc (v : Value) : plainV (.sc v) = true := nr rfl
theorem plainV_ls (xs : List (List V)) : plainV (.ls false xs) = true := nr rfl
theorem plainV_nil : plainV (.ls true []) = true := nr rfl
theorem plainV_ag (cs : List V) : plainV (.ag cs) = plainL cs := nr (by simp only [plainV])
theorem plainV_rf (a o n : Nat) : plainV (.rf a o n) = false := nr rfl
theorem plainL_nil : plainL [] = true := nr rfl
theorem plainL_cons (v : V) (l : List V) : plainL (v :: l) = (plainV v && plainL l) := nr rfl
end Go.Pv

namespace Go.Pv
/-! ### operations that turn nothing but their own variable -/
def Ar.ts : Ar → List Nat
  | .t n => [n]
  | _ => []
def tsL : List Ar → List Nat
  | [] => []
  | x :: l => x.ts ++ tsL l
def opQ : IOp → Option (List Nat)
  | .mv x => some x.ts
  | .pick c a b => some (c.ts ++ a.ts ++ b.ts)
  | .bin _ x y => some (x.ts ++ y.ts)
  | .un .not x => some x.ts
  | .conv _ x => some x.ts
  | .load _ _ p => some p.ts
  | .fld _ p => some p.ts
  | .fget _ _ _ x => some x.ts
  | .idx _ x i => some (x.ts ++ i.ts)
  | .len _ x => some x.ts
  | .ext _ x => some x.ts
  | .slc _ x lo hi mx => some (x.ts ++ (match lo with | some a => a.ts | none => []) ++ (match hi with | some a => a.ts | none => []) ++ (match mx with | some a => a.ts | none => []))
  | .alloc _ => some []
  | .box x => some x.ts
  | .beq _ x y => some (x.ts ++ y.ts)
  | .un .neg x => some x.ts
  | .b2s x => some x.ts
  | .sidx x y => some (x.ts ++ y.ts)
  | .nilc x => some x.ts
  | .sslc x lo hi => some (x.ts ++ (match lo with | some a => a.ts | none => []) ++ (match hi with | some a => a.ts | none => []))
  | .build _ ps => some (tsL (ps.map (·.2.2)))
  | .mkfn _ az => some (tsL az)
  | .mx x y => some (x.ts ++ y.ts)
  | .mn x y => some (x.ts ++ y.ts)
  | .mksl _ _ x y => some (x.ts ++ y.ts)
  | .mget _ _ _ m k => some (m.ts ++ k.ts)
  | .ment _ _ m k => some (m.ts ++ k.ts)
  | .mst m t x => some (m.ts ++ t.ts ++ x.ts)
  | _ => none
/-- operations whose footprint is looked at: their operands, and the rest -/
def opC : IOp → Option (List Ar)
  | .call _ az => some az
  | .bsl _ _ ps => some (ps.map (·.2))
  | .app _ _ _ x y => some [x, y]
  | .store _ p x => some [p, x]
  | .callv f az => some (f :: az)
  | .copy _ x y => some [x, y]
  | .take _ _ p => some [p]
  | .apps x y => some [x, y]
  | .mset _ m k x => some [m, k, x]
  | .clear _ x => some [x]
  | _ => none
def restM (own : Nat → Nat → Mode) (o : Opn) (vs : List V) : M Unit :=
  let d := 1000 * (o.dst.getD 999999 + 1)
  let k := finR o.dst
  match o.op, vs with
  | .call f _, vs => fillV vs (callM own d f vs k)
  | .take n ag _, [v] => (match v with
    | .ep a i off => .rd (.a a) fun c => match c with
      | some (.a fz xs) => if fz then (match xs[i]? with | some cs => optK (ldN n ag true cs off) k | none => .fail) else takeM n ag a xs i off d k
      | some (.h xs) => takeM n ag a xs i off d k
      | _ => .fail
    | .bx b off => rdB b fun cs => if ag then (if off + n ≤ cs.length then k (.ag ((cs.drop off).take n)) else .fail) else optK cs[off]? k
    | .fp xs i off => match xs[i]? with
      | some cs => optK (ldN n ag true cs off) k
      | none => .fail
    | _ => .fail)
  | .apps _ _, [v, w] => asS w fun t => rowX 1 (decide (0 < t.size)) v fun xs =>
      chk (lim (xs.length + t.size) 1) (newR (.a d) (.wr (.a d) (.a false (xs ++ t.data.toList.map fun b => [intK .u8 b.toNat])) (k (.rf d 0 (xs.length + t.size)))))
  | .mset str _ _ _, [v, w, y] => (match v with
    | .mp b => rdM b fun es => chk (keyOk str w && flat1 y) (match mfind w es.1 with
      | some (some _) => .wr (.b b) (.m (mput w y es.1, es.2)) (k (.tu []))
      | some none => .wr (.b b) (.m (es.1 ++ [((w, y), es.2)], es.2 + 1)) (k (.tu []))
      | none => .fail)
    | _ => .fail)
  | .clear zs _, [v] => (match v with
    | .rf a off len => rdA a fun fz xs => if fz then .fail else if off + len ≤ xs.length then chk (allLen zs.length xs && zs.all clo1) (.wr (.a a) (.a false (xs.take off ++ List.replicate len zs ++ xs.drop (off + len))) (k (.tu []))) else .fail
    | .ls true [] => k (.tu [])
    | _ => .fail)
  | .bsl zs n ps, vs => if n = 0 then k (.ls true []) else
      cloLs (vs.map cellsOf) fun ws =>
      chk (ws.all (fun c => c.length == zs.length) && decide (n ≤ 1000) && ps.all (fun p => decide (p.1 < n)) && zs.all clo1)
      (newR (.a d) (.wr (.a d) (.a false (setEls (List.replicate n zs) ((ps.map (·.1)).zip ws))) (k (.rf d 0 n))))
  | .app s bytes ptr _ _, [v, w] => rowY ptr w fun ys => rowX s (!ys.isEmpty) v fun xs =>
      chk (lim (xs.length + ys.length) bytes) (chk (allLen s ys) (newR (.a d) (.wr (.a d) (.a false (xs ++ ys)) (k (.rf d 0 (xs.length + ys.length))))))
  | .store n _ _, [v, w] => chk (decide ((cellsOf w).length = n) && (cellsOf w).all one1) (match v with
    | .bx b off => rdB b fun cs => if off + n ≤ cs.length then .wr (.b b) (.b (setAt cs off (cellsOf w))) (k (.tu [])) else .fail
    | .ep a i off => cloL (cellsOf w) fun ws => .rd (.a a) fun c => match c with
      | some (.a fz xs) => if fz then .fail else (match xs[i]? with
        | some cs => if off + n ≤ cs.length then .wr (.a a) (.a false (xs.set i (setAt cs off ws))) (k (.tu [])) else .fail
        | none => .fail)
      | some (.h xs) => (match xs[i]? with
        | some cs => if off + n ≤ cs.length then .wr (.a a) (.h (xs.set i (setAt cs off ws))) (k (.tu [])) else .fail
        | none => .fail)
      | _ => .fail
    | _ => .fail)
  | .callv _ _, v :: vs => match v with | .fn f caps => fillV (vs ++ caps) (callM own d f (vs ++ caps) k) | _ => .fail
  | .copy s _ _, [v, w] => rowY false w fun ys => match v with
    | .rf a off len => rdA a fun fz xs => if fz then .fail else if off + len ≤ xs.length then
        chk (allLen s xs && allLen s ys) (let n := min ys.length len; .wr (.a a) (.a false (xs.take off ++ ys.take n ++ xs.drop (off + n))) (k (int n))) else .fail
    | _ => .fail
  | _, _ => .fail
def temps (o : Opn) : List Nat := (match o.dst with | some d => [d] | none => []) ++ (match o.guard with | some p => [p.1] | none => []) ++ (match opQ o.op with | some l => l | none => match opC o.op with | some p => tsL p | none => [])
def isOff (o : Opn) (s : St) : Bool := match o.guard with | none => false | some (j, want) => match look s.tm j with | some (.sc (.bool b)) => b != want | some (.tu []) => true | _ => false
/-- what is read that is no variable -/
def resV : Option V → List Res
  | some (.bx b _) => [.b b]
  | some (.ep a _ _) => [.a a]
  | some (.rf a _ _) => [.a a]
  | some (.mp b) => [.b b]
  | _ => []
def wrT : List (Res × Bool) → List (Res × Bool)
  | [] => []
  | p :: l => if p.2 then p :: wrT l else wrT l
def nonT : List (Res × Bool) → List Res
  | [] => []
  | p :: l => match p.1 with | .t _ => nonT l | r => r :: nonT l
def rdsO (own : Nat → Nat → Mode) (g : Ora) (o : Opn) (s : St) : List Res :=
  match o.op with
  | .load _ _ p => resV (val s p)
  | .idx _ x _ => resV (val s x)
  | .len _ x => resV (val s x)
  | .slc _ x _ _ _ => resV (val s x)
  | .b2s x => resV (val s x)
  | .alloc _ => [.b (1000 * (o.dst.getD 999999 + 1))]
  | .box _ => [.b (1000 * (o.dst.getD 999999 + 1))]
  | .mksl _ _ _ _ => [.a (1000 * (o.dst.getD 999999 + 1))]
  | .mget _ _ _ m _ => resV (val s m)
  | .ment _ _ m _ => resV (val s m)
  | .mst m _ _ => resV (val s m)
  | op => match opC op with
    | some az => if isOff o s then [] else (match vals s az with
      | some vs => nonT ((restM own o vs).foot g s)
      | none => [])
    | none => []
def wrsO (own : Nat → Nat → Mode) (g : Ora) (o : Opn) (s : St) : List Res :=
  match o.op with
  | .alloc _ => [.b (1000 * (o.dst.getD 999999 + 1))]
  | .box _ => [.b (1000 * (o.dst.getD 999999 + 1))]
  | .mksl _ _ _ _ => [.a (1000 * (o.dst.getD 999999 + 1))]
  | .ment _ _ m _ => resV (val s m)
  | .mst m _ _ => resV (val s m)
  | op => match opC op with
    | some az => if isOff o s then [] else (match vals s az with
      | some vs => nonT (wrT ((restM own o vs).foot g s))
      | none => [])
    | none => []
def tame (own : Nat → Nat → Mode) (g : Ora) (o : Opn) (s : St) : Bool :=
  match opQ o.op with
  | some _ => true
  | none => match opC o.op with
    | none => isOff o s
    | some p => isOff o s || (vals s p).isSome
def FtOk (g : Ora) (T : List Nat) (D : Option Nat) (R W : List Res) {α : Type} (m : M α) (s : St) : Prop := ∀ p ∈ m.foot g s, (∀ n, p.1 = .t n → n ∈ T ∧ (p.2 = true → D = some n)) ∧ ((∀ n, p.1 ≠ .t n) → p.1 ∈ R ∧ (p.2 = true → p.1 ∈ W))
variable {g : Ora} {T : List Nat} {D : Option Nat} {R W : List Res} {α : Type} {s : St}
theorem FtOk.pure {x : α} : FtOk g T D R W (.pure x) s := by intro p hp; simp [M.foot] at hp
theorem FtOk.fail : FtOk g T D R W (.fail : M α) s := by intro p hp; simp [M.foot] at hp
theorem FtOk.rdT {n : Nat} {k : Option Cell → M α} (hn : n ∈ T) (h : FtOk g T D R W (k (s.get (.t n))) s) : FtOk g T D R W (.rd (.t n) k) s := by
  intro p hp
  simp only [M.foot, List.mem_cons] at hp
  rcases hp with rfl | hp
  · exact ⟨fun m hm => by cases hm; exact ⟨hn, fun h => by cases h⟩, fun h => absurd rfl (h n)⟩
  · exact h p hp
theorem FtOk.rdR {r : Res} {k : Option Cell → M α} (hr : ∀ n, r ≠ .t n) (hR : r ∈ R) (h : FtOk g T D R W (k (s.get r)) s) : FtOk g T D R W (.rd r k) s := by
  intro p hp
  simp only [M.foot, List.mem_cons] at hp
  rcases hp with rfl | hp
  · exact ⟨fun m hm => absurd hm (hr m), fun _ => ⟨hR, fun h => by cases h⟩⟩
  · exact h p hp
theorem FtOk.wrT {n : Nat} {c : Cell} {k : M α} (hD : D = some n) (hn : n ∈ T) (h : FtOk g T D R W k (s.put (.t n) c)) : FtOk g T D R W (.wr (.t n) c k) s := by
  intro p hp
  simp only [M.foot, List.mem_cons] at hp
  rcases hp with rfl | hp
  · exact ⟨fun m hm => by cases hm; exact ⟨hn, fun _ => hD⟩, fun h => absurd rfl (h n)⟩
  · exact h p hp
theorem FtOk.wrR {r : Res} {c : Cell} {k : M α} (hr : ∀ n, r ≠ .t n) (hR : r ∈ R) (hW : r ∈ W) (h : FtOk g T D R W k (s.put r c)) : FtOk g T D R W (.wr r c k) s := by
  intro p hp
  simp only [M.foot, List.mem_cons] at hp
  rcases hp with rfl | hp
  · exact ⟨fun m hm => absurd hm (hr m), fun _ => ⟨hR, fun _ => hW⟩⟩
  · exact h p hp
theorem FtOk.fin {d : Option Nat} (hd : ∀ n, d = some n → n ∈ T) (v : V) (s : St) : FtOk g T d R W (finR d v) s := by
  cases d with
  | none => exact .pure
  | some t => exact .wrT rfl (hd t rfl) .pure
theorem FtOk.get {x : Ar} {k : V → M α} (hx : ∀ n ∈ x.ts, n ∈ T) (h : ∀ v, val s x = some v → FtOk g T D R W (k v) s) : FtOk g T D R W (x.get k) s := by
  cases x with
  | t n =>
    refine .rdT (hx n (by simp [Ar.ts])) ?_
    simp only [St.get]
    cases hl : look s.tm n with
    | none => exact .fail
    | some v => exact h v (by simp [val, hl])
  | c v => exact h v rfl
  | no => exact .fail
theorem FtOk.gets : ∀ {az : List Ar} {k : List V → M α}, (∀ n ∈ tsL az, n ∈ T) → (∀ vs, vals s az = some vs → FtOk g T D R W (k vs) s) → FtOk g T D R W (getsA az k) s
  | [], k, _, h => h [] rfl
  | x :: l, k, hx, h => by
    have hx1 : ∀ n ∈ x.ts, n ∈ T := fun n hn => hx n (by simp [tsL, hn])
    have hx2 : ∀ n ∈ tsL l, n ∈ T := fun n hn => hx n (by simp [tsL, hn])
    refine .get hx1 fun v hv => ?_
    exact .gets hx2 fun vs hvs => h (v :: vs) (by simp [vals, hv, hvs, bO])
theorem FtOk.optK {x : Option V} {k : V → M α} (h : ∀ v, FtOk g T D R W (k v) s) : FtOk g T D R W (Pv.optK x k) s := by
  cases x with
  | none => exact .fail
  | some v => exact h v
theorem FtOk.rdA {a : Nat} {k : Bool → List (List V) → M α} (hR : .a a ∈ R) (h : ∀ b xs, FtOk g T D R W (k b xs) s) : FtOk g T D R W (Pv.rdA a k) s := by
  refine .rdR (fun _ h => by cases h) hR ?_
  split
  · exact h _ _
  · exact .fail
theorem FtOk.rdX {a : Nat} {k : List (List V) → M α} (hR : .a a ∈ R) (h : ∀ xs, FtOk g T D R W (k xs) s) : FtOk g T D R W (Pv.rdX a k) s := by
  refine .rdR (fun _ h => by cases h) hR ?_
  split
  · exact h _
  · exact h _
  · exact .fail
theorem FtOk.rdB {a : Nat} {k : List V → M α} (hR : .b a ∈ R) (h : ∀ xs, FtOk g T D R W (k xs) s) : FtOk g T D R W (Pv.rdB a k) s := by
  refine .rdR (fun _ h => by cases h) hR ?_
  split
  · exact h _
  · exact .fail
theorem FtOk.rdM {a : Nat} {k : MapV → M α} (hR : .b a ∈ R) (h : ∀ xs, FtOk g T D R W (k xs) s) : FtOk g T D R W (Pv.rdM a k) s := by
  refine .rdR (fun _ h => by cases h) hR ?_
  split
  · exact h _
  · exact .fail
theorem FtOk.chk {b : Bool} {k : M α} (h : FtOk g T D R W k s) : FtOk g T D R W (Pv.chk b k) s := by
  unfold Pv.chk
  split
  · exact h
  · exact .fail
theorem FtOk.asB {v : V} {k : Bool → M α} (h : ∀ b, FtOk g T D R W (k b) s) : FtOk g T D R W (Pv.asB v k) s := by
  unfold Pv.asB
  split
  · exact h _
  · exact .fail
theorem FtOk.asI {v : V} {k : Int → M α} (h : ∀ b, FtOk g T D R W (k b) s) : FtOk g T D R W (Pv.asI v k) s := by
  unfold Pv.asI
  split
  · exact h _
  · exact .fail
theorem FtOk.ite {c : Prop} [Decidable c] {k l : M α} (h : FtOk g T D R W k s) (h' : FtOk g T D R W l s) : FtOk g T D R W (if c then k else l) s := by
  split
  · exact h
  · exact h'
theorem FtOk.natOf {v : V} {k : Nat → M α} (h : ∀ b, FtOk g T D R W (k b) s) : FtOk g T D R W (Pv.natOf v k) s := .asI fun n => .ite (h _) .fail
theorem FtOk.optN {x : Option Ar} {d : Nat} {k : Nat → M α} (hx : ∀ n ∈ (match x with | some a => a.ts | none => []), n ∈ T) (h : ∀ b, FtOk g T D R W (k b) s) : FtOk g T D R W (Pv.optN x d k) s := by
  cases x with
  | none => exact h _
  | some a => exact .get hx fun v _ => .natOf h
theorem foot_quiet {own : Nat → Nat → Mode} {o : Opn} {l : List Nat} (ho : opQ o.op = some l) (hl : ∀ n ∈ l, n ∈ T) {k : V → M Unit} (hk : ∀ R W v s, FtOk g T D R W (k v) s) : FtOk g T D (rdsO own g o s) (wrsO own g o s) (sem own (o.dst.getD 999999) o.op k) s := by
  obtain ⟨dst, op, gd⟩ := o
  simp only at ho
  have hk2 := hk
  replace hk := fun v => hk (rdsO own g ⟨dst, op, gd⟩ s) (wrsO own g ⟨dst, op, gd⟩ s) v s
  cases op with
  | mv x => injection ho with ho; subst ho; exact .get hl fun v _ => hk v
  | pick c a b =>
    injection ho with ho; subst ho
    refine .get (fun n hn => hl n (by simp [hn])) fun v _ => .asB fun t => ?_
    cases t
    · exact .get (fun n hn => hl n (by simp [hn])) fun v _ => hk v
    · exact .get (fun n hn => hl n (by simp [hn])) fun v _ => hk v
  | bin op x y =>
    injection ho with ho; subst ho
    exact .get (fun n hn => hl n (by simp [hn])) fun v _ => .get (fun n hn => hl n (by simp [hn])) fun w _ => .optK hk
  | un u x =>
    cases u with
    | not => injection ho with ho; subst ho; exact .get hl fun v _ => .asB fun b => hk _
    | neg =>
      injection ho with ho; subst ho
      refine .get hl fun v _ => ?_
      split
      · exact hk _
      · exact .fail
    | xor => cases ho
    | plus => cases ho
  | conv c x => injection ho with ho; subst ho; exact .get hl fun v _ => .asI fun n => hk _
  | load n ag p =>
    injection ho with ho; subst ho
    refine .get hl fun v hv => ?_
    cases v with
    | bx b off =>
      refine .rdB (by simp [rdsO, hv, resV]) fun cs => ?_
      split
      · exact .ite (hk _) .fail
      · exact .optK hk
    | ep a i off =>
      refine .rdA (by simp [rdsO, hv, resV]) fun fz xs => ?_
      split
      · exact .optK hk
      · exact .fail
    | fp xs i off =>
      show FtOk _ _ _ _ _ (match xs[i]? with | some cs => _ | none => _) _
      split
      · exact .optK hk
      · exact .fail
    | sc _ => exact .fail
    | ls _ _ => exact .fail
    | rf _ _ _ => exact .fail
    | ag _ => exact .fail
    | tu _ => exact .fail
    | fn _ _ => exact .fail
    | mp _ => exact .fail
  | fld j p =>
    injection ho with ho; subst ho
    refine .get hl fun v hv => ?_
    split
    · exact hk _
    · exact hk _
    · exact hk _
    · exact .fail
  | fget off n ag x =>
    injection ho with ho; subst ho
    refine .get hl fun v hv => ?_
    split
    · split
      · exact .ite (hk _) .fail
      · exact .optK hk
    · exact .fail
  | idx sz x i =>
    injection ho with ho; subst ho
    refine .get (fun n hn => hl n (by simp [hn])) fun v hv => .get (fun n hn => hl n (by simp [hn])) fun w _ => .asI fun n => ?_
    split
    · exact .rdX (by simp [rdsO, hv, resV]) fun xs => .ite (.chk (hk _)) .fail
    · exact .ite (.chk (hk _)) .fail
    · exact .fail
  | len q x =>
    injection ho with ho; subst ho
    refine .get hl fun v hv => ?_
    split
    · exact hk _
    · exact hk _
    · exact hk _
    · exact .rdM (by simp [rdsO, hv, resV]) fun es => hk _
    · exact .fail
  | ext j x =>
    injection ho with ho; subst ho
    refine .get hl fun v hv => ?_
    split
    · exact .optK hk
    · exact .fail
  | slc sz x lo hi mx =>
    injection ho with ho; subst ho
    refine .get (fun n hn => hl n (by simp [hn])) fun v hv => ?_
    split
    · refine .rdA (by simp [rdsO, hv, resV]) fun _ xs => .optN (fun n hn => hl n ?_) fun _ => .optN (fun n hn => hl n ?_) fun _ => .optN (fun n hn => hl n ?_) fun _ => .ite (.chk (hk _)) .fail
      · simp only [List.mem_append]; exact .inl (.inl (.inr hn))
      · simp only [List.mem_append]; exact .inl (.inr hn)
      · simp only [List.mem_append]; exact .inr hn
    · refine .optN (fun n hn => hl n ?_) fun _ => .optN (fun n hn => hl n ?_) fun _ => .optN (fun n hn => hl n ?_) fun _ => .ite ?_ .fail
      · simp only [List.mem_append]; exact .inl (.inl (.inr hn))
      · simp only [List.mem_append]; exact .inl (.inr hn)
      · simp only [List.mem_append]; exact .inr hn
      · split
        · exact hk _
        · exact .chk (hk _)
    · exact .fail
  | alloc zs =>
    refine .rdR (fun _ h => by cases h) (by simp [rdsO]) ?_
    split
    · exact .wrR (fun _ h => by cases h) (by simp [rdsO]) (by simp [wrsO]) (hk2 _ _ _ _)
    · exact .fail
  | box x =>
    injection ho with ho; subst ho
    refine .get hl fun v hv => .rdR (fun _ h => by cases h) (by simp [rdsO]) ?_
    split
    · exact .wrR (fun _ h => by cases h) (by simp [rdsO]) (by simp [wrsO]) (hk2 _ _ _ _)
    · exact .fail
  | beq neg x y =>
    injection ho with ho; subst ho
    exact .get (fun n hn => hl n (by simp [hn])) fun v _ => .get (fun n hn => hl n (by simp [hn])) fun w _ => .asB fun _ => .asB fun _ => hk _
  | b2s x =>
    injection ho with ho; subst ho
    refine .get hl fun v hv => ?_
    split
    · split
      · exact hk _
      · exact .fail
    · refine .rdA (by simp [rdsO, hv, resV]) fun fz xs => .chk ?_
      dsimp only
      split
      · exact hk _
      · exact .fail
    · exact .fail
  | nilc x =>
    injection ho with ho; subst ho
    refine .get hl fun v _ => ?_
    split
    · exact hk _
    · exact hk _
    · exact hk _
    · exact hk _
    · exact .fail
  | sidx x y =>
    injection ho with ho; subst ho
    refine .get (fun n hn => hl n (by simp [hn])) fun v _ => .get (fun n hn => hl n (by simp [hn])) fun w _ => ?_
    unfold asS
    split
    · refine .asI fun n => .ite ?_ .fail
      split
      · exact hk _
      · exact .fail
    · exact .fail
  | sslc x lo hi =>
    injection ho with ho; subst ho
    refine .get (fun n hn => hl n (by simp [hn])) fun v _ => ?_
    unfold asS
    split
    · exact .optN (fun n hn => hl n (by simp only [List.mem_append]; exact .inl (.inr hn))) fun _ => .optN (fun n hn => hl n (by simp only [List.mem_append]; exact .inr hn)) fun _ => .ite (hk _) .fail
    · exact .fail
  | build zs ps =>
    injection ho with ho; subst ho
    exact .gets hl fun vs _ => .optK hk
  | mkfn f az =>
    injection ho with ho; subst ho
    exact .gets hl fun vs _ => hk _
  | mx x y =>
    injection ho with ho; subst ho
    refine .get (fun n hn => hl n (by simp [hn])) fun v _ => .get (fun n hn => hl n (by simp [hn])) fun w _ => ?_
    split
    · exact hk _
    · exact .fail
  | mn x y =>
    injection ho with ho; subst ho
    refine .get (fun n hn => hl n (by simp [hn])) fun v _ => .get (fun n hn => hl n (by simp [hn])) fun w _ => ?_
    split
    · exact hk _
    · exact .fail
  | mksl zs bytes x y =>
    injection ho with ho; subst ho
    refine .get (fun n hn => hl n (by simp [hn])) fun v _ => .get (fun n hn => hl n (by simp [hn])) fun w _ => .natOf fun _ => .natOf fun _ => .ite ?_ .fail
    refine .rdR (fun _ h => by cases h) (by simp [rdsO]) ?_
    split
    · exact .wrR (fun _ h => by cases h) (by simp [rdsO]) (by simp [wrsO]) (hk2 _ _ _ _)
    · exact .fail
  | mget str z ok m key =>
    injection ho with ho; subst ho
    refine .get (fun n hn => hl n (by simp [hn])) fun v hv => .get (fun n hn => hl n (by simp [hn])) fun w _ => ?_
    split
    · refine .rdM (by simp [rdsO, hv, resV]) fun es => .chk ?_
      split
      · exact hk _
      · exact hk _
      · exact .fail
    · exact .fail
  | ment str z m key =>
    injection ho with ho; subst ho
    refine .get (fun n hn => hl n (by simp [hn])) fun v hv => .get (fun n hn => hl n (by simp [hn])) fun w _ => ?_
    split
    · refine .rdM (by simp [rdsO, hv, resV]) fun es => .chk ?_
      split
      · exact .wrR (fun _ h => by cases h) (by simp [rdsO, hv, resV]) (by simp [wrsO, hv, resV]) (hk2 _ _ _ _)
      · exact .wrR (fun _ h => by cases h) (by simp [rdsO, hv, resV]) (by simp [wrsO, hv, resV]) (hk2 _ _ _ _)
      · exact .fail
    · exact .fail
  | mst m t x =>
    injection ho with ho; subst ho
    refine .get (fun n hn => hl n (by simp [hn])) fun v hv => .get (fun n hn => hl n (by simp [hn])) fun w _ => .get (fun n hn => hl n (by simp [hn])) fun y _ => ?_
    split
    · refine .rdM (by simp [rdsO, hv, resV]) fun es => .asI fun n => .chk ?_
      split
      · exact .wrR (fun _ h => by cases h) (by simp [rdsO, hv, resV]) (by simp [wrsO, hv, resV]) (hk2 _ _ _ _)
      · exact .fail
    · exact .fail
  | _ => cases ho
def TOk (g : Ora) (T : List Nat) (D : Option Nat) {α : Type} (m : M α) (s : St) : Prop := ∀ p ∈ m.foot g s, ∀ n, p.1 = .t n → n ∈ T ∧ (p.2 = true → D = some n)
theorem TOk.rd {r : Res} {k : Option Cell → M α} (hr : ∀ n, r ≠ .t n) (h : TOk g T D (k (s.get r)) s) : TOk g T D (.rd r k) s := by
  intro p hp
  simp only [M.foot, List.mem_cons] at hp
  rcases hp with rfl | hp
  · exact fun n hn => absurd hn (hr n)
  · exact h p hp
theorem TOk.wr {r : Res} {c : Cell} {k : M α} (hr : ∀ n, r ≠ .t n) (h : TOk g T D k (s.put r c)) : TOk g T D (.wr r c k) s := by
  intro p hp
  simp only [M.foot, List.mem_cons] at hp
  rcases hp with rfl | hp
  · exact fun n hn => absurd hn (hr n)
  · exact h p hp
theorem TOk.fail : TOk g T D (.fail : M α) s := by intro p hp; simp [M.foot] at hp
theorem TOk.newR {r : Res} {k : M α} (hr : ∀ n, r ≠ .t n) (h : TOk g T D k s) : TOk g T D (Pv.newR r k) s := by
  refine .rd hr ?_
  split
  · exact h
  · exact .fail
theorem TOk.newBs : ∀ (l : List Nat) {k : M α} {s : St}, (∀ s, TOk g T D k s) → TOk g T D (Pv.newBs l k) s
  | [], _, _, h => h _
  | b :: l, k, s, h => .newR (fun _ h => by cases h) (.wr (fun _ h => by cases h) (.newBs l h))
theorem TOk.wrAs : ∀ (l : List (Nat × List (List V))) {k : M α} {s : St}, (∀ s, TOk g T D k s) → TOk g T D (Pv.wrAs l k) s
  | [], _, _, h => h _
  | (n, xs) :: l, k, s, h => .newR (fun _ h => by cases h) (.wr (fun _ h => by cases h) (.wrAs l h))
theorem TOk.back : ∀ (bs : List Nat) (cs : List Cell) (n : Nat) {k : M α} {s : St}, (∀ s, TOk g T D k s) → TOk g T D (Pv.back bs cs n k) s
  | [], [], _, _, _, h => h _
  | b :: bs, .b vs :: cs, n, k, s, h => .wrAs _ fun s => .wr (fun _ h => by cases h) (.back bs cs _ h)
  | b :: bs, .m es :: cs, n, k, s, h => .wr (fun _ h => by cases h) (.back bs cs _ h)
  | [], _ :: _, _, _, _, _ => .fail
  | _ :: _, [], _, _, _, _ => .fail
  | _ :: _, .v _ :: _, _, _, _, _ => .fail
  | _ :: _, .a _ _ :: _, _, _, _, _ => .fail
  | _ :: _, .dead :: _, _, _, _, _ => .fail
  | _ :: _, .h _ :: _, _, _, _, _ => .fail
theorem TOk.chk {b : Bool} {k : M α} (h : TOk g T D k s) : TOk g T D (Pv.chk b k) s := by
  unfold Pv.chk
  split
  · exact h
  · exact .fail
theorem TOk.rdA {n : Nat} {k : Bool → List (List V) → M α} (h : ∀ b xs, TOk g T D (k b xs) s) : TOk g T D (Pv.rdA n k) s := by
  refine .rd (fun _ h => by cases h) ?_
  split
  · exact h _ _
  · exact .fail
theorem TOk.fillC : ∀ (l : List V) {k : List V → M α} {s : St}, (∀ v s, TOk g T D (k v) s) → TOk g T D (Pv.fillC l k) s
  | [], _, _, h => h _ _
  | v :: l, k, s, h => by
    unfold Pv.fillC
    split
    · exact .rdA fun _ _ => .chk (.wr (fun _ h => by cases h) (.fillC l fun _ _ => h _ _))
    · exact .fillC l fun _ _ => h _ _
theorem TOk.fillX : ∀ (l : List (List V)) {k : List (List V) → M α} {s : St}, (∀ v s, TOk g T D (k v) s) → TOk g T D (Pv.fillX l k) s
  | [], _, _, h => h _ _
  | cs :: l, k, s, h => .fillC cs fun _ _ => .fillX l fun _ _ => h _ _
theorem TOk.fillA : ∀ (n : Nat) (l : List Nat) {k : M α} {s : St}, (∀ s, TOk g T D k s) → TOk g T D (Pv.fillA n l k) s
  | 0, _, _, _, h => h _
  | _ + 1, [], _, _, h => h _
  | n + 1, a :: l, k, s, h => by
    refine .rd (fun _ h => by cases h) ?_
    split
    · refine .fillA n _ fun s => .rd (fun _ h => by cases h) ?_
      split
      · exact .wr (fun _ h => by cases h) (.fillX _ fun _ _ => .wr (fun _ h => by cases h) (.fillA n l h))
      · exact .fail
    · exact .fillA n l h
theorem TOk.fillB : ∀ (n : Nat) (l done : List Nat) {k : M α} {s : St}, (∀ s, TOk g T D k s) → TOk g T D (Pv.fillB n l done k) s
  | 0, _, _, _, _, h => h _
  | _ + 1, [], _, _, _, h => h _
  | n + 1, b :: l, done, k, s, h => by
    unfold Pv.fillB
    split
    · exact .fillB n l done h
    · refine .rd (fun _ h => by cases h) ?_
      split
      · exact .fillA 40 _ fun s => .fillB n _ _ h
      · exact .fillB n _ _ h
theorem TOk.fillV (vs : List V) {k : M α} {s : St} (h : ∀ s, TOk g T D k s) : TOk g T D (Pv.fillV vs k) s := .fillA 40 _ fun _ => .fillB 20 _ _ h
theorem TOk.preL : ∀ (l : List V) {k : M α} {s : St}, (∀ s, TOk g T D k s) → TOk g T D (Pv.preL l k) s
  | [], _, _, h => h _
  | v :: l, k, s, h => by
    unfold Pv.preL
    split
    · exact .rdA fun _ _ => .chk (.preL l h)
    · exact .preL l h
    · exact .preL l h
    · exact .fail
mutual
theorem TOk.exp (o : Bool) : ∀ (v : V) {k : V → List Nat → M α} {s : St}, (∀ v l s, TOk g T D (k v l) s) → TOk g T D (Pv.exp o v k) s
  | .sc _, _, _, h => h _ _ _
  | .ls _ _, _, _, h => h _ _ _
  | .bx _ _, _, _, h => h _ _ _
  | .mp _, _, _, h => h _ _ _
  | .ep _ _ _, _, _, _ => .fail
  | .fp _ _ _, _, _, _ => .fail
  | .fn _ _, _, _, h => .chk (h _ _ _)
  | .ag cs, k, s, h => .expL o cs fun _ _ _ => h _ _ _
  | .tu cs, k, s, h => .expL o cs fun _ _ _ => h _ _ _
  | .rf a off len, k, s, h => by
    refine .rdA fun fz xs => .chk ?_
    dsimp only
    split
    · exact .rdA fun _ _ => .chk (.wr (fun _ h => by cases h) (h _ _ _))
    · exact h _ _ _
theorem TOk.expL (o : Bool) : ∀ (l : List V) {k : List V → List Nat → M α} {s : St}, (∀ v l s, TOk g T D (k v l) s) → TOk g T D (Pv.expL o l k) s
  | [], _, _, h => h _ _ _
  | v :: l, k, s, h => .exp o v fun _ _ _ => .expL o l fun _ _ _ => h _ _ _
end
theorem TOk.expArgs (o : Nat → Mode) : ∀ (l : List V) (i : Nat) {k : List V → List Nat → M α} {s : St}, (∀ v l s, TOk g T D (k v l) s) → TOk g T D (Pv.expArgs o i l k) s
  | [], _, _, _, h => h _ _ _
  | v :: l, i, k, s, h => .exp _ v fun _ _ _ => .expArgs o l (i + 1) fun _ _ _ => h _ _ _
theorem TOk.coll : ∀ (n : Nat) (todo done : List Nat) (cs : List Cell) {k : List Nat → List Cell → M α} {s : St}, (∀ b c s, TOk g T D (k b c) s) → TOk g T D (Pv.coll n todo done cs k) s
  | 0, _, _, _, _, _, _ => .fail
  | _ + 1, [], _, _, _, _, h => h _ _ _
  | n + 1, b :: todo, done, cs, k, s, h => by
    unfold Pv.coll
    split
    · exact .coll n todo done cs h
    · refine .rd (fun _ h => by cases h) ?_
      split
      · exact .expL true _ fun _ _ _ => .wr (fun _ h => by cases h) (.coll n _ _ _ h)
      · exact .wr (fun _ h => by cases h) (.coll n _ _ _ h)
      · exact .fail
theorem TOk.seeA : ∀ (l : List Nat) {k : M α} {s : St}, (∀ s, TOk g T D k s) → TOk g T D (Pv.seeA l k) s
  | [], _, _, h => h _
  | _ :: l, _, _, h => .rdA fun _ _ => .seeA l h
theorem TOk.freezeA : ∀ (l : List Nat) {k : M α} {s : St}, (∀ s, TOk g T D k s) → TOk g T D (Pv.freezeA l k) s
  | [], _, _, h => h _
  | _ :: l, _, _, h => .rdA fun _ _ => .wr (fun _ h => by cases h) (.freezeA l h)
theorem TOk.revive : ∀ (l : List ((V × V) × V)) {k : M α} {s : St}, (∀ s, TOk g T D k s) → TOk g T D (Pv.revive l k) s
  | [], _, _, h => h _
  | p :: l, k, s, h => by
    unfold Pv.revive
    split
    · exact .rdA fun _ _ => .chk (.wr (fun _ h => by cases h) (.wr (fun _ h => by cases h) (.revive l h)))
    · exact .revive l h
    · exact .revive l h
    · exact .fail
theorem TOk.ask {f : Nat} {as' : List V} {bs : List Cell} {k : V → List Cell → M α} (h : ∀ v c, TOk g T D (k v c) s) : TOk g T D (.ask f as' bs k) s := by
  intro p hp
  simp only [M.foot] at hp
  split at hp
  · exact h _ _ p hp
  · cases hp
theorem nonT_mem : ∀ {l : List (Res × Bool)} {p : Res × Bool}, p ∈ l → (∀ n, p.1 ≠ .t n) → p.1 ∈ nonT l
  | q :: l, p, h, hn => by
    obtain ⟨r, w⟩ := q
    rcases List.mem_cons.1 h with rfl | h
    · cases r with
      | t n => exact absurd rfl (hn n)
      | a n => simp [nonT]
      | b n => simp [nonT]
    · have := nonT_mem h hn
      cases r with
      | t n => simpa [nonT] using this
      | a n => simp [nonT, this]
      | b n => simp [nonT, this]
theorem wrT_mem : ∀ {l : List (Res × Bool)} {p : Res × Bool}, p ∈ l → p.2 = true → p ∈ wrT l
  | q :: l, p, h, hn => by
    unfold wrT
    rcases List.mem_cons.1 h with rfl | h
    · rw [if_pos hn]; exact List.mem_cons_self
    · split
      · exact List.mem_cons_of_mem _ (wrT_mem h hn)
      · exact wrT_mem h hn
theorem TOk.callM {own : Nat → Nat → Mode} {d f : Nat} {vs : List V} {k : V → M α} (h : ∀ v s, TOk g T D (k v) s) (s : St) : TOk g T D (Pv.callM own d f vs k) s :=
  .preL _ fun s => .expArgs _ _ _ fun _ _ s => .coll _ _ _ _ fun _ _ s => .seeA _ fun s => .ask fun v c => .freezeA _ fun s => .newBs _ fun s => .wrAs _ fun s => .back _ _ _ fun s => .revive _ fun s => h _ _
theorem TOk.ite {c : Prop} [Decidable c] {k l : M α} (h : TOk g T D k s) (h' : TOk g T D l s) : TOk g T D (if c then k else l) s := by
  split
  · exact h
  · exact h'
theorem TOk.rdB {n : Nat} {k : List V → M α} (h : ∀ xs, TOk g T D (k xs) s) : TOk g T D (Pv.rdB n k) s := by
  refine .rd (fun _ h => by cases h) ?_
  split
  · exact h _
  · exact .fail
theorem TOk.cloL {vs : List V} {k : List V → M α} (h : ∀ v s, TOk g T D (k v) s) (s : St) : TOk g T D (Pv.cloL vs k) s := .expL true _ fun _ _ _ => .chk (h _ _)
theorem TOk.cloLs : ∀ (l : List (List V)) {k : List (List V) → M α} {s : St}, (∀ v s, TOk g T D (k v) s) → TOk g T D (Pv.cloLs l k) s
  | [], _, _, h => h _ _
  | vs :: l, _, _, h => .cloL (fun _ _ => .cloLs l fun _ _ => h _ _) _
theorem TOk.rowY {ptr : Bool} {v : V} {k : List (List V) → M α} (h : ∀ v s, TOk g T D (k v) s) (s : St) : TOk g T D (Pv.rowY ptr v k) s := by
  unfold Pv.rowY
  split
  · exact h _ _
  · refine .rdA fun fz xs => .chk ?_
    dsimp only
    exact .ite (h _ _) (.ite (.wr (fun _ h => by cases h) (h _ _)) (.chk (h _ _)))
  · exact .fail
theorem TOk.rowX {n : Nat} {ne : Bool} {v : V} {k : List (List V) → M α} (h : ∀ v s, TOk g T D (k v) s) (s : St) : TOk g T D (Pv.rowX n ne v k) s := by
  unfold Pv.rowX
  split
  · exact h _ _
  · exact .rdA fun fz xs => .ite .fail (.chk (.wr (fun _ h => by cases h) (h _ _)))
  · exact .fail
theorem TOk.fin {d : Option Nat} (hd : ∀ n, d = some n → n ∈ T) (v : V) (s : St) : TOk g T d (finR d v) s := by
  intro p hp n hn
  exact ((FtOk.fin (R := []) (W := []) hd _ s) p hp).1 n hn
theorem TOk.optK {x : Option V} {k : V → M α} (h : ∀ v, TOk g T D (k v) s) : TOk g T D (Pv.optK x k) s := by
  cases x with
  | none => exact .fail
  | some v => exact h v
theorem TOk.takeM {n : Nat} {ag : Bool} {a : Nat} {xs : List (List V)} {i off d : Nat} {k : V → M α} (h : ∀ v s, TOk g T D (k v) s) (s : St) : TOk g T D (Pv.takeM n ag a xs i off d k) s := by
  unfold Pv.takeM
  split
  · exact .chk (.wr (fun _ h => by cases h) (.wrAs _ fun s => .wr (fun _ h => by cases h) (h _ _)))
  · exact .fail
theorem TOk.rdM {n : Nat} {k : MapV → M α} (h : ∀ xs, TOk g T D (k xs) s) : TOk g T D (Pv.rdM n k) s := by
  refine .rd (fun _ h => by cases h) ?_
  split
  · exact h _
  · exact .fail
theorem TOk.rest {own : Nat → Nat → Mode} {o : Opn} (hd : ∀ n, o.dst = some n → n ∈ T) (vs : List V) (s : St) : TOk g T o.dst (restM own o vs) s := by
  unfold restM
  dsimp only
  split
  · exact .fillV _ fun _ => .callM (fun _ _ => .fin hd _ _) _
  · split
    · refine .rd (fun _ h => by cases h) ?_
      split
      · refine .ite ?_ (.takeM (fun _ _ => .fin hd _ _) _)
        split
        · exact .optK fun _ => .fin hd _ _
        · exact .fail
      · exact .takeM (fun _ _ => .fin hd _ _) _
      · exact .fail
    · exact .rdB fun cs => .ite (.ite (.fin hd _ _) .fail) (.optK fun _ => .fin hd _ _)
    · split
      · exact .optK fun _ => .fin hd _ _
      · exact .fail
    · exact .fail
  · unfold asS
    split
    · exact .rowX (fun _ _ => .chk (.newR (fun _ h => by cases h) (.wr (fun _ h => by cases h) (.fin hd _ _)))) _
    · exact .fail
  · split
    · refine .rdM fun es => .chk ?_
      split
      · exact .wr (fun _ h => by cases h) (.fin hd _ _)
      · exact .wr (fun _ h => by cases h) (.fin hd _ _)
      · exact .fail
    · exact .fail
  · split
    · exact .rdA fun fz xs => .ite .fail (.ite (.chk (.wr (fun _ h => by cases h) (.fin hd _ _))) .fail)
    · exact .fin hd _ _
    · exact .fail
  · refine .ite (.fin hd _ _) (.cloLs _ fun _ _ => .chk (.newR (fun _ h => by cases h) (.wr (fun _ h => by cases h) (.fin hd _ _))))
  · exact .rowY (fun _ _ => .rowX (fun _ _ => .chk (.chk (.newR (fun _ h => by cases h) (.wr (fun _ h => by cases h) (.fin hd _ _))))) _) _
  · refine .chk ?_
    split
    · exact .rdB fun _ => .ite (.wr (fun _ h => by cases h) (.fin hd _ _)) .fail
    · refine .cloL (fun _ _ => .rd (fun _ h => by cases h) ?_) _
      split
      · refine .ite .fail ?_
        split
        · exact .ite (.wr (fun _ h => by cases h) (.fin hd _ _)) .fail
        · exact .fail
      · split
        · exact .ite (.wr (fun _ h => by cases h) (.fin hd _ _)) .fail
        · exact .fail
      · exact .fail
    · exact .fail
  · split
    · exact .fillV _ fun _ => .callM (fun _ _ => .fin hd _ _) _
    · exact .fail
  · refine .rowY (fun _ _ => ?_) _
    split
    · exact .rdA fun _ _ => .ite .fail (.ite (.chk (.wr (fun _ h => by cases h) (.fin hd _ _))) .fail)
    · exact .fail
  · exact .fail
theorem foot_rest {own : Nat → Nat → Mode} {o : Opn} {vs : List V} (hd : ∀ n, o.dst = some n → n ∈ T) (s : St) : FtOk g T o.dst (nonT ((restM own o vs).foot g s)) (nonT (wrT ((restM own o vs).foot g s))) (restM own o vs) s := by
  have hT : TOk g T o.dst (restM own o vs) s := .rest hd vs s
  intro p hp
  exact ⟨hT p hp, fun hn => ⟨nonT_mem hp hn, fun hw => nonT_mem (wrT_mem hp hw) hn⟩⟩
theorem sem_rest {own : Nat → Nat → Mode} {o : Opn} {az : List Ar} (h : opC o.op = some az) : sem own (o.dst.getD 999999) o.op (finR o.dst) = getsA az (restM own o) := by
  obtain ⟨dst, op, gd⟩ := o
  cases op with
  | call f l => injection h with h; subst h; rfl
  | bsl zs n ps => injection h with h; subst h; rfl
  | app a b c x y => injection h with h; subst h; rfl
  | store n x y => injection h with h; subst h; rfl
  | callv f l => injection h with h; subst h; rfl
  | copy n x y => injection h with h; subst h; rfl
  | take n ag p => injection h with h; subst h; rfl
  | apps x y => injection h with h; subst h; rfl
  | mset s m k x => injection h with h; subst h; rfl
  | clear z x => injection h with h; subst h; rfl
  | _ => cases h
theorem rds_rest {own : Nat → Nat → Mode} {o : Opn} {az : List Ar} {vs : List V} (h : opC o.op = some az) (hv : vals s az = some vs) (hoff : isOff o s = false) : rdsO own g o s = nonT ((restM own o vs).foot g s) ∧ wrsO own g o s = nonT (wrT ((restM own o vs).foot g s)) := by
  unfold rdsO wrsO
  cases ho : o.op <;> rw [ho] at h <;> first | (cases h; done) | (dsimp only; rw [h]; dsimp only; rw [hoff, hv]; exact ⟨rfl, rfl⟩)
theorem tame_foot {own : Nat → Nat → Mode} {o : Opn} (h : tame own g o s = true) : FtOk g (temps o) o.dst (rdsO own g o s) (wrsO own g o s) (stepM own o) s := by
  have hd : ∀ n, o.dst = some n → n ∈ temps o := by intro n hn; simp [temps, hn]
  have key : ∀ s : St, isOff o s = false → (opQ o.op).isSome = true ∨ (∃ az vs, opC o.op = some az ∧ vals s az = some vs) → FtOk g (temps o) o.dst (rdsO own g o s) (wrsO own g o s) (sem own (o.dst.getD 999999) o.op (finR o.dst)) s := by
    intro s hoff hs
    rcases hs with hs | ⟨az, vs, h1, h2⟩
    · obtain ⟨l, hl⟩ := Option.isSome_iff_exists.1 hs
      exact foot_quiet hl (fun n hn => by simp [temps, hl, hn]) (fun _ _ v s => .fin hd v _)
    · rw [sem_rest h1, (rds_rest h1 h2 hoff).1, (rds_rest h1 h2 hoff).2]
      have hT : opQ o.op = none := by cases ho : o.op <;> rw [ho] at h1 <;> first | rfl | (cases h1; done)
      refine .gets (fun n hn => by simp [temps, hT, h1, hn]) ?_
      intro ws hw
      rw [h2] at hw; injection hw with hw; subst hw
      exact foot_rest hd s
  have hon : isOff o s = false → (opQ o.op).isSome = true ∨ (∃ az vs, opC o.op = some az ∧ vals s az = some vs) := by
    intro hf
    unfold tame at h
    split at h
    · rename_i l hl; exact .inl (by rw [hl]; rfl)
    · split at h
      · rw [hf] at h; cases h
      · rename_i p hp
        rw [hf, Bool.false_or] at h
        obtain ⟨vs, hvs⟩ := Option.isSome_iff_exists.1 h
        exact .inr ⟨p, vs, hp, hvs⟩
  unfold stepM
  cases hg : o.guard with
  | none => exact key s (by simp [isOff, hg]) (hon (by simp [isOff, hg]))
  | some p =>
    obtain ⟨j, want⟩ := p
    refine .rdT (by simp [temps, hg]) ?_
    simp only [St.get]
    cases hl : look s.tm j with
    | none => exact .fail
    | some v =>
      cases v with
      | sc u =>
        cases u with
        | bool b =>
          simp only [Option.map_some]
          by_cases hb : b = want
          · rw [if_pos hb]
            exact key s (by simp [isOff, hg, hl, hb]) (hon (by simp [isOff, hg, hl, hb]))
          · rw [if_neg hb]
            exact .fin hd _ _
        | _ => exact .fail
      | tu vs =>
        cases vs with
        | nil => exact .fin hd _ _
        | cons _ _ => exact .fail
      | _ => exact .fail
/-- the run, and what the tame operations touch -/
abbrev Ft := Option (List Res × List Res × List Res)
/-- what a call of a function value writes, but for what is as it was -/
noncomputable def effW (o : IOp) (W : List Res) (s s' : St) : List Res := match o with | .callv _ _ => W.filter (fun r => !sameR s s' r) | _ => W
noncomputable def ftO (own : Nat → Nat → Mode) (g : Ora) (o : Opn) (s s' : St) : Ft := if tame own g o s then some (rdsO own g o s, wrsO own g o s, effW o.op (wrsO own g o s) s s') else none
noncomputable def runG (own : Nat → Nat → Mode) (g : Ora) : List Ft → List Opn → St → Option (St × List Ft)
  | acc, [], s => some (s, acc.reverse)
  | acc, o :: l, s => bO (runOps own g [o] s) fun s' => runG own g (ftO own g o s s' :: acc) l s'
def isoT (a b : Opn) : Bool := match a.dst with | some d => !(temps b).contains d | none => true
def iso (a b : Option Opn) : Bool := match a, b with | some a, some b => isoT a b && isoT b a | _, _ => false
def apart (a b : List Res) : Bool := a.all fun x => b.all fun y => !decide (x = y)
def isoR (a b : Option Ft) : Bool := match a, b with | some (some a), some (some b) => (apart a.2.1 b.1 && apart b.2.1 a.1) || (apart a.2.2 b.1 && apart b.2.2 a.1) | _, _ => false
def sChk (ops : List Opn) (tm : List Ft) (conf : List (Nat × Nat)) : Bool := conf.all fun q => isoR tm[q.1]? tm[q.2]? && iso ops[q.1]? ops[q.2]?
theorem runG_ok {own : Nat → Nat → Mode} : ∀ (ops : List Opn) (acc : List Ft) (s : St) (r : St × List Ft), runG own g acc ops s = some r →
    runOps own g ops s = some r.1 ∧ ∃ tm, r.2 = acc.reverse ++ tm ∧ tm.length = ops.length ∧ ∀ (i : Nat) (o : Opn) (R W W' : List Res), ops[i]? = some o → tm[i]? = some (some (R, W, W')) → ∀ p ∈ (feet own g ops s).getD i [], (∀ n, p.1 = .t n → n ∈ temps o ∧ (p.2 = true → o.dst = some n)) ∧ ((∀ n, p.1 ≠ .t n) → p.1 ∈ R ∧ (p.2 = true → p.1 ∈ W ∧ p.1 ∈ W'))
  | [], acc, s, r, h => by
    simp only [runG, Option.some.injEq] at h
    subst h
    exact ⟨rfl, [], by simp, rfl, by simp⟩
  | o :: l, acc, s, r, h => by
    simp only [runG, runOps, bO_eq] at h
    obtain ⟨s1, ⟨x, h1, h2⟩, h3⟩ := h
    injection h2 with h2
    subst h2
    obtain ⟨e1, tm, e2, e3, e4⟩ := runG_ok l _ _ r h3
    refine ⟨by simp only [runOps, bO_eq]; exact ⟨x, h1, e1⟩, ftO own g o s x.2 :: tm, by rw [e2]; simp, by simp [e3], ?_⟩
    intro i o' R W W' ho ht
    cases i with
    | zero =>
      simp only [List.getElem?_cons_zero, Option.some.injEq] at ho ht
      subst ho
      simp only [feet, h1, List.getD_cons_zero]
      unfold ftO at ht
      split at ht
      · rename_i htm
        injection ht with ht; injection ht with ht1 ht2; injection ht2 with ht2 ht3
        subst ht1; subst ht2; subst ht3
        intro p hp
        obtain ⟨⟨q, b⟩, h5, rfl⟩ := List.mem_map.1 hp
        have h6 := tame_foot htm _ h5
        refine ⟨fun n hn => ⟨(h6.1 n hn).1, fun hb => ?_⟩, fun hn => ⟨(h6.2 hn).1, fun hb => ?_⟩⟩
        · simp only [Bool.and_eq_true] at hb
          exact (h6.1 n hn).2 hb.1
        · simp only [Bool.and_eq_true] at hb
          have h7 := (h6.2 hn).2 hb.1
          refine ⟨h7, ?_⟩
          unfold effW
          split
          · exact List.mem_filter.2 ⟨h7, hb.2⟩
          · exact h7
      · cases ht
    | succ i =>
      simp only [List.getElem?_cons_succ] at ho ht
      simp only [feet, h1, List.getD_cons_succ]
      exact e4 i o' R W W' ho ht
theorem runG_some {own : Nat → Nat → Mode} : ∀ (ops : List Opn) (acc : List Ft) (s s' : St), runOps own g ops s = some s' → ∃ tm, runG own g acc ops s = some (s', tm)
  | [], acc, s, s', h => by
    simp only [runOps, Option.some.injEq] at h
    subst h
    exact ⟨_, rfl⟩
  | o :: l, acc, s, s', h => by
    simp only [runOps, bO_eq] at h
    obtain ⟨x, h1, h2⟩ := h
    obtain ⟨tm, h3⟩ := runG_some l (ftO own g o s x.2 :: acc) _ _ h2
    exact ⟨tm, by simp only [runG, runOps, bO_eq]; exact ⟨x.2, ⟨x, h1, rfl⟩, h3⟩⟩
theorem apart_no {a b : List Res} (h : apart a b = true) {x : Res} (ha : x ∈ a) (hb : x ∈ b) : False := by
  have := List.all_eq_true.1 (List.all_eq_true.1 h x ha) x hb
  simp at this
theorem ex_regionG (own : Nat → Nat → Mode) (e : Task → Option Ans) (ops : List Opn) (p : Nat × Nat) (conf : List (Nat × Nat)) (s : St) : exec own e (.region ops (p :: conf)) s =
    bO (runG own (callOf e) [] ops s) fun r => if sChk ops r.2 (p :: conf) then some (.normal, r.1) else bO (runOps own (callOf e) ops s) fun s' => if (p :: conf).all (fun q => !clash ((feet own (callOf e) ops s).getD q.1 []) ((feet own (callOf e) ops s).getD q.2 [])) then some (.normal, s') else none := by
  rw [ex_region]
  cases hr : runOps own (callOf e) ops s with
  | none =>
    cases hg : runG own (callOf e) [] ops s with
    | none => rfl
    | some r => rw [(runG_ok _ _ _ _ hg).1] at hr; cases hr
  | some s' =>
    obtain ⟨tm, hg⟩ := runG_some (own := own) (g := callOf e) ops [] s s' hr
    obtain ⟨h1, tm', h2, h3, h4⟩ := runG_ok _ _ _ _ hg
    simp only [List.reverse_nil, List.nil_append] at h2
    subst h2
    rw [hg]
    simp only [bO]
    by_cases hs : sChk ops tm (p :: conf) = true
    · rw [if_pos hs]
      have : ((p :: conf).all fun q => !clash ((feet own (callOf e) ops s).getD q.1 []) ((feet own (callOf e) ops s).getD q.2 [])) = true := by
        rw [List.all_eq_true]
        intro q hq
        have h5 := List.all_eq_true.1 hs q hq
        simp only [Bool.and_eq_true] at h5
        obtain ⟨h6, h8⟩ := h5
        unfold isoR at h6
        split at h6
        · rename_i x y u v hu hv
          obtain ⟨R1, W1, V1⟩ := u
          obtain ⟨R2, W2, V2⟩ := v
          simp only [Bool.or_eq_true, Bool.and_eq_true] at h6
          unfold iso at h8
          split at h8
          · rename_i o1 o2 a2 b2
            simp only [Bool.and_eq_true] at h8
            have hx := h4 _ _ _ _ _ a2 hu
            have hy := h4 _ _ _ _ _ b2 hv
            rw [Bool.not_eq_true']
            apply Classical.byContradiction
            intro hc
            rw [Bool.not_eq_false] at hc
            simp only [clash, List.any_eq_true, Bool.and_eq_true, Bool.or_eq_true, decide_eq_true_eq] at hc
            obtain ⟨u, hu, v, hv, huv, hw⟩ := hc
            by_cases ht : ∃ n, u.1 = .t n
            · obtain ⟨n, hn⟩ := ht
              have m1 := (hx u hu).1 n hn
              have m2 := (hy v hv).1 n (by rw [← huv]; exact hn)
              rcases hw with hw | hw
              · have h9 := h8.1
                simp [isoT, m1.2 hw, m2.1] at h9
              · have h9 := h8.2
                simp [isoT, m2.2 hw, m1.1] at h9
            · have hne : ∀ n, u.1 ≠ .t n := fun n hn => ht ⟨n, hn⟩
              have m1 := (hx u hu).2 hne
              have m2 := (hy v hv).2 (by rw [← huv]; exact hne)
              rcases h6 with h6 | h6 <;> rcases hw with hw | hw
              · exact apart_no h6.1 (m1.2 hw).1 (by rw [huv]; exact m2.1)
              · exact apart_no h6.2 (m2.2 hw).1 (by rw [← huv]; exact m1.1)
              · exact apart_no h6.1 (m1.2 hw).2 (by rw [huv]; exact m2.1)
              · exact apart_no h6.2 (m2.2 hw).2 (by rw [← huv]; exact m1.1)
          · cases h8
        · cases h6
      rw [if_pos this]
    · rw [if_neg hs]
theorem rg_nil {own : Nat → Nat → Mode} (acc : List Ft) : runG own g acc [] s = some (s, acc.reverse) := nr rfl
theorem rg_cons {own : Nat → Nat → Mode} (acc : List Ft) (o : Opn) (l : List Opn) : runG own g acc (o :: l) s = bO (runOps own g [o] s) fun s' => runG own g (ftO own g o s s' :: acc) l s' := nr rfl
theorem tame_q {own : Nat → Nat → Mode} {d : Option Nat} {op : IOp} {gd : Option (Nat × Bool)} (h : (opQ op).isSome = true) : tame own g ⟨d, op, gd⟩ s = true := by
  unfold tame
  obtain ⟨l, hl⟩ := Option.isSome_iff_exists.1 h
  simp only [hl]
theorem tame_c {own : Nat → Nat → Mode} {d : Option Nat} {f : Nat} {az : List Ar} {gd : Option (Nat × Bool)} : tame own g ⟨d, .call f az, gd⟩ s = (isOff ⟨d, .call f az, gd⟩ s || (vals s az).isSome) := nr rfl
theorem isOff_n {d : Option Nat} {op : IOp} : isOff ⟨d, op, none⟩ s = false := nr rfl
theorem isOff_g {d : Option Nat} {op : IOp} {j : Nat} {w : Bool} : isOff ⟨d, op, some (j, w)⟩ s = match look s.tm j with | some (.sc (.bool b)) => b != w | some (.tu []) => true | _ => false := nr rfl
theorem tame_mv {own : Nat → Nat → Mode} {d : Option Nat} {gd : Option (Nat × Bool)} (x : Ar) : tame own g ⟨d, (.mv x), gd⟩ s = true := nr rfl
theorem tame_pick {own : Nat → Nat → Mode} {d : Option Nat} {gd : Option (Nat × Bool)} (x y z : Ar) : tame own g ⟨d, (.pick x y z), gd⟩ s = true := nr rfl
theorem tame_bin {own : Nat → Nat → Mode} {d : Option Nat} {gd : Option (Nat × Bool)} (o : BinOp) (x y : Ar) : tame own g ⟨d, (.bin o x y), gd⟩ s = true := nr rfl
theorem tame_not {own : Nat → Nat → Mode} {d : Option Nat} {gd : Option (Nat × Bool)} (x : Ar) : tame own g ⟨d, (.un .not x), gd⟩ s = true := nr rfl
theorem tame_conv {own : Nat → Nat → Mode} {d : Option Nat} {gd : Option (Nat × Bool)} (k : IntKind) (x : Ar) : tame own g ⟨d, (.conv k x), gd⟩ s = true := nr rfl
theorem tame_load {own : Nat → Nat → Mode} {d : Option Nat} {gd : Option (Nat × Bool)} (n : Nat) (ag : Bool) (x : Ar) : tame own g ⟨d, (.load n ag x), gd⟩ s = true := nr rfl
theorem tame_fld {own : Nat → Nat → Mode} {d : Option Nat} {gd : Option (Nat × Bool)} (n : Nat) (x : Ar) : tame own g ⟨d, (.fld n x), gd⟩ s = true := nr rfl
theorem tame_fget {own : Nat → Nat → Mode} {d : Option Nat} {gd : Option (Nat × Bool)} (o n : Nat) (ag : Bool) (x : Ar) : tame own g ⟨d, (.fget o n ag x), gd⟩ s = true := nr rfl
theorem tame_idx {own : Nat → Nat → Mode} {d : Option Nat} {gd : Option (Nat × Bool)} (n : Nat) (x y : Ar) : tame own g ⟨d, (.idx n x y), gd⟩ s = true := nr rfl
theorem tame_len {own : Nat → Nat → Mode} {d : Option Nat} {gd : Option (Nat × Bool)} (n : Nat) (x : Ar) : tame own g ⟨d, (.len n x), gd⟩ s = true := nr rfl
theorem tame_ext {own : Nat → Nat → Mode} {d : Option Nat} {gd : Option (Nat × Bool)} (n : Nat) (x : Ar) : tame own g ⟨d, (.ext n x), gd⟩ s = true := nr rfl
theorem ftO_eq {own : Nat → Nat → Mode} {o : Opn} {s' : St} : ftO own g o s s' = if tame own g o s then some (rdsO own g o s, wrsO own g o s, effW o.op (wrsO own g o s) s s') else none := nr rfl
theorem sameR_b {n : Nat} {s' : St} : sameR s s' (.b n) = @decide (look s.bx n = look s'.bx n) (Classical.propDecidable _) := nr rfl
theorem sameR_a {n : Nat} {s' : St} : sameR s s' (.a n) = @decide (look s.ar n = look s'.ar n) (Classical.propDecidable _) := nr rfl
theorem tame_slc {own : Nat → Nat → Mode} {d : Option Nat} {gd : Option (Nat × Bool)} (n : Nat) (x : Ar) (lo hi mx : Option Ar) : tame own g ⟨d, (.slc n x lo hi mx), gd⟩ s = true := nr rfl
theorem tame_alloc {own : Nat → Nat → Mode} {d : Option Nat} {gd : Option (Nat × Bool)} (z : List V) : tame own g ⟨d, (.alloc z), gd⟩ s = true := nr rfl
theorem tame_box {own : Nat → Nat → Mode} {d : Option Nat} {gd : Option (Nat × Bool)} (x : Ar) : tame own g ⟨d, (.box x), gd⟩ s = true := nr rfl
theorem tame_mkfn {own : Nat → Nat → Mode} {d : Option Nat} {gd : Option (Nat × Bool)} (n : Nat) (l : List Ar) : tame own g ⟨d, (.mkfn n l), gd⟩ s = true := nr rfl
theorem tame_build {own : Nat → Nat → Mode} {d : Option Nat} {gd : Option (Nat × Bool)} (z : List V) (l : List (Nat × Nat × Ar)) : tame own g ⟨d, (.build z l), gd⟩ s = true := nr rfl
theorem tame_mksl {own : Nat → Nat → Mode} {d : Option Nat} {gd : Option (Nat × Bool)} (z : List V) (n : Nat) (x y : Ar) : tame own g ⟨d, (.mksl z n x y), gd⟩ s = true := nr rfl
theorem tame_clear {own : Nat → Nat → Mode} {d : Option Nat} {gd : Option (Nat × Bool)} (z : List V) (x : Ar) : tame own g ⟨d, (.clear z x), gd⟩ s = (isOff ⟨d, (.clear z x), gd⟩ s || (vals s [x]).isSome) := nr rfl
theorem tame_mset {own : Nat → Nat → Mode} {d : Option Nat} {gd : Option (Nat × Bool)} (a : Bool) (x y z : Ar) : tame own g ⟨d, (.mset a x y z), gd⟩ s = (isOff ⟨d, (.mset a x y z), gd⟩ s || (vals s [x, y, z]).isSome) := nr rfl
theorem tame_mx {own : Nat → Nat → Mode} {d : Option Nat} {gd : Option (Nat × Bool)} (x y : Ar) : tame own g ⟨d, (.mx x y), gd⟩ s = true := nr rfl
theorem tame_mn {own : Nat → Nat → Mode} {d : Option Nat} {gd : Option (Nat × Bool)} (x y : Ar) : tame own g ⟨d, (.mn x y), gd⟩ s = true := nr rfl
theorem tame_mget {own : Nat → Nat → Mode} {d : Option Nat} {gd : Option (Nat × Bool)} (a : Bool) (z : V) (b : Bool) (x y : Ar) : tame own g ⟨d, (.mget a z b x y), gd⟩ s = true := nr rfl
theorem tame_ment {own : Nat → Nat → Mode} {d : Option Nat} {gd : Option (Nat × Bool)} (a : Bool) (z : V) (x y : Ar) : tame own g ⟨d, (.ment a z x y), gd⟩ s = true := nr rfl
theorem tame_mst {own : Nat → Nat → Mode} {d : Option Nat} {gd : Option (Nat × Bool)} (x y z : Ar) : tame own g ⟨d, (.mst x y z), gd⟩ s = true := nr rfl
theorem tame_store {own : Nat → Nat → Mode} {d : Option Nat} {gd : Option (Nat × Bool)} (n : Nat) (x y : Ar) : tame own g ⟨d, (.store n x y), gd⟩ s = (isOff ⟨d, (.store n x y), gd⟩ s || (vals s [x, y]).isSome) := nr rfl
theorem tame_app {own : Nat → Nat → Mode} {d : Option Nat} {gd : Option (Nat × Bool)} (n m : Nat) (b : Bool) (x y : Ar) : tame own g ⟨d, (.app n m b x y), gd⟩ s = (isOff ⟨d, (.app n m b x y), gd⟩ s || (vals s [x, y]).isSome) := nr rfl
theorem tame_bsl {own : Nat → Nat → Mode} {d : Option Nat} {gd : Option (Nat × Bool)} (z : List V) (n : Nat) (l : List (Nat × Ar)) : tame own g ⟨d, (.bsl z n l), gd⟩ s = (isOff ⟨d, (.bsl z n l), gd⟩ s || (vals s (l.map (·.2))).isSome) := nr rfl
theorem tame_callv {own : Nat → Nat → Mode} {d : Option Nat} {gd : Option (Nat × Bool)} (x : Ar) (l : List Ar) : tame own g ⟨d, (.callv x l), gd⟩ s = (isOff ⟨d, (.callv x l), gd⟩ s || (vals s (x :: l)).isSome) := nr rfl
theorem tame_copy {own : Nat → Nat → Mode} {d : Option Nat} {gd : Option (Nat × Bool)} (n : Nat) (x y : Ar) : tame own g ⟨d, (.copy n x y), gd⟩ s = (isOff ⟨d, (.copy n x y), gd⟩ s || (vals s [x, y]).isSome) := nr rfl
theorem tame_take {own : Nat → Nat → Mode} {d : Option Nat} {gd : Option (Nat × Bool)} (n : Nat) (ag : Bool) (x : Ar) : tame own g ⟨d, (.take n ag x), gd⟩ s = (isOff ⟨d, (.take n ag x), gd⟩ s || (vals s [x]).isSome) := nr rfl
theorem tame_apps {own : Nat → Nat → Mode} {d : Option Nat} {gd : Option (Nat × Bool)} (x y : Ar) : tame own g ⟨d, (.apps x y), gd⟩ s = (isOff ⟨d, (.apps x y), gd⟩ s || (vals s [x, y]).isSome) := nr rfl
theorem tame_beq {own : Nat → Nat → Mode} {d : Option Nat} {gd : Option (Nat × Bool)} (b : Bool) (x y : Ar) : tame own g ⟨d, (.beq b x y), gd⟩ s = true := nr rfl
theorem tame_neg {own : Nat → Nat → Mode} {d : Option Nat} {gd : Option (Nat × Bool)} (x : Ar) : tame own g ⟨d, (.un .neg x), gd⟩ s = true := nr rfl
theorem tame_b2s {own : Nat → Nat → Mode} {d : Option Nat} {gd : Option (Nat × Bool)} (x : Ar) : tame own g ⟨d, (.b2s x), gd⟩ s = true := nr rfl
theorem tame_nilc {own : Nat → Nat → Mode} {d : Option Nat} {gd : Option (Nat × Bool)} (x : Ar) : tame own g ⟨d, (.nilc x), gd⟩ s = true := nr rfl
theorem tame_sidx {own : Nat → Nat → Mode} {d : Option Nat} {gd : Option (Nat × Bool)} (x y : Ar) : tame own g ⟨d, (.sidx x y), gd⟩ s = true := nr rfl
theorem tame_sslc {own : Nat → Nat → Mode} {d : Option Nat} {gd : Option (Nat × Bool)} (x : Ar) (lo hi : Option Ar) : tame own g ⟨d, (.sslc x lo hi), gd⟩ s = true := nr rfl
end Go.Pv

namespace Go.Pv
variable {own : Nat → Nat → Mode} {g : Ora} {l : List Opn} {s : St} {d : Nat}
theorem ro_alloc (zs : List V) : runOps own g (⟨some d, .alloc zs, none⟩ :: l) s = match look s.bx (1000 * (d + 1)) with
    | none => runOps own g l { s with tm := setA s.tm d (.bx (1000 * (d + 1)) 0), bx := setA s.bx (1000 * (d + 1)) (.b zs) }
    | some _ => none := by
  simp only [runOps, stepM, sem, newR, M.run, St.get, Option.getD_some]
  cases look s.bx (1000 * (d + 1)) <;> rfl
theorem ro_box (x : Ar) : runOps own g (⟨some d, .box x, none⟩ :: l) s = bO (val s x) fun v => match look s.bx (1000 * (d + 1)) with
    | none => runOps own g l { s with tm := setA s.tm d (.bx (1000 * (d + 1)) 0), bx := setA s.bx (1000 * (d + 1)) (.b (cellsOf v)) }
    | some _ => none := by
  simp only [runOps, stepM, sem, get_run]
  cases val s x with
  | none => rfl
  | some v =>
    simp only [bO, newR, M.run, St.get, Option.getD_some]
    cases look s.bx (1000 * (d + 1)) <;> rfl
def storeR (own : Nat → Nat → Mode) (g : Ora) (l : List Opn) (s : St) (n : Nat) (v w : V) : Option St :=
  bO ((chk (decide ((cellsOf w).length = n) && (cellsOf w).all one1) (match v with
    | .bx b off => rdB b fun cs => if off + n ≤ cs.length then .wr (.b b) (.b (setAt cs off (cellsOf w))) (M.pure ()) else .fail
    | .ep a i off => cloL (cellsOf w) fun ws => .rd (.a a) fun c => match c with
      | some (.a fz xs) => if fz then .fail else (match xs[i]? with
        | some cs => if off + n ≤ cs.length then .wr (.a a) (.a false (xs.set i (setAt cs off ws))) (M.pure ()) else .fail
        | none => .fail)
      | some (.h xs) => (match xs[i]? with
        | some cs => if off + n ≤ cs.length then .wr (.a a) (.h (xs.set i (setAt cs off ws))) (M.pure ()) else .fail
        | none => .fail)
      | _ => .fail
    | _ => .fail)).run g s) fun r => runOps own g l r.2
theorem storeR_gen (n : Nat) (v w : V) : storeR own g l s n v w = bO ((chk (decide ((cellsOf w).length = n) && (cellsOf w).all one1) (match v with
    | .bx b off => rdB b fun cs => if off + n ≤ cs.length then .wr (.b b) (.b (setAt cs off (cellsOf w))) (M.pure ()) else .fail
    | .ep a i off => cloL (cellsOf w) fun ws => .rd (.a a) fun c => match c with
      | some (.a fz xs) => if fz then .fail else (match xs[i]? with
        | some cs => if off + n ≤ cs.length then .wr (.a a) (.a false (xs.set i (setAt cs off ws))) (M.pure ()) else .fail
        | none => .fail)
      | some (.h xs) => (match xs[i]? with
        | some cs => if off + n ≤ cs.length then .wr (.a a) (.h (xs.set i (setAt cs off ws))) (M.pure ()) else .fail
        | none => .fail)
      | _ => .fail
    | _ => .fail)).run g s) fun r => runOps own g l r.2 := nr rfl
theorem ro_store (n : Nat) (p x : Ar) : runOps own g (⟨none, .store n p x, none⟩ :: l) s = bO (val s p) fun v => bO (val s x) fun w => storeR own g l s n v w := by
  simp only [runOps, stepM, sem, get_run]
  cases val s p with
  | none => rfl
  | some v =>
    simp only [bO, get_run]
    cases val s x with
    | none => rfl
    | some w => rfl
theorem storeR_bx (n b off : Nat) (w : V) : storeR own g l s n (.bx b off) w = if (cellsOf w).length = n ∧ (cellsOf w).all one1 = true then (match look s.bx b with
    | some (.b cs) => if off + n ≤ cs.length then runOps own g l { s with bx := setA s.bx b (.b (setAt cs off (cellsOf w))) } else none
    | _ => none) else none := by
  unfold storeR
  by_cases h : (cellsOf w).length = n ∧ (cellsOf w).all one1 = true
  · rw [if_pos h]
    simp only [chk, h.1, h.2, decide_true, Bool.and_self, if_true, rdB, M.run, St.get]
    cases look s.bx b with
    | none => rfl
    | some c =>
      cases c with
      | b cs => by_cases h2 : off + n ≤ cs.length <;> simp [h2, M.run, bO, St.put]
      | _ => rfl
  · rw [if_neg h]
    have : (decide ((cellsOf w).length = n) && (cellsOf w).all one1) = false := by
      rw [Bool.eq_false_iff]
      simp only [ne_eq, Bool.and_eq_true, decide_eq_true_eq]
      exact h
    simp only [chk, this, Bool.false_eq_true, if_false, M.run, bO]
theorem storeR_ep (a i off : Nat) (v : Value) : storeR own g l s 1 (.ep a i off) (.sc v) = match look s.ar a with
    | some (.a false xs) => (match xs[i]? with | some cs => if off + 1 ≤ cs.length then runOps own g l { s with ar := setA s.ar a (.a false (xs.set i (setAt cs off [.sc v]))) } else none | none => none)
    | some (.h xs) => (match xs[i]? with | some cs => if off + 1 ≤ cs.length then runOps own g l { s with ar := setA s.ar a (.h (xs.set i (setAt cs off [.sc v]))) } else none | none => none)
    | _ => none := by
  unfold storeR
  simp only [chk, cellsOf, List.length_singleton, decide_true, List.all_cons, one1, List.all_nil, Bool.and_self, if_true, cloL, expL, exp, clo1, rdA, M.run, St.get]
  cases look s.ar a with
  | none => rfl
  | some c =>
    cases c with
    | a fz xs =>
      cases fz with
      | true => rfl
      | false =>
        simp only [Bool.false_eq_true, if_false]
        cases h : xs[i]? with
        | none => rfl
        | some cs => by_cases h2 : off + 1 ≤ cs.length <;> simp [h2, M.run, bO, St.put]
    | h xs =>
      cases h : xs[i]? with
      | none => simp only [h]; rfl
      | some cs => by_cases h2 : off + 1 ≤ cs.length <;> simp [h, h2, M.run, bO, St.put]
    | _ => rfl
/-- rows are taken out -/
def takeR (own : Nat → Nat → Mode) (g : Ora) (d : Nat) (l : List Opn) (s : St) (n : Nat) (ag : Bool) (v : V) : Option St :=
  bO ((match v with
    | .ep a i off => .rd (.a a) fun c => match c with
      | some (.a fz xs) => if fz then (match xs[i]? with | some cs => optK (ldN n ag true cs off) (finR (some d)) | none => .fail) else takeM n ag a xs i off (1000 * (d + 1)) (finR (some d))
      | some (.h xs) => takeM n ag a xs i off (1000 * (d + 1)) (finR (some d))
      | _ => .fail
    | .bx b off => rdB b fun cs => if ag then (if off + n ≤ cs.length then finR (some d) (.ag ((cs.drop off).take n)) else .fail) else optK cs[off]? (finR (some d))
    | .fp xs i off => match xs[i]? with
      | some cs => optK (ldN n ag true cs off) (finR (some d))
      | none => .fail
    | _ => .fail : M Unit).run g s) fun r => runOps own g l r.2
theorem takeR_gen (n : Nat) (ag : Bool) (v : V) : takeR own g d l s n ag v = bO ((match v with
    | .ep a i off => .rd (.a a) fun c => match c with
      | some (.a fz xs) => if fz then (match xs[i]? with | some cs => optK (ldN n ag true cs off) (finR (some d)) | none => .fail) else takeM n ag a xs i off (1000 * (d + 1)) (finR (some d))
      | some (.h xs) => takeM n ag a xs i off (1000 * (d + 1)) (finR (some d))
      | _ => .fail
    | .bx b off => rdB b fun cs => if ag then (if off + n ≤ cs.length then finR (some d) (.ag ((cs.drop off).take n)) else .fail) else optK cs[off]? (finR (some d))
    | .fp xs i off => match xs[i]? with
      | some cs => optK (ldN n ag true cs off) (finR (some d))
      | none => .fail
    | _ => .fail : M Unit).run g s) fun r => runOps own g l r.2 := nr rfl
theorem ro_take (n : Nat) (ag : Bool) (p : Ar) : runOps own g (⟨some d, .take n ag p, none⟩ :: l) s = bO (val s p) fun v => takeR own g d l s n ag v := by
  simp only [runOps, stepM, sem, get_run]
  cases val s p with
  | none => rfl
  | some v => cases v <;> rfl
theorem takeR_fp (n : Nat) (ag : Bool) (xs : List (List V)) (i off : Nat) : takeR own g d l s n ag (.fp xs i off) = match xs[i]? with | some cs => bO (ldN n ag true cs off) fun v => runOps own g l { s with tm := setA s.tm d v } | none => none := by
  unfold takeR
  cases h : xs[i]? with
  | none => simp [h, M.run, bO]
  | some cs => cases h2 : ldN n ag true cs off <;> simp [h, h2, optK, M.run, bO, finR, St.put]
/-- one cell, a row of one's own, is taken out of a row -/
theorem takeR_row (n : Nat) (a i off : Nat) : takeR own g d l s n false (.ep a i off) = match look s.ar a with
    | some (.a true xs) => (match xs[i]? with | some cs => bO (ldN n false true cs off) fun v => runOps own g l { s with tm := setA s.tm d v } | none => none)
    | some (.a false xs) => bO ((takeM n false a xs i off (1000 * (d + 1)) (finR (some d))).run g s) fun r => runOps own g l r.2
    | some (.h xs) => bO ((takeM n false a xs i off (1000 * (d + 1)) (finR (some d))).run g s) fun r => runOps own g l r.2
    | _ => none := by
  unfold takeR
  simp only [M.run, St.get]
  cases look s.ar a with
  | none => rfl
  | some c =>
    cases c with
    | a fz xs =>
      cases fz with
      | true =>
        simp only [if_true]
        cases h : xs[i]? with
        | none => simp [h, M.run, bO]
        | some cs => cases h2 : ldN n false true cs off <;> simp [h, h2, optK, M.run, bO, finR, St.put]
      | false => rfl
    | _ => rfl
theorem ro_mkfn (f : Nat) (cs : List Ar) : runOps own g (⟨some d, .mkfn f cs, none⟩ :: l) s = bO (vals s cs) fun vs => runOps own g l { s with tm := setA s.tm d (.fn f vs) } := by
  simp only [runOps, stepM, sem, gets_run]
  cases vals s cs <;> rfl
theorem ro_callv (x : Ar) (az : List Ar) : runOps own g (⟨some d, .callv x az, none⟩ :: l) s = bO (val s x) fun v => bO (vals s az) fun vs => match v with | .fn f caps => callR own g d f l (vs ++ caps) s | _ => none := by
  simp only [runOps, stepM, sem, get_run]
  cases val s x with
  | none => rfl
  | some v =>
    simp only [bO, gets_run]
    cases vals s az with
    | none => rfl
    | some vs => cases v <;> rfl
def natV : V → Option Nat
  | .sc (.int _ n) => if 0 ≤ n then some n.toNat else none
  | _ => none
theorem natV_int (k : IntKind) (n : Int) : natV (.sc (.int k n)) = if 0 ≤ n then some n.toNat else none := nr rfl
theorem natOf_run {α : Type} (v : V) (k : Nat → M α) : (natOf v k).run g s = bO (natV v) fun n => (k n).run g s := by
  cases v with
  | sc u =>
    cases u with
    | int k n => by_cases h : 0 ≤ n <;> simp [natOf, asI, natV, h, bO, M.run]
    | _ => rfl
  | _ => rfl
theorem ro_mksl (zs : List V) (bytes : Nat) (x y : Ar) : runOps own g (⟨some d, .mksl zs bytes x y, none⟩ :: l) s = bO (val s x) fun v => bO (val s y) fun w => bO (natV v) fun n => bO (natV w) fun c =>
    if n ≤ c ∧ lim c bytes = true ∧ zs.all clo1 = true ∧ (n = 0 → c = 0) then (match look s.ar (1000 * (d + 1)) with
      | none => runOps own g l { s with tm := setA s.tm d (.rf (1000 * (d + 1)) 0 n), ar := setA s.ar (1000 * (d + 1)) (.a false (List.replicate n zs)) }
      | some _ => none) else none := by
  simp only [runOps, stepM, sem, get_run]
  cases val s x with
  | none => rfl
  | some v =>
    simp only [bO, get_run]
    cases val s y with
    | none => rfl
    | some w =>
      simp only [bO, natOf_run]
      cases natV v with
      | none => rfl
      | some n =>
        simp only [bO, natOf_run]
        cases natV w with
        | none => rfl
        | some c =>
          simp only [bO]
          by_cases h : n ≤ c ∧ lim c bytes = true ∧ zs.all clo1 = true ∧ (n = 0 → c = 0)
          · rw [if_pos h, if_pos h]
            simp only [newR, M.run, St.get, Option.getD_some]
            cases look s.ar (1000 * (d + 1)) <;> rfl
          · rw [if_neg h, if_neg h]; rfl
/-- a row literal of plain cells -/
def bslR (own : Nat → Nat → Mode) (g : Ora) (d : Nat) (l : List Opn) (s : St) (zs : List V) (n : Nat) (ks : List Nat) (vs : List V) : Option St :=
  bO ((if n = 0 then finR (some d) (.ls true []) else cloLs (vs.map cellsOf) fun ws =>
      chk (ws.all (fun c => c.length == zs.length) && decide (n ≤ 1000) && ks.all (fun p => decide (p < n)) && zs.all clo1)
      (newR (.a (1000 * (d + 1))) (.wr (.a (1000 * (d + 1))) (.a false (setEls (List.replicate n zs) (ks.zip ws))) (finR (some d) (.rf (1000 * (d + 1)) 0 n)))) : M Unit).run g s) fun r => runOps own g l r.2
theorem ro_bsl (zs : List V) (n : Nat) (ps : List (Nat × Ar)) : runOps own g (⟨some d, .bsl zs n ps, none⟩ :: l) s = bO (vals s (ps.map (·.2))) fun vs => bslR own g d l s zs n (ps.map (·.1)) vs := by
  simp only [runOps, stepM, sem, gets_run]
  cases vals s (ps.map (·.2)) with
  | none => rfl
  | some vs =>
    simp only [bO, bslR, Option.getD_some, List.all_map]
    rfl
theorem bslR_0 (zs : List V) (ks : List Nat) (vs : List V) : bslR own g d l s zs 0 ks vs = runOps own g l { s with tm := setA s.tm d (.ls true []) } := nr rfl
theorem bslR_1 (v : Value) (k : IntKind) (m : Int) : bslR own g d l s [.sc (.int k m)] 1 [0] [.sc v] = match look s.ar (1000 * (d + 1)) with
      | none => runOps own g l { s with tm := setA s.tm d (.rf (1000 * (d + 1)) 0 1), ar := setA s.ar (1000 * (d + 1)) (.a false [[.sc v]]) }
      | some _ => none := by
  have h : (cloLs ([V.sc v].map cellsOf) fun ws =>
      chk (ws.all (fun c => c.length == [V.sc (.int k m)].length) && decide (1 ≤ 1000) && [0].all (fun p => decide (p < 1)) && [V.sc (.int k m)].all clo1)
      (newR (.a (1000 * (d + 1))) (.wr (.a (1000 * (d + 1))) (.a false (setEls (List.replicate 1 [V.sc (.int k m)]) ([0].zip ws))) (finR (some d) (.rf (1000 * (d + 1)) 0 1)))) : M Unit)
      = newR (.a (1000 * (d + 1))) (.wr (.a (1000 * (d + 1))) (.a false [[.sc v]]) (finR (some d) (.rf (1000 * (d + 1)) 0 1))) := by
    simp [cloLs, cloL, cellsOf, expL, exp, clo1, chk, setEls]
  unfold bslR
  rw [if_neg (by omega), h]
  simp only [newR, M.run, St.get]
  cases look s.ar (1000 * (d + 1)) <;> rfl
def rowYP (s : St) (ptr : Bool) : V → Option (List (List V) × St)
  | .ls _ xs => some (frzR xs, s)
  | .rf a off len => match look s.ar a with
    | some (.a fz xs) => if off + len ≤ xs.length then (if fz then some (frzR (sub xs off len), s) else if ptr then some (sub xs off len, { s with ar := setA s.ar a .dead }) else if flatR (sub xs off len) then some (sub xs off len, s) else none) else none
    | _ => none
  | _ => none
def rowXP (s : St) (sz : Nat) (ne : Bool) : V → Option (List (List V) × St)
  | .ls true [] => some ([], s)
  | .rf a off len => match look s.ar a with
    | some (.a false xs) => if decide (off + len ≤ xs.length) && allLen sz xs && (decide (off = 0 ∧ len = xs.length) || (ne || decide (0 < len))) then some (sub xs off len, { s with ar := setA s.ar a .dead }) else none
    | _ => none
  | _ => none
theorem rowYP_ls (s : St) (ptr o : Bool) (xs : List (List V)) : rowYP s ptr (.ls o xs) = some (frzR xs, s) := nr rfl
theorem rowYP_rf (s : St) (ptr : Bool) (a off len : Nat) : rowYP s ptr (.rf a off len) = match look s.ar a with
    | some (.a fz xs) => if off + len ≤ xs.length then (if fz then some (frzR (sub xs off len), s) else if ptr then some (sub xs off len, { s with ar := setA s.ar a .dead }) else if flatR (sub xs off len) then some (sub xs off len, s) else none) else none
    | _ => none := nr rfl
theorem rowXP_nil (s : St) (sz : Nat) (ne : Bool) : rowXP s sz ne (.ls true []) = some ([], s) := nr rfl
theorem rowXP_rf (s : St) (sz : Nat) (ne : Bool) (a off len : Nat) : rowXP s sz ne (.rf a off len) = match look s.ar a with
    | some (.a false xs) => if decide (off + len ≤ xs.length) && allLen sz xs && (decide (off = 0 ∧ len = xs.length) || (ne || decide (0 < len))) then some (sub xs off len, { s with ar := setA s.ar a .dead }) else none
    | _ => none := nr rfl
theorem rowY_run {α : Type} (ptr : Bool) (v : V) (k : List (List V) → M α) : (rowY ptr v k).run g s = bO (rowYP s ptr v) fun p => (k p.1).run g p.2 := by
  cases v with
  | ls o xs => rfl
  | rf a off len =>
    simp only [rowY, rdS, rdA, M.run, St.get, rowYP]
    cases look s.ar a with
    | none => rfl
    | some c =>
      cases c with
      | a fz xs =>
        simp only [chk]
        by_cases h : off + len ≤ xs.length
        · simp only [h, decide_true, if_true]
          cases fz with
          | true => rfl
          | false =>
            cases ptr with
            | true => rfl
            | false => cases h2 : flatR (sub xs off len) <;> simp [h2, bO, M.run]
        · simp only [h, decide_false, Bool.false_eq_true, if_false]; rfl
      | _ => rfl
  | _ => rfl
theorem rowX_run {α : Type} (sz : Nat) (ne : Bool) (v : V) (k : List (List V) → M α) : (rowX sz ne v k).run g s = bO (rowXP s sz ne v) fun p => (k p.1).run g p.2 := by
  cases v with
  | ls o xs => cases o <;> cases xs <;> rfl
  | rf a off len =>
    simp only [rowX, rdA, M.run, St.get, rowXP]
    cases look s.ar a with
    | none => rfl
    | some c =>
      cases c with
      | a fz xs =>
        cases fz with
        | true => rfl
        | false =>
          simp only [chk, Bool.false_eq_true, if_false]
          cases h : (decide (off + len ≤ xs.length) && allLen sz xs && (decide (off = 0 ∧ len = xs.length) || (ne || decide (0 < len)))) with
          | true => rfl
          | false => rfl
      | _ => rfl
  | _ => rfl
theorem ro_app (sz bytes : Nat) (ptr : Bool) (x y : Ar) : runOps own g (⟨some d, .app sz bytes ptr x y, none⟩ :: l) s = bO (val s x) fun v => bO (val s y) fun w => bO (rowYP s ptr w) fun p => bO (rowXP p.2 sz (!p.1.isEmpty) v) fun q =>
    if (lim (q.1.length + p.1.length) bytes && allLen sz p.1) = true then (match look q.2.ar (1000 * (d + 1)) with
      | none => runOps own g l { q.2 with tm := setA q.2.tm d (.rf (1000 * (d + 1)) 0 (q.1.length + p.1.length)), ar := setA q.2.ar (1000 * (d + 1)) (.a false (q.1 ++ p.1)) }
      | some _ => none) else none := by
  simp only [runOps, stepM, sem, get_run]
  cases val s x with
  | none => rfl
  | some v =>
    simp only [bO, get_run]
    cases val s y with
    | none => rfl
    | some w =>
      simp only [bO, rowY_run]
      cases rowYP s ptr w with
      | none => rfl
      | some p =>
        simp only [bO, rowX_run]
        cases rowXP p.2 sz (!p.1.isEmpty) v with
        | none => rfl
        | some q =>
          simp only [bO, chk]
          cases h1 : lim (q.1.length + p.1.length) bytes with
          | false => simp [M.run]
          | true =>
            cases h2 : allLen sz p.1 with
            | false => simp [M.run]
            | true =>
              simp only [if_true, Bool.and_self, newR, M.run, St.get, Option.getD_some]
              cases look q.2.ar (1000 * (d + 1)) <;> rfl
def optV (s : St) (x : Option Ar) (n : Nat) : Option Nat := match x with | none => some n | some a => bO (val s a) natV
theorem optV_n (s : St) (n : Nat) : optV s none n = some n := nr rfl
theorem optV_s (s : St) (a : Ar) (n : Nat) : optV s (some a) n = bO (val s a) natV := nr rfl
theorem optN_run {α : Type} (x : Option Ar) (n : Nat) (k : Nat → M α) : (optN x n k).run g s = bO (optV s x n) fun m => (k m).run g s := by
  cases x with
  | none => rfl
  | some a =>
    simp only [optN, optV, get_run]
    cases val s a with
    | none => rfl
    | some v => simp only [bO, natOf_run]
def lenN (s : St) : V → Option Nat
  | .rf a _ len => match look s.ar a with | some (.a _ _) => some len | _ => none
  | .ls _ xs => some xs.length
  | _ => none
def slcP (s : St) (sz : Nat) (v : V) (i h : Nat) : Option V :=
  match v with
  | .rf a off len => match look s.ar a with
    | some (.a _ xs) => if decide (off + len ≤ xs.length) && allLen sz xs then some (.rf a (off + i) (h - i)) else none
    | _ => none
  | .ls true [] => some (.ls true [])
  | .ls _ xs => if allLen sz xs then some (.ls false (sub xs i (h - i))) else none
  | _ => none
theorem lenN_rf (s : St) (a o n : Nat) : lenN s (.rf a o n) = match look s.ar a with | some (.a _ _) => some n | _ => none := nr rfl
theorem lenN_ls (s : St) (o : Bool) (xs : List (List V)) : lenN s (.ls o xs) = some xs.length := nr rfl
theorem slcP_rf (s : St) (sz a off len i h : Nat) : slcP s sz (.rf a off len) i h = match look s.ar a with
    | some (.a _ xs) => if decide (off + len ≤ xs.length) && allLen sz xs then some (.rf a (off + i) (h - i)) else none
    | _ => none := nr rfl
theorem slcP_fz (s : St) (sz : Nat) (xs : List (List V)) (i h : Nat) : slcP s sz (.ls false xs) i h = if allLen sz xs then some (.ls false (sub xs i (h - i))) else none := nr (by cases xs <;> rfl)
theorem slcP_nil (s : St) (sz i h : Nat) : slcP s sz (.ls true []) i h = some (.ls true []) := nr rfl
theorem ro_slc (sz : Nat) (x : Ar) (lo hi mx : Option Ar) : runOps own g (⟨some d, .slc sz x lo hi mx, none⟩ :: l) s = bO (val s x) fun v => bO (lenN s v) fun n => bO (optV s lo 0) fun i => bO (optV s hi n) fun h => bO (optV s mx h) fun m =>
    if i ≤ h ∧ h ≤ m ∧ m ≤ n then bO (slcP s sz v i h) fun w => runOps own g l { s with tm := setA s.tm d w } else none := by
  simp only [runOps, stepM, sem, get_run]
  cases val s x with
  | none => rfl
  | some v =>
    cases v with
    | rf a off len =>
      simp only [bO, lenN, slcP, rdA, M.run, St.get]
      cases look s.ar a with
      | none => rfl
      | some c =>
        cases c with
        | a fz xs =>
          simp only [optN_run]
          cases optV s lo 0 with
          | none => rfl
          | some i =>
            simp only [bO, optN_run]
            cases optV s hi len with
            | none => rfl
            | some h =>
              simp only [bO, optN_run]
              cases optV s mx h with
              | none => rfl
              | some m =>
                simp only [bO]
                by_cases hc : i ≤ h ∧ h ≤ m ∧ m ≤ len
                · simp only [hc, and_self, if_true]
                  cases hd : (decide (off + len ≤ xs.length) && allLen sz xs) with
                  | true => rfl
                  | false => rfl
                · rw [if_neg hc, if_neg hc]; rfl
        | _ => rfl
    | ls o xs =>
      simp only [bO, lenN, optN_run]
      cases optV s lo 0 with
      | none => rfl
      | some i =>
        simp only [bO, optN_run]
        cases optV s hi xs.length with
        | none => rfl
        | some h =>
          simp only [bO, optN_run]
          cases optV s mx h with
          | none => rfl
          | some m =>
            simp only [bO]
            by_cases hc : i ≤ h ∧ h ≤ m ∧ m ≤ xs.length
            · rw [if_pos hc, if_pos hc]
              cases o with
              | true =>
                cases xs with
                | nil => rfl
                | cons y ys =>
                  simp only [slcP]
                  cases hd : allLen sz (y :: ys) with
                  | true => rfl
                  | false => rfl
              | false =>
                simp only [slcP]
                cases hd : allLen sz xs with
                | true => simp [hd, chk, finR, M.run, bO, St.put]
                | false => simp [hd, chk, M.run, bO]
            · rw [if_neg hc, if_neg hc]; rfl
    | _ => rfl
end Go.Pv
