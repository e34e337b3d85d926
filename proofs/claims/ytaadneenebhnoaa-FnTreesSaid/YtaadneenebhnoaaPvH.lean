/- Proof: steps of the evaluation as functions of the state. No condition. -/
import Derived.Test.YtaadneenebhnoaaPvG
set_option autoImplicit true
set_option relaxedAutoImplicit true
set_option linter.unusedSimpArgs false
set_option linter.unusedVariables false
namespace Go.Pv
variable {own : Nat → Nat → Mode} {g : Ora} {l : List Opn} {s : St} {d : Nat}
theorem ro_mn (x y : Ar) : runOps own g (⟨some d, .mn x y, none⟩ :: l) s = bO (val s x) fun v => bO (val s y) fun w => match v, w with | .sc (.int a n), .sc (.int _ m) => runOps own g l { s with tm := setA s.tm d (.sc (.int a (if m < n then m else n))) } | _, _ => none := by
  simp only [runOps, stepM, sem, get_run]
  cases val s x with
  | none => rfl
  | some v =>
    simp only [bO, get_run]
    cases val s y with
    | none => rfl
    | some w =>
      cases v with
      | sc u =>
        cases u with
        | int a n =>
          cases w with
          | sc t => cases t <;> rfl
          | _ => rfl
        | _ => rfl
      | _ => rfl
theorem ro_mx (x y : Ar) : runOps own g (⟨some d, .mx x y, none⟩ :: l) s = bO (val s x) fun v => bO (val s y) fun w => match v, w with | .sc (.int a n), .sc (.int _ m) => runOps own g l { s with tm := setA s.tm d (.sc (.int a (if m > n then m else n))) } | _, _ => none := by
  simp only [runOps, stepM, sem, get_run]
  cases val s x with
  | none => rfl
  | some v =>
    simp only [bO, get_run]
    cases val s y with
    | none => rfl
    | some w =>
      cases v with
      | sc u =>
        cases u with
        | int a n =>
          cases w with
          | sc t => cases t <;> rfl
          | _ => rfl
        | _ => rfl
      | _ => rfl
def copyR (own : Nat → Nat → Mode) (g : Ora) (d : Nat) (l : List Opn) (sz : Nat) (v : V) (ys : List (List V)) (s : St) : Option St :=
  match v with
  | .rf a off len => match look s.ar a with
    | some (.a false xs) => if off + len ≤ xs.length then (if (allLen sz xs && allLen sz ys) = true then runOps own g l { s with tm := setA s.tm d (.sc (.int .i64 (min ys.length len : Nat))), ar := setA s.ar a (.a false (xs.take off ++ ys.take (min ys.length len) ++ xs.drop (off + min ys.length len))) } else none) else none
    | _ => none
  | _ => none
theorem copyR_rf (sz a off len : Nat) (ys : List (List V)) : copyR own g d l sz (.rf a off len) ys s = match look s.ar a with
    | some (.a false xs) => if off + len ≤ xs.length then (if (allLen sz xs && allLen sz ys) = true then runOps own g l { s with tm := setA s.tm d (.sc (.int .i64 (min ys.length len : Nat))), ar := setA s.ar a (.a false (xs.take off ++ ys.take (min ys.length len) ++ xs.drop (off + min ys.length len))) } else none) else none
    | _ => none := nr rfl
theorem ro_copy (sz : Nat) (x y : Ar) : runOps own g (⟨some d, .copy sz x y, none⟩ :: l) s = bO (val s x) fun v => bO (val s y) fun w => bO (rowYP s false w) fun p => copyR own g d l sz v p.1 p.2 := by
  simp only [runOps, stepM, sem, get_run]
  cases val s x with
  | none => rfl
  | some v =>
    simp only [bO, get_run]
    cases val s y with
    | none => rfl
    | some w =>
      simp only [bO, rowY_run]
      cases rowYP s false w with
      | none => rfl
      | some p =>
        simp only [bO]
        cases v with
        | rf a off len =>
          simp only [copyR, rdA, M.run, St.get]
          cases look p.2.ar a with
          | none => rfl
          | some c =>
            cases c with
            | a fz xs =>
              cases fz with
              | true => rfl
              | false =>
                simp only [Bool.false_eq_true, if_false]
                by_cases h : off + len ≤ xs.length
                · rw [if_pos h, if_pos h]
                  cases h2 : (allLen sz xs && allLen sz p.1) with
                  | true => rfl
                  | false => rfl
                · rw [if_neg h, if_neg h]; rfl
            | _ => rfl
        | _ => rfl
def fillQ (z : List V) (l : List (Nat × Nat × V)) : Option (List V) := fillP z l
theorem ro_build (zs : List V) (ps : List (Nat × Nat × Ar)) : runOps own g (⟨some d, .build zs ps, none⟩ :: l) s = bO (vals s (ps.map (·.2.2))) fun vs => bO (fillQ zs ((ps.zip vs).map fun p => (p.1.1, p.1.2.1, p.2))) fun cs => runOps own g l { s with tm := setA s.tm d (.ag cs) } := by
  simp only [runOps, stepM, sem, gets_run]
  cases vals s (ps.map (·.2.2)) with
  | none => rfl
  | some vs =>
    simp only [bO, fillQ]
    cases fillP zs ((ps.zip vs).map fun p => (p.1.1, p.1.2.1, p.2)) <;> rfl
theorem fillQ_nil (z : List V) : fillQ z [] = some z := nr rfl
theorem fillQ_cons (z : List V) (off n : Nat) (v : V) (l : List (Nat × Nat × V)) : fillQ z ((off, n, v) :: l) = if (cellsOf v).length = n ∧ off + n ≤ z.length then fillQ (setAt z off (cellsOf v)) l else none := nr rfl
theorem ro_mget (str : Bool) (z : V) (ok : Bool) (m k : Ar) : runOps own g (⟨some d, .mget str z ok m k, none⟩ :: l) s = bO (val s m) fun v => bO (val s k) fun w => match v with
    | .mp b => (match look s.bx b with
      | some (.m es) => if keyOk str w = true then (match mfind w es.1 with
        | some (some r) => runOps own g l { s with tm := setA s.tm d (if ok then .tu [r.1, .sc (.bool true)] else r.1) }
        | some none => runOps own g l { s with tm := setA s.tm d (if ok then .tu [z, .sc (.bool false)] else z) }
        | none => none) else none
      | _ => none)
    | _ => none := by
  simp only [runOps, stepM, sem, get_run]
  cases val s m with
  | none => rfl
  | some v =>
    simp only [bO, get_run]
    cases val s k with
    | none => rfl
    | some w =>
      cases v with
      | mp b =>
        simp only [bO, rdM, M.run, St.get]
        cases look s.bx b with
        | none => rfl
        | some c =>
          cases c with
          | m es =>
            simp only [chk]
            cases hk : keyOk str w with
            | false => rfl
            | true =>
              simp only [if_true]
              cases mfind w es.1 with
              | none => rfl
              | some r => cases r <;> rfl
          | _ => rfl
      | _ => rfl
end Go.Pv

namespace Go.Pv
variable {g : Ora} {own : Nat → Nat → Mode} {s : St} {d : Nat} {l : List Opn}
def strP (v : V) : Option ByteArray := match v with | .sc (.string s) => some s | _ => none
theorem strP_s (s : ByteArray) : strP (.sc (.string s)) = some s := nr rfl
theorem ro_sslc (x : Ar) (lo hi : Option Ar) : runOps own g (⟨some d, .sslc x lo hi, none⟩ :: l) s = bO (val s x) fun v => bO (strP v) fun t => bO (optV s lo 0) fun i => bO (optV s hi t.size) fun h =>
    if i ≤ h ∧ h ≤ t.size then runOps own g l { s with tm := setA s.tm d (.sc (.string (t.extract i h))) } else none := by
  simp only [runOps, stepM, sem, get_run]
  cases val s x with
  | none => rfl
  | some v =>
    cases v with
    | sc y =>
      cases y with
      | string t =>
        simp only [bO, asS, strP, optN_run]
        cases optV s lo 0 with
        | none => rfl
        | some i =>
          simp only [bO, optN_run]
          cases optV s hi t.size with
          | none => rfl
          | some h =>
            simp only [bO]
            by_cases hc : i ≤ h ∧ h ≤ t.size
            · rw [if_pos hc, if_pos hc]; rfl
            · rw [if_neg hc, if_neg hc]; rfl
      | _ => rfl
    | _ => rfl
theorem bslR_1s (z v : Value) : bslR own g d l s [.sc z] 1 [0] [.sc v] = match look s.ar (1000 * (d + 1)) with
      | none => runOps own g l { s with tm := setA s.tm d (.rf (1000 * (d + 1)) 0 1), ar := setA s.ar (1000 * (d + 1)) (.a false [[.sc v]]) }
      | some _ => none := by
  have h : (cloLs ([V.sc v].map cellsOf) fun ws =>
      chk (ws.all (fun c => c.length == [V.sc z].length) && decide (1 ≤ 1000) && [0].all (fun p => decide (p < 1)) && [V.sc z].all clo1)
      (newR (.a (1000 * (d + 1))) (.wr (.a (1000 * (d + 1))) (.a false (setEls (List.replicate 1 [V.sc z]) ([0].zip ws))) (finR (some d) (.rf (1000 * (d + 1)) 0 1)))) : M Unit)
      = newR (.a (1000 * (d + 1))) (.wr (.a (1000 * (d + 1))) (.a false [[.sc v]]) (finR (some d) (.rf (1000 * (d + 1)) 0 1))) := by
    simp [cloLs, cloL, expL, exp, cellsOf, clo1, chk, setEls, List.replicate]
  unfold bslR
  rw [if_neg (by decide), h]
  simp only [newR, M.run, St.get, finR]
  cases look s.ar (1000 * (d + 1)) <;> rfl
end Go.Pv

namespace Go.Pv
variable {g : Ora} {own : Nat → Nat → Mode} {s : St} {d : Nat} {l : List Opn}
/-! maps as equations -/
def mpN (v : V) : Option Nat := match v with | .mp b => some b | _ => none
theorem mpN_mp (b : Nat) : mpN (.mp b) = some b := nr rfl
def mgetR (str : Bool) (z : V) (ok : Bool) (c : Option Cell) (w : V) : Option V := match c with
  | some (.m es) => if keyOk str w = true then (match mfind w es.1 with
    | some (some r) => some (if ok then .tu [r.1, .sc (.bool true)] else r.1)
    | some none => some (if ok then .tu [z, .sc (.bool false)] else z)
    | none => none) else none
  | _ => none
def msetR (str : Bool) (c : Option Cell) (w y : V) : Option MapV := match c with
  | some (.m es) => if (keyOk str w && flat1 y) = true then (match mfind w es.1 with
    | some (some _) => some (mput w y es.1, es.2)
    | some none => some (es.1 ++ [((w, y), es.2)], es.2 + 1)
    | none => none) else none
  | _ => none
theorem ro_mget2 (str : Bool) (z : V) (ok : Bool) (m k : Ar) : runOps own g (⟨some d, .mget str z ok m k, none⟩ :: l) s = bO (val s m) fun v => bO (val s k) fun w => bO (mpN v) fun b => bO (mgetR str z ok (look s.bx b) w) fun u => runOps own g l { s with tm := setA s.tm d u } := by
  rw [ro_mget]
  cases val s m with
  | none => rfl
  | some v =>
    simp only [bO]
    cases val s k with
    | none => rfl
    | some w =>
      cases v with
      | mp b =>
        simp only [mpN, mgetR]
        cases look s.bx b with
        | none => rfl
        | some c =>
          cases c with
          | m es =>
            simp only
            cases hk : keyOk str w with
            | false => rfl
            | true =>
              simp only [if_true]
              cases mfind w es.1 with
              | none => rfl
              | some r => cases r <;> rfl
          | _ => rfl
      | _ => rfl
theorem ro_mset2 (str : Bool) (m k x : Ar) : runOps own g (⟨none, .mset str m k x, none⟩ :: l) s = bO (val s m) fun v => bO (val s k) fun w => bO (val s x) fun y => bO (mpN v) fun b => bO (msetR str (look s.bx b) w y) fun es => runOps own g l { s with bx := setA s.bx b (.m es) } := by
  simp only [runOps, stepM, sem, get_run]
  cases val s m with
  | none => rfl
  | some v =>
    simp only [bO, get_run]
    cases val s k with
    | none => rfl
    | some w =>
      simp only [bO, get_run]
      cases val s x with
      | none => rfl
      | some y =>
        cases v with
        | mp b =>
          simp only [bO, rdM, M.run, St.get, mpN, msetR]
          cases look s.bx b with
          | none => rfl
          | some c =>
            cases c with
            | m es =>
              simp only [chk]
              cases hk : (keyOk str w && flat1 y) with
              | false => rfl
              | true =>
                simp only [if_true]
                cases mfind w es.1 with
                | none => rfl
                | some r => cases r <;> rfl
            | _ => rfl
        | _ => rfl
/-- a map of whole numbers -/
abbrev MP (β : Type) := List ((Int × β) × Nat) × Nat
def mpL {β : Type} (f : β → V) (l : List ((Int × β) × Nat)) : List ((V × V) × Nat) := l.map fun e => ((.sc (.int .i64 e.1.1), f e.1.2), e.2)
def mpE {β : Type} (f : β → V) (m : MP β) : MapV := (mpL f m.1, m.2)
def mpI (m : MP Int) : MapV := mpE (fun n => .sc (.int .i64 n)) m
def mpB (m : MP Bool) : MapV := mpE (fun b => .sc (.bool b)) m
def fdM {β : Type} (k : Int) : List ((Int × β) × Nat) → Option β
  | [] => none
  | e :: l => if k = e.1.1 then some e.1.2 else fdM k l
def putM {β : Type} (k : Int) (v : β) : List ((Int × β) × Nat) → List ((Int × β) × Nat)
  | [] => []
  | e :: l => if k = e.1.1 then ((k, v), e.2) :: l else e :: putM k v l
def mgV {β : Type} (z : β) (m : MP β) (k : Int) : β := (fdM k m.1).getD z
def msV {β : Type} (m : MP β) (k : Int) (v : β) : MP β := match fdM k m.1 with | some _ => (putM k v m.1, m.2) | none => (m.1 ++ [((k, v), m.2)], m.2 + 1)
theorem mfind_E {β : Type} (f : β → V) (k : Int) : ∀ l : List ((Int × β) × Nat), ∃ n, mfind (.sc (.int .i64 k)) (mpL f l) = some ((fdM k l).map fun v => (f v, n))
  | [] => ⟨0, rfl⟩
  | e :: l => by
    obtain ⟨n, h⟩ := mfind_E f k l
    by_cases c : k = e.1.1
    · exact ⟨e.2, by simp [mpL, mfind, eqKey, fdM, c]⟩
    · refine ⟨n, ?_⟩
      simp only [mpL] at h
      simp [mpL, mfind, eqKey, fdM, c, h]
theorem mput_E {β : Type} (f : β → V) (k : Int) (v : β) : ∀ l : List ((Int × β) × Nat), mput (.sc (.int .i64 k)) (f v) (mpL f l) = mpL f (putM k v l)
  | [] => rfl
  | e :: l => by
    have h := mput_E f k v l
    simp only [mpL] at h
    by_cases c : k = e.1.1
    · simp [mpL, mput, eqKey, putM, c]
    · simp [mpL, mput, eqKey, putM, c, h]
theorem mgetR_E {β : Type} (f : β → V) (z : β) (m : MP β) (k : Int) : mgetR false (f z) false (some (.m (mpE f m))) (.sc (.int .i64 k)) = some (f (mgV z m k)) := by
  obtain ⟨n, h⟩ := mfind_E f k m.1
  simp only [mgetR, keyOk, Bool.not_false, if_true, mpE, h, mgV]
  cases fdM k m.1 <;> rfl
theorem msetR_E {β : Type} (f : β → V) (hf : ∀ v, flat1 (f v) = true) (m : MP β) (k : Int) (v : β) : msetR false (some (.m (mpE f m))) (.sc (.int .i64 k)) (f v) = some (mpE f (msV m k v)) := by
  obtain ⟨n, h⟩ := mfind_E f k m.1
  simp only [msetR, keyOk, Bool.not_false, Bool.true_and, hf, if_true, mpE, h, msV]
  cases fdM k m.1 with
  | none => simp [mpL]
  | some x => simp [mput_E]
@[simp] theorem mgetR_I (z : Int) (m : MP Int) (k : Int) : mgetR false (.sc (.int .i64 z)) false (some (.m (mpI m))) (.sc (.int .i64 k)) = some (.sc (.int .i64 (mgV z m k))) := mgetR_E (fun n : Int => V.sc (.int .i64 n)) z m k
@[simp] theorem mgetR_B (z : Bool) (m : MP Bool) (k : Int) : mgetR false (.sc (.bool z)) false (some (.m (mpB m))) (.sc (.int .i64 k)) = some (.sc (.bool (mgV z m k))) := mgetR_E (fun n : Bool => V.sc (.bool n)) z m k
@[simp] theorem msetR_I (m : MP Int) (k v : Int) : msetR false (some (.m (mpI m))) (.sc (.int .i64 k)) (.sc (.int .i64 v)) = some (mpI (msV m k v)) := msetR_E (fun n : Int => V.sc (.int .i64 n)) (fun _ => rfl) m k v
@[simp] theorem msetR_B (m : MP Bool) (k : Int) (v : Bool) : msetR false (some (.m (mpB m))) (.sc (.int .i64 k)) (.sc (.bool v)) = some (mpB (msV m k v)) := msetR_E (fun n : Bool => V.sc (.bool n)) (fun _ => rfl) m k v
@[simp] theorem mpI_nil : mpI ([], 0) = ([], 0) := nr rfl
@[simp] theorem mpB_nil : mpB ([], 0) = ([], 0) := nr rfl
@[simp] theorem mgetR_0 (z : V) (k : Int) : mgetR false z false (some (.m ([], 0))) (.sc (.int .i64 k)) = some z := nr rfl
@[simp] theorem msetR_0I (k v : Int) : msetR false (some (.m ([], 0))) (.sc (.int .i64 k)) (.sc (.int .i64 v)) = some (mpI (msV ([], 0) k v)) := nr rfl
@[simp] theorem msetR_0B (k : Int) (v : Bool) : msetR false (some (.m ([], 0))) (.sc (.int .i64 k)) (.sc (.bool v)) = some (mpB (msV ([], 0) k v)) := nr rfl
end Go.Pv

namespace Go.Pv
set_option maxRecDepth 8000
variable {g : Ora} {own : Nat → Nat → Mode} {s : St} {d : Nat} {l : List Opn}
/-! further steps as equations -/
def sidxP (v w : V) : Option V := match v, w with
  | .sc (.string t), .sc (.int _ n) => if 0 ≤ n then bO t[n.toNat]? fun b => some (.sc (.int .u8 b.toNat)) else none
  | _, _ => none
theorem sidxP_s (t : ByteArray) (k : IntKind) (n : Int) : sidxP (.sc (.string t)) (.sc (.int k n)) = if 0 ≤ n then bO t[n.toNat]? fun b => some (.sc (.int .u8 b.toNat)) else none := nr rfl
theorem ro_sidx (x i : Ar) : runOps own g (⟨some d, .sidx x i, none⟩ :: l) s = bO (val s x) fun v => bO (val s i) fun w => bO (sidxP v w) fun v => runOps own g l { s with tm := setA s.tm d v } := by
  simp only [runOps, stepM, sem, get_run]
  cases val s x with
  | none => rfl
  | some v =>
    simp only [bO, get_run]
    cases val s i with
    | none => rfl
    | some w =>
      cases v with
      | sc y =>
        cases y with
        | string t =>
          cases w with
          | sc z =>
            cases z with
            | int k n =>
              simp only [asS, asI, sidxP]
              by_cases h : 0 ≤ n
              · rw [if_pos h, if_pos h]; cases t[n.toNat]? <;> rfl
              · rw [if_neg h, if_neg h]; rfl
            | _ => rfl
          | _ => rfl
        | _ => rfl
      | _ => rfl
theorem ro_len1 (x : Ar) : runOps own g (⟨some d, .len 1 x, none⟩ :: l) s = bO (val s x) fun v => bO (strP v) fun t => runOps own g l { s with tm := setA s.tm d (.sc (.int .i64 t.size)) } := by
  simp only [runOps, stepM, sem, get_run]
  cases val s x with
  | none => rfl
  | some v =>
    cases v with
    | sc y => cases y <;> rfl
    | _ => rfl
def boolP (v : V) : Option Bool := match v with | .sc (.bool b) => some b | _ => none
theorem boolP_b (b : Bool) : boolP (.sc (.bool b)) = some b := nr rfl
theorem ro_beq (neg : Bool) (x y : Ar) : runOps own g (⟨some d, .beq neg x y, none⟩ :: l) s = bO (val s x) fun v => bO (val s y) fun w => bO (boolP v) fun p => bO (boolP w) fun q => runOps own g l { s with tm := setA s.tm d (.sc (.bool (if neg then !(p == q) else p == q))) } := by
  simp only [runOps, stepM, sem, get_run]
  cases val s x with
  | none => rfl
  | some v =>
    simp only [bO, get_run]
    cases val s y with
    | none => rfl
    | some w =>
      cases v with
      | sc y =>
        cases y with
        | bool p =>
          cases w with
          | sc z => cases z <;> rfl
          | _ => rfl
        | _ => rfl
      | _ => rfl
def negP (v : V) : Option V := match v with | .sc (.int a n) => some (.sc (.int a (a.wrap (0 - n)))) | _ => none
theorem negP_i (a : IntKind) (n : Int) : negP (.sc (.int a n)) = some (.sc (.int a (a.wrap (0 - n)))) := nr rfl
theorem ro_neg (x : Ar) : runOps own g (⟨some d, .un .neg x, none⟩ :: l) s = bO (val s x) fun v => bO (negP v) fun v => runOps own g l { s with tm := setA s.tm d v } := by
  simp only [runOps, stepM, sem, get_run]
  cases val s x with
  | none => rfl
  | some v =>
    cases v with
    | sc y => cases y <;> rfl
    | _ => rfl
/-- a row that is read whole -/
def rowV (s : St) (v : V) : Option (List (List V)) := match v with
  | .ls _ xs => some xs
  | .rf a off len => match look s.ar a with
    | some (.a _ xs) => if off + len ≤ xs.length then some (sub xs off len) else none
    | _ => none
  | _ => none
theorem rowV_ls (s : St) (o : Bool) (xs : List (List V)) : rowV s (.ls o xs) = some xs := nr rfl
theorem rowV_rf (s : St) (a off len : Nat) : rowV s (.rf a off len) = match look s.ar a with
    | some (.a _ xs) => if off + len ≤ xs.length then some (sub xs off len) else none
    | _ => none := nr rfl
theorem ro_b2s (x : Ar) : runOps own g (⟨some d, .b2s x, none⟩ :: l) s = bO (val s x) fun v => bO (rowV s v) fun xs => bO (bytesR xs) fun bs => runOps own g l { s with tm := setA s.tm d (.sc (.string ⟨bs.toArray⟩)) } := by
  simp only [runOps, stepM, sem, get_run]
  cases val s x with
  | none => rfl
  | some v =>
    cases v with
    | ls o xs =>
      simp only [bO, rowV]
      cases bytesR xs <;> rfl
    | rf a off len =>
      simp only [bO, rowV, rdS, rdA, M.run, St.get]
      cases look s.ar a with
      | none => rfl
      | some c =>
        cases c with
        | a fz xs =>
          simp only [chk]
          by_cases h : off + len ≤ xs.length
          · simp only [h, decide_true, if_true]
            cases bytesR (sub xs off len) <;> rfl
          · simp only [h, decide_false, Bool.false_eq_true, if_false]; rfl
        | _ => rfl
    | _ => rfl
theorem ro_apps (x y : Ar) : runOps own g (⟨some d, .apps x y, none⟩ :: l) s = bO (val s x) fun v => bO (val s y) fun w => bO (strP w) fun t => bO (rowXP s 1 (decide (0 < t.size)) v) fun q =>
    if lim (q.1.length + t.size) 1 = true then (match look q.2.ar (1000 * (d + 1)) with
      | none => runOps own g l { q.2 with tm := setA q.2.tm d (.rf (1000 * (d + 1)) 0 (q.1.length + t.size)), ar := setA q.2.ar (1000 * (d + 1)) (.a false (q.1 ++ t.data.toList.map fun b => [.sc (.int .u8 (b.toNat : Int))])) }
      | some _ => none) else none := by
  simp only [runOps, stepM, sem, get_run]
  cases val s x with
  | none => rfl
  | some v =>
    simp only [bO, get_run]
    cases val s y with
    | none => rfl
    | some w =>
      cases w with
      | sc z =>
        cases z with
        | string t =>
          simp only [bO, asS, strP, rowX_run]
          cases rowXP s 1 (decide (0 < t.size)) v with
          | none => rfl
          | some q =>
            simp only [bO, chk]
            cases h1 : lim (q.1.length + t.size) 1 with
            | false => simp [M.run]
            | true =>
              simp only [if_true, newR, M.run, St.get, Option.getD_some]
              cases look q.2.ar (1000 * (d + 1)) <;> rfl
        | _ => rfl
      | _ => rfl
theorem ro_nilc (x : Ar) : runOps own g (⟨some d, .nilc x, none⟩ :: l) s = bO (val s x) fun v => match v with | .bx _ _ => runOps own g l { s with tm := setA s.tm d v } | .ep _ _ _ => runOps own g l { s with tm := setA s.tm d v } | .fp _ _ _ => runOps own g l { s with tm := setA s.tm d v } | .fn _ _ => runOps own g l { s with tm := setA s.tm d v } | _ => none := by
  simp only [runOps, stepM, sem, get_run]
  cases val s x with
  | none => rfl
  | some v => cases v <;> rfl
theorem ro_mkmap : runOps own g (⟨some d, .mkmap, none⟩ :: l) s = match look s.bx (1000 * (d + 1)) with
    | none => runOps own g l { s with tm := setA s.tm d (.mp (1000 * (d + 1))), bx := setA s.bx (1000 * (d + 1)) (.m ([], 0)) }
    | some _ => none := by
  simp only [runOps, stepM, sem, newR, M.run, St.get, Option.getD_some]
  cases look s.bx (1000 * (d + 1)) <;> rfl
/-- a cell that goes into a row -/
def expS (s : St) (v : V) : Option (V × St) := match v with
  | .sc x => some (.sc x, s)
  | .ls o xs => some (.ls o xs, s)
  | .rf a off len => match look s.ar a with
    | some (.a fz xs) => if off + len ≤ xs.length then (if fz then some (.ls false (frzR (sub xs off len)), s) else if (decide (off = 0 ∧ len = xs.length) || decide (0 < len)) = true then some (.ls true (sub xs off len), { s with ar := setA s.ar a .dead }) else none) else none
    | _ => none
  | _ => none
theorem expS_sc (s : St) (x : Value) : expS s (.sc x) = some (.sc x, s) := nr rfl
theorem expS_ls (s : St) (o : Bool) (xs : List (List V)) : expS s (.ls o xs) = some (.ls o xs, s) := nr rfl
theorem expS_rf (s : St) (a off len : Nat) : expS s (.rf a off len) = match look s.ar a with
    | some (.a fz xs) => if off + len ≤ xs.length then (if fz then some (.ls false (frzR (sub xs off len)), s) else if (decide (off = 0 ∧ len = xs.length) || decide (0 < len)) = true then some (.ls true (sub xs off len), { s with ar := setA s.ar a .dead }) else none) else none
    | _ => none := nr rfl
def expSL : St → List V → Option (List V × St)
  | s, [] => some ([], s)
  | s, v :: l => bO (expS s v) fun p => bO (expSL p.2 l) fun q => some (p.1 :: q.1, q.2)
theorem expSL_nil (s : St) : expSL s [] = some ([], s) := nr rfl
theorem expSL_cons (s : St) (v : V) (l : List V) : expSL s (v :: l) = bO (expS s v) fun p => bO (expSL p.2 l) fun q => some (p.1 :: q.1, q.2) := nr rfl
def expSLL : St → List (List V) → Option (List (List V) × St)
  | s, [] => some ([], s)
  | s, v :: l => bO (expSL s v) fun p => bO (expSLL p.2 l) fun q => some (p.1 :: q.1, q.2)
theorem expSLL_nil (s : St) : expSLL s [] = some ([], s) := nr rfl
theorem expSLL_cons (s : St) (v : List V) (l : List (List V)) : expSLL s (v :: l) = bO (expSL s v) fun p => bO (expSLL p.2 l) fun q => some (p.1 :: q.1, q.2) := nr rfl
def okX (v : V) : Bool := match v with | .sc _ => true | .ls _ _ => true | .rf _ _ _ => true | _ => false
theorem exp_run {α : Type} (v : V) (hv : okX v = true) (k : V → List Nat → M α) (s : St) : (exp true v k).run g s = bO (expS s v) fun p => (k p.1 []).run g p.2 := by
  cases v with
  | sc x => rfl
  | ls o xs => rfl
  | rf a off len =>
    simp only [exp, rdS, rdA, M.run, St.get, expS]
    cases ha : look s.ar a with
    | none => rfl
    | some c =>
      cases c with
      | a fz xs =>
        simp only [chk, Option.map_some]
        by_cases h : off + len ≤ xs.length
        · simp only [h, decide_true, if_true, Bool.true_and]
          cases fz with
          | true => rfl
          | false =>
            simp only [Bool.not_false, if_true, wholeOr, rdA, M.run, St.get, ha, Option.map_some, chk]
            by_cases h2 : (decide (off = 0 ∧ len = xs.length) || decide (0 < len)) = true
            · rw [if_pos h2]
              simp only [Bool.false_eq_true, if_false]
              rw [if_pos h2]; rfl
            · rw [if_neg h2]
              simp only [Bool.false_eq_true, if_false]
              rw [if_neg h2]; rfl
        · simp only [h, decide_false, Bool.false_eq_true, if_false]; rfl
      | _ => rfl
  | _ => cases hv
theorem expL_run {α : Type} : ∀ (vs : List V) (hv : vs.all okX = true) (k : List V → List Nat → M α) (s : St), (expL true vs k).run g s = bO (expSL s vs) fun p => (k p.1 []).run g p.2
  | [], _, k, s => rfl
  | v :: l, hv, k, s => by
    simp only [List.all_cons, Bool.and_eq_true] at hv
    simp only [expL, expSL]
    rw [exp_run v hv.1]
    cases expS s v with
    | none => rfl
    | some p =>
      simp only [bO]
      rw [expL_run l hv.2]
      cases expSL p.2 l <;> rfl
theorem expS_clo {s : St} {v : V} {p : V × St} (h : expS s v = some p) : clo1 p.1 = true := by
  unfold expS at h
  split at h
  · cases h; rfl
  · cases h; rfl
  · split at h
    · split at h
      · split at h
        · cases h; rfl
        · split at h
          · cases h; rfl
          · cases h
      · cases h
    · cases h
  · cases h
theorem expSL_clo : ∀ {s : St} {vs : List V} {p : List V × St}, expSL s vs = some p → p.1.all clo1 = true
  | s, [], p, h => by cases h; rfl
  | s, v :: l, p, h => by
    simp only [expSL] at h
    cases h1 : expS s v with
    | none => rw [h1] at h; cases h
    | some q =>
      rw [h1] at h
      simp only [bO] at h
      cases h2 : expSL q.2 l with
      | none => rw [h2] at h; cases h
      | some r =>
        rw [h2] at h
        simp only [Option.some.injEq] at h
        subst h
        simp only [List.all_cons, Bool.and_eq_true]
        exact ⟨expS_clo h1, expSL_clo h2⟩
theorem cloL_run {α : Type} (vs : List V) (hv : vs.all okX = true) (k : List V → M α) (s : St) : (cloL vs k).run g s = bO (expSL s vs) fun p => (k p.1).run g p.2 := by
  unfold cloL
  rw [expL_run vs hv]
  cases h : expSL s vs with
  | none => rfl
  | some p =>
    simp only [bO, chk]
    rw [if_pos (expSL_clo h)]
theorem cloLs_run {α : Type} : ∀ (vs : List (List V)) (hv : (vs.all fun v => v.all okX) = true) (k : List (List V) → M α) (s : St), (cloLs vs k).run g s = bO (expSLL s vs) fun p => (k p.1).run g p.2
  | [], _, k, s => rfl
  | v :: l, hv, k, s => by
    simp only [List.all_cons, Bool.and_eq_true] at hv
    simp only [cloLs, expSLL]
    rw [cloL_run v (by simpa using hv.1)]
    cases expSL s v with
    | none => rfl
    | some p =>
      simp only [bO]
      rw [cloLs_run l hv.2]
      cases expSLL p.2 l <;> rfl
def inOrd : List Nat → Nat → Bool
  | [], _ => true
  | k :: l, n => k == n && inOrd l (n + 1)
theorem inOrd_nil (n : Nat) : inOrd [] n = true := nr rfl
theorem inOrd_cons (k : Nat) (l : List Nat) (n : Nat) : inOrd (k :: l) n = (k == n && inOrd l (n + 1)) := nr rfl
theorem setEls_in : ∀ (ks : List Nat) (ws : List (List V)) (n : Nat) (pre z : List (List V)), inOrd ks n = true → pre.length = n → ks.length = ws.length → z.length = ws.length → setEls (pre ++ z) (ks.zip ws) = pre ++ ws
  | [], ws, n, pre, z, _, _, h1, h2 => by
    have : ws = [] := List.length_eq_zero_iff.1 h1.symm
    subst this
    have : z = [] := List.length_eq_zero_iff.1 h2
    subst this
    rfl
  | k :: ks, [], n, pre, z, _, _, h1, _ => by cases h1
  | k :: ks, w :: ws, n, pre, [], _, _, _, h2 => by cases h2
  | k :: ks, w :: ws, n, pre, c :: z, ho, hp, h1, h2 => by
    simp only [inOrd, Bool.and_eq_true, beq_iff_eq] at ho
    obtain ⟨rfl, ho⟩ := ho
    simp only [List.zip_cons_cons, setEls]
    have e : (pre ++ c :: z).set k w = (pre ++ [w]) ++ z := by
      rw [List.set_append_right _ _ (by omega), hp]; simp
    rw [e, setEls_in ks ws (k + 1) (pre ++ [w]) z ho (by simp [hp]) (by simpa using h1) (by simpa using h2)]
    simp
theorem expSL_len : ∀ {s : St} {vs : List V} {p : List V × St}, expSL s vs = some p → p.1.length = vs.length
  | s, [], p, h => by cases h; rfl
  | s, v :: l, p, h => by
    simp only [expSL] at h
    cases h1 : expS s v with
    | none => rw [h1] at h; cases h
    | some q =>
      rw [h1] at h
      simp only [bO] at h
      cases h2 : expSL q.2 l with
      | none => rw [h2] at h; cases h
      | some r =>
        rw [h2] at h
        simp only [Option.some.injEq] at h
        subst h
        simp [expSL_len h2]
theorem expSLL_len : ∀ {s : St} {vs : List (List V)} {p : List (List V) × St}, expSLL s vs = some p → p.1.length = vs.length
  | s, [], p, h => by cases h; rfl
  | s, v :: l, p, h => by
    simp only [expSLL] at h
    cases h1 : expSL s v with
    | none => rw [h1] at h; cases h
    | some q =>
      rw [h1] at h
      simp only [bO] at h
      cases h2 : expSLL q.2 l with
      | none => rw [h2] at h; cases h
      | some r =>
        rw [h2] at h
        simp only [Option.some.injEq] at h
        subst h
        simp [expSLL_len h2]
theorem ks_lt : ∀ (ks : List Nat) (m n : Nat), inOrd ks m = true → m + ks.length ≤ n → ks.all (fun p => decide (p < n)) = true
  | [], m, n, _, _ => rfl
  | k :: ks, m, n, h, hl => by
    simp only [inOrd, Bool.and_eq_true, beq_iff_eq] at h
    simp only [List.length_cons] at hl
    simp only [List.all_cons, Bool.and_eq_true, decide_eq_true_eq]
    exact ⟨by omega, ks_lt ks (m + 1) n h.2 (by omega)⟩
def expVL : St → List V → Option (List (List V) × St)
  | s, [] => some ([], s)
  | s, v :: l => bO (expSL s (cellsOf v)) fun p => bO (expVL p.2 l) fun q => some (p.1 :: q.1, q.2)
theorem expVL_nil (s : St) : expVL s [] = some ([], s) := nr rfl
theorem expVL_cons (s : St) (v : V) (l : List V) : expVL s (v :: l) = bO (expSL s (cellsOf v)) fun p => bO (expVL p.2 l) fun q => some (p.1 :: q.1, q.2) := nr rfl
theorem expVL_eq : ∀ (l : List V) (s : St), expSLL s (l.map cellsOf) = expVL s l
  | [], s => rfl
  | v :: l, s => by
    simp only [List.map_cons, expSLL, expVL, expVL_eq l]
/-- a row that is written out, in order -/
theorem bslR_in (zs : List V) (n : Nat) (ks : List Nat) (vs : List V) (h0 : (decide (n ≠ 0) && decide (n ≤ 1000)) = true) (h1 : inOrd ks 0 = true) (h2 : ks.length = n) (h3 : vs.length = n) (h4 : zs.all clo1 = true) (h5 : (vs.all fun v => (cellsOf v).all okX) = true) :
    bslR own g d l s zs n ks vs = bO (expVL s vs) fun p => if allLen zs.length p.1 = true then (match look p.2.ar (1000 * (d + 1)) with
      | none => runOps own g l { p.2 with tm := setA p.2.tm d (.rf (1000 * (d + 1)) 0 n), ar := setA p.2.ar (1000 * (d + 1)) (.a false p.1) }
      | some _ => none) else none := by
  simp only [Bool.and_eq_true, decide_eq_true_eq] at h0
  rw [← expVL_eq]
  unfold bslR
  rw [if_neg h0.1, cloLs_run _ (by simpa using h5)]
  cases h6 : expSLL s (vs.map cellsOf) with
  | none => rfl
  | some p =>
    have hl := expSLL_len h6
    rw [List.length_map, h3] at hl
    have h7 := ks_lt ks 0 n h1 (by omega)
    have h8 : setEls (List.replicate n zs) (ks.zip p.1) = p.1 := by
      have := setEls_in ks p.1 0 [] (List.replicate n zs) h1 rfl (by omega) (by simp [hl])
      simpa using this
    simp only [bO, chk, h7, h4, h8, decide_eq_true h0.2, Bool.and_true]
    have e : (p.1.all fun c => c.length == zs.length) = allLen zs.length p.1 := rfl
    rw [e]
    cases hc : allLen zs.length p.1 with
    | false => rfl
    | true =>
      simp only [if_true, newR, M.run, St.get, finR]
      cases look p.2.ar (1000 * (d + 1)) <;> rfl
end Go.Pv

namespace Go.Pv
set_option maxRecDepth 8000
variable {g : Ora} {own : Nat → Nat → Mode} {s : St} {d : Nat} {l : List Opn}
/-! what goes out and comes back, as functions of the state -/
def rdAP (c : Option Cell) : Option (Bool × List (List V)) := match c with | some (.a fz xs) => some (fz, xs) | _ => none
theorem rdAP_a (fz : Bool) (xs : List (List V)) : rdAP (some (.a fz xs)) = some (fz, xs) := nr rfl
theorem rdA_run {α : Type} (a : Nat) (k : Bool → List (List V) → M α) (s : St) : (rdA a k).run g s = bO (rdAP (look s.ar a)) fun p => (k p.1 p.2).run g s := by
  simp only [rdA, M.run, St.get, rdAP]
  cases look s.ar a with
  | none => rfl
  | some c => cases c <;> rfl
theorem chk_run {α : Type} (b : Bool) (k : M α) (s : St) : (chk b k).run g s = if b = true then k.run g s else none := by
  cases b <;> rfl
def expR (ow : Bool) (s : St) (a off len : Nat) : Option ((V × List Nat) × St) := bO (rdAP (look s.ar a)) fun p => if off + len ≤ p.2.length then (if (ow && !p.1) = true then (if (decide (off = 0 ∧ len = p.2.length) || decide (0 < len)) = true then some ((.ls true (sub p.2 off len), []), { s with ar := setA s.ar a .dead }) else none) else some ((.ls false (frzR (sub p.2 off len)), if p.1 then [] else [a]), s)) else none
mutual
def expV (ow : Bool) (s : St) : V → Option ((V × List Nat) × St)
  | .rf a off len => expR ow s a off len
  | .ag cs => bO (expVL' ow s cs) fun q => some ((.ag q.1.1, q.1.2), q.2)
  | .tu cs => bO (expVL' ow s cs) fun q => some ((.tu q.1.1, q.1.2), q.2)
  | .ep .. => none
  | .fp .. => none
  | .fn f cs => if cs.all cap1 = true then some ((.fn f cs, []), s) else none
  | v => some ((v, []), s)
def expVL' (ow : Bool) (s : St) : List V → Option ((List V × List Nat) × St)
  | [] => some (([], []), s)
  | v :: l => bO (expV ow s v) fun p => bO (expVL' ow p.2 l) fun q => some ((p.1.1 :: q.1.1, p.1.2 ++ q.1.2), q.2)
end
mutual
theorem exp_runV {α : Type} (ow : Bool) : ∀ (v : V) (s : St) (k : V → List Nat → M α), (exp ow v k).run g s = bO (expV ow s v) fun q => (k q.1.1 q.1.2).run g q.2
  | .rf a off len, s, k => by
    simp only [exp, rdS, rdA_run, expV, expR]
    cases ha : rdAP (look s.ar a) with
    | none => rfl
    | some p =>
      obtain ⟨fz, xs⟩ := p
      simp only [bO, chk_run]
      by_cases h : off + len ≤ xs.length
      · simp only [h, decide_true, if_true]
        cases hc : (ow && !fz) with
        | false => simp only [Bool.false_eq_true, if_false]
        | true =>
          simp only [if_true, wholeOr, rdA_run, ha, bO, chk_run]
          by_cases h2 : (decide (off = 0 ∧ len = xs.length) || decide (0 < len)) = true
          · rw [if_pos h2, if_pos h2]; rfl
          · rw [if_neg h2, if_neg h2]
      · simp only [h, decide_false, Bool.false_eq_true, if_false]
  | .ag cs, s, k => by
    simp only [exp, expV]
    rw [expL_runV ow cs]
    cases expVL' ow s cs <;> rfl
  | .tu cs, s, k => by
    simp only [exp, expV]
    rw [expL_runV ow cs]
    cases expVL' ow s cs <;> rfl
  | .ep .., s, k => rfl
  | .fp .., s, k => rfl
  | .fn f cs, s, k => by
    simp only [exp, expV, chk_run]
    split <;> rfl
  | .sc x, s, k => by simp only [exp, expV, bO]
  | .ls o xs, s, k => by simp only [exp, expV, bO]
  | .bx b o, s, k => by simp only [exp, expV, bO]
  | .mp b, s, k => by simp only [exp, expV, bO]
theorem expL_runV {α : Type} (ow : Bool) : ∀ (l : List V) (s : St) (k : List V → List Nat → M α), (expL ow l k).run g s = bO (expVL' ow s l) fun q => (k q.1.1 q.1.2).run g q.2
  | [], s, k => rfl
  | v :: l, s, k => by
    simp only [expL, expVL']
    rw [exp_runV ow v]
    cases expV ow s v with
    | none => rfl
    | some p =>
      simp only [bO]
      rw [expL_runV ow l]
      cases expVL' ow p.2 l <;> rfl
end
def expAS (ow : Nat → Mode) : Nat → St → List V → Option ((List V × List Nat) × St)
  | _, s, [] => some (([], []), s)
  | i, s, v :: l => bO (expV (ow i).gives s v) fun p => bO (expAS ow (i + 1) p.2 l) fun q => some ((p.1.1 :: q.1.1, p.1.2 ++ q.1.2), q.2)
theorem expA_run {α : Type} (ow : Nat → Mode) : ∀ (l : List V) (i : Nat) (s : St) (k : List V → List Nat → M α), (expArgs ow i l k).run g s = bO (expAS ow i s l) fun q => (k q.1.1 q.1.2).run g q.2
  | [], i, s, k => rfl
  | v :: l, i, s, k => by
    simp only [expArgs, expAS]
    rw [exp_runV]
    cases expV (ow i).gives s v with
    | none => rfl
    | some p =>
      simp only [bO]
      rw [expA_run ow l]
      cases expAS ow (i + 1) p.2 l <;> rfl
/-- the cells of a variable in memory that goes out -/
def collC (s : St) (c : Option Cell) : Option ((Cell × List Nat) × St) := match c with
  | some (.b vs) => bO (expVL' true s vs) fun q => some ((.b q.1.1, bxsOfL q.1.1), q.2)
  | some (.m es) => some ((.m es, []), s)
  | _ => none
theorem collC_b (s : St) (vs : List V) : collC s (some (.b vs)) = bO (expVL' true s vs) fun q => some ((.b q.1.1, bxsOfL q.1.1), q.2) := nr rfl
theorem collC_m (s : St) (es : MapV) : collC s (some (.m es)) = some ((.m es, []), s) := nr rfl
def collS : Nat → List Nat → List Nat → List Cell → St → Option ((List Nat × List Cell) × St)
  | 0, _, _, _, _ => none
  | _ + 1, [], done, cs, s => some ((done, cs), s)
  | n + 1, b :: todo, done, cs, s => if done.contains b = true then collS n todo done cs s else
    bO (collC s (look s.bx b)) fun q => collS n (todo ++ q.1.2) (done ++ [b]) (cs ++ [q.1.1]) { q.2 with bx := setA q.2.bx b .dead }
theorem coll_run {α : Type} : ∀ (n : Nat) (todo done : List Nat) (cs : List Cell) (s : St) (k : List Nat → List Cell → M α), (coll n todo done cs k).run g s = bO (collS n todo done cs s) fun q => (k q.1.1 q.1.2).run g q.2
  | 0, _, _, _, _, _ => rfl
  | _ + 1, [], _, _, _, _ => rfl
  | n + 1, b :: todo, done, cs, s, k => by
    simp only [coll, collS]
    by_cases h : done.contains b = true
    · rw [if_pos h, if_pos h]; exact coll_run n todo done cs s k
    · rw [if_neg h, if_neg h]
      simp only [M.run, St.get]
      cases look s.bx b with
      | none => rfl
      | some c =>
        cases c with
        | b vs =>
          simp only [collC]
          rw [expL_runV]
          cases expVL' true s vs with
          | none => rfl
          | some q =>
            simp only [bO, M.run, St.put]
            exact coll_run n _ _ _ _ k
        | m es =>
          simp only [collC, bO, M.run, St.put, List.append_nil]
          exact coll_run n _ _ _ _ k
        | _ => rfl
def seeS : List Nat → St → Option Unit
  | [], _ => some ()
  | a :: l, s => bO (rdAP (look s.ar a)) fun _ => seeS l s
theorem see_run {α : Type} : ∀ (l : List Nat) (s : St) (k : M α), (seeA l k).run g s = bO (seeS l s) fun _ => k.run g s
  | [], s, k => rfl
  | a :: l, s, k => by
    simp only [seeA, seeS, rdA_run]
    cases rdAP (look s.ar a) with
    | none => rfl
    | some p => simp only [bO]; exact see_run l s k
def freezeS : List Nat → St → Option St
  | [], s => some s
  | a :: l, s => bO (rdAP (look s.ar a)) fun p => freezeS l { s with ar := setA s.ar a (.a true p.2) }
theorem freeze_run {α : Type} : ∀ (l : List Nat) (s : St) (k : M α), (freezeA l k).run g s = bO (freezeS l s) fun s' => k.run g s'
  | [], s, k => rfl
  | a :: l, s, k => by
    simp only [freezeA, freezeS, rdA_run]
    cases rdAP (look s.ar a) with
    | none => rfl
    | some p => simp only [bO, M.run, St.put]; exact freeze_run l _ k
theorem ro_hold {l : List Opn} {d : Nat} (n : Nat) (ag : Bool) (x : Ar) : runOps own g (⟨some d, .hold n ag x, none⟩ :: l) s = bO (val s x) fun v => bO (loadP s n ag v) fun v => bO (freezeS (arsOf v) s) fun s' => runOps own g l { s' with tm := setA s'.tm d v } := by
  have e : (stepM own ⟨some d, .hold n ag x, none⟩).run g s = (sem own d (.load n ag x) (fun V => freezeA (arsOf V) (finR (some d) V))).run g s := rfl
  simp only [runOps]
  rw [e, loadK_run]
  cases val s x with
  | none => rfl
  | some v =>
    simp only [bO]
    cases loadP s n ag v with
    | none => rfl
    | some v =>
      simp only
      rw [freeze_run]
      cases freezeS (arsOf v) s with
      | none => rfl
      | some s' => rfl
def sthR (s : St) (n : Nat) (v w : V) : Option St := match v with
  | .ep a i off => match look s.ar a with
    | some (.h xs) => match xs[i]? with
      | some cs => if decide (n = 1) && isRf w && one1 w then (if off + 1 ≤ cs.length then some { s with ar := setA s.ar a (.h (xs.set i (setAt cs off [w]))) } else none) else none
      | none => none
    | _ => none
  | _ => none
theorem ro_sth {l : List Opn} (n : Nat) (p x : Ar) : runOps own g (⟨none, .sth n p x, none⟩ :: l) s = bO (val s p) fun v => bO (val s x) fun w => bO (sthR s n v w) fun s' => runOps own g l s' := by
  simp only [runOps, stepM, sem, get_run]
  cases val s p with
  | none => rfl
  | some v =>
    simp only [bO]
    cases val s x with
    | none => rfl
    | some w =>
      simp only [chk_run]
      by_cases h : (decide (n = 1) && isRf w && one1 w) = true
      · rw [if_pos h]
        cases v with
        | ep a i off =>
          simp only [M.run, St.get, sthR]
          cases look s.ar a with
          | none => rfl
          | some c =>
            cases c with
            | h xs =>
              simp only
              cases h2 : xs[i]? with
              | none => rfl
              | some cs =>
                simp only [h, if_true]
                by_cases h3 : off + 1 ≤ cs.length
                · rw [if_pos h3, if_pos h3]; rfl
                · rw [if_neg h3, if_neg h3]; rfl
            | _ => rfl
        | _ => rfl
      · rw [if_neg h]
        cases v with
        | ep a i off =>
          simp only [sthR]
          cases look s.ar a with
          | none => rfl
          | some c =>
            cases c with
            | h xs =>
              simp only
              cases h2 : xs[i]? with
              | none => rfl
              | some cs => simp only [h, if_false]; rfl
            | _ => rfl
        | _ => rfl
theorem ex_alt {own : Nat → Nat → Mode} {ev : Task → Option Ans} (o1 o2 : List Opn) (z : IC) (keep : List Nat) : exec own ev (.alt o1 o2 z keep) s = bO (runOps own (callOf ev) o1 s) fun s1 => bO (runOps own (callOf ev) o2 s) fun s2 => bO (exec own ev z s1) fun r1 => bO (exec own ev z s2) fun r2 =>
    bO (norm keep r1.2) fun n1 => bO (norm keep r2.2) fun n2 => if sameA (r1.1, n1) (r2.1, n2) then some (r1.1, n1) else none := nr rfl
theorem sameA_rfl (x : Exit' × St) : sameA x x = true := by
  unfold sameA
  exact @decide_eq_true _ (Classical.propDecidable _) rfl
def newNP (c : Option Cell) : Option Unit := match c with | none => some () | some _ => none
theorem newNP_n : newNP none = some () := nr rfl
theorem newR_run {α : Type} (r : Res) (k : M α) (s : St) : (newR r k).run g s = bO (newNP (s.get r)) fun _ => k.run g s := by
  simp only [newR, M.run]
  cases s.get r <;> rfl
def newBS : List Nat → St → Option St
  | [], s => some s
  | b :: l, s => bO (newNP (look s.bx b)) fun _ => newBS l { s with bx := setA s.bx b .dead }
theorem newB_run {α : Type} : ∀ (l : List Nat) (s : St) (k : M α), (newBs l k).run g s = bO (newBS l s) fun s' => k.run g s'
  | [], s, k => rfl
  | b :: l, s, k => by
    simp only [newBs, newBS, newR_run, St.get]
    cases newNP (look s.bx b) with
    | none => rfl
    | some p => simp only [bO, M.run, St.put]; exact newB_run l _ k
def wrAS : List (Nat × List (List V)) → St → Option St
  | [], s => some s
  | (n, xs) :: l, s => bO (newNP (look s.ar n)) fun _ => wrAS l { s with ar := setA s.ar n (.a false xs) }
theorem wrA_run {α : Type} : ∀ (l : List (Nat × List (List V))) (s : St) (k : M α), (wrAs l k).run g s = bO (wrAS l s) fun s' => k.run g s'
  | [], s, k => rfl
  | (n, xs) :: l, s, k => by
    simp only [wrAs, wrAS, newR_run, St.get]
    cases newNP (look s.ar n) with
    | none => rfl
    | some p => simp only [bO, M.run, St.put]; exact wrA_run l _ k
def backS : List Nat → List Cell → Nat → St → Option St
  | [], [], _, s => some s
  | b :: bs, .b vs :: cs, n, s => bO (wrAS (impL vs n).2.2 s) fun s' => backS bs cs (impL vs n).2.1 { s' with bx := setA s'.bx b (.b (impL vs n).1) }
  | b :: bs, .m es :: cs, n, s => backS bs cs n { s with bx := setA s.bx b (.m es) }
  | _, _, _, _ => none
theorem back_run {α : Type} : ∀ (bs : List Nat) (cs : List Cell) (n : Nat) (s : St) (k : M α), (back bs cs n k).run g s = bO (backS bs cs n s) fun s' => k.run g s'
  | [], [], _, s, k => rfl
  | b :: bs, .b vs :: cs, n, s, k => by
    simp only [back, backS, wrA_run]
    cases wrAS (impL vs n).2.2 s with
    | none => rfl
    | some s' => simp only [bO, M.run, St.put]; exact back_run bs cs _ _ k
  | b :: bs, .m es :: cs, n, s, k => by
    simp only [back, backS, M.run, St.put]; exact back_run bs cs _ _ k
  | [], .b _ :: _, _, _, _ => rfl
  | [], .m _ :: _, _, _, _ => rfl
  | [], .v _ :: _, _, _, _ => rfl
  | [], .a _ _ :: _, _, _, _ => rfl
  | [], .h _ :: _, _, _, _ => rfl
  | [], .dead :: _, _, _, _ => rfl
  | _ :: _, [], _, _, _ => rfl
  | _ :: _, .v _ :: _, _, _, _ => rfl
  | _ :: _, .a _ _ :: _, _, _, _ => rfl
  | _ :: _, .h _ :: _, _, _, _ => rfl
  | _ :: _, .dead :: _, _, _, _ => rfl
def rev1 (p : (V × V) × V) (s : St) : Option St := match p.1.1, p.1.2, p.2 with
  | .rf a _ _, .ls true xs0, .rf d off n => bO (rdAP (look s.ar d)) fun q => if (!q.1 && decide (off = 0 ∧ n = q.2.length ∧ q.2.length = xs0.length) && sameL xs0 q.2) = true then some { s with ar := setA (setA s.ar d .dead) a (.a false q.2) } else none
  | .ls true [], _, _ => some s
  | .sc _, _, _ => some s
  | _, _, _ => none
theorem rev1_rf (a o1 n1 : Nat) (xs0 : List (List V)) (d off n : Nat) (s : St) : rev1 ((.rf a o1 n1, .ls true xs0), .rf d off n) s = bO (rdAP (look s.ar d)) fun q => if (!q.1 && decide (off = 0 ∧ n = q.2.length ∧ q.2.length = xs0.length) && sameL xs0 q.2) = true then some { s with ar := setA (setA s.ar d .dead) a (.a false q.2) } else none := nr rfl
theorem rev1_nil (x y : V) (s : St) : rev1 ((.ls true [], x), y) s = some s := nr rfl
theorem rev1_sc (z : Value) (x y : V) (s : St) : rev1 ((.sc z, x), y) s = some s := nr rfl
def reviveS : List ((V × V) × V) → St → Option St
  | [], s => some s
  | p :: l, s => bO (rev1 p s) fun s' => reviveS l s'
theorem rev1_run {α : Type} (p : (V × V) × V) (l : List ((V × V) × V)) (s : St) (k : M α) : (revive (p :: l) k).run g s = bO (rev1 p s) fun s' => (revive l k).run g s' := by
  obtain ⟨⟨x, y⟩, z⟩ := p
  cases x with
  | rf a o1 n1 =>
    cases y with
    | ls o xs0 =>
      cases o with
      | true =>
        cases z with
        | rf d off n =>
          simp only [revive, rev1, rdA_run]
          cases rdAP (look s.ar d) with
          | none => rfl
          | some q =>
            simp only [bO, chk_run]
            split <;> rfl
        | _ => rfl
      | false => cases z <;> rfl
    | _ => cases z <;> rfl
  | ls o xs =>
    cases o with
    | true => cases xs <;> cases y <;> cases z <;> rfl
    | false => cases y <;> cases z <;> rfl
  | sc v => cases y <;> cases z <;> rfl
  | _ => cases y <;> cases z <;> rfl
theorem revive_run {α : Type} : ∀ (l : List ((V × V) × V)) (s : St) (k : M α), (revive l k).run g s = bO (reviveS l s) fun s' => k.run g s'
  | [], s, k => rfl
  | p :: l, s, k => by
    rw [rev1_run]
    simp only [reviveS]
    cases rev1 p s with
    | none => rfl
    | some s' => simp only [bO]; exact revive_run l s' k
def pre1 (v : V) (s : St) : Option Unit := match v with
  | .rf a off len => bO (rdAP (look s.ar a)) fun p => if (!p.1 && decide (off = 0 ∧ len = p.2.length)) = true then some () else none
  | .ls true [] => some ()
  | .sc _ => some ()
  | _ => none
theorem pre1_rf (a off len : Nat) (s : St) : pre1 (.rf a off len) s = bO (rdAP (look s.ar a)) fun p => if (!p.1 && decide (off = 0 ∧ len = p.2.length)) = true then some () else none := nr rfl
theorem pre1_nil (s : St) : pre1 (.ls true []) s = some () := nr rfl
theorem pre1_sc (z : Value) (s : St) : pre1 (.sc z) s = some () := nr rfl
def preS : List V → St → Option Unit
  | [], _ => some ()
  | v :: l, s => bO (pre1 v s) fun _ => preS l s
theorem pre_run {α : Type} : ∀ (l : List V) (s : St) (k : M α), (preL l k).run g s = bO (preS l s) fun _ => k.run g s
  | [], s, k => rfl
  | v :: l, s, k => by
    have h : (preL (v :: l) k).run g s = bO (pre1 v s) fun _ => (preL l k).run g s := by
      cases v with
      | rf a off len =>
        simp only [preL, pre1, rdA_run]
        cases rdAP (look s.ar a) with
        | none => rfl
        | some p =>
          simp only [bO, chk_run]
          split <;> rfl
      | ls o xs =>
        cases o with
        | true => cases xs <;> rfl
        | false => rfl
      | _ => rfl
    rw [h]
    simp only [preS]
    cases pre1 v s with
    | none => rfl
    | some u => simp only [bO]; exact pre_run l s k
/-! what was taken is put back -/
def fillCS : List V → St → Option (List V × St)
  | [], s => some ([], s)
  | v :: l, s => match v with
    | .rf m off len => bO (rdAP (look s.ar m)) fun p => if (decide (off = 0 ∧ len = p.2.length) && !p.1) = true then bO (fillCS l { s with ar := setA s.ar m .dead }) fun q => some (.ls true p.2 :: q.1, q.2) else none
    | v => bO (fillCS l s) fun q => some (v :: q.1, q.2)
theorem fillC_run {α : Type} : ∀ (cs : List V) (s : St) (k : List V → M α), (fillC cs k).run g s = bO (fillCS cs s) fun q => (k q.1).run g q.2
  | [], s, k => rfl
  | v :: l, s, k => by
    cases v with
    | rf m off len =>
      simp only [fillC, fillCS, rdA_run]
      cases rdAP (look s.ar m) with
      | none => rfl
      | some p =>
        simp only [bO, chk_run]
        split
        · simp only [M.run, St.put]
          rw [fillC_run l]
          cases fillCS l { s with ar := setA s.ar m .dead } <;> rfl
        · rfl
    | _ =>
      simp only [fillC, fillCS]
      rw [fillC_run l]
      cases fillCS l s <;> rfl
def fillXS : List (List V) → St → Option (List (List V) × St)
  | [], s => some ([], s)
  | cs :: l, s => bO (fillCS cs s) fun p => bO (fillXS l p.2) fun q => some (p.1 :: q.1, q.2)
theorem fillX_run {α : Type} : ∀ (xs : List (List V)) (s : St) (k : List (List V) → M α), (fillX xs k).run g s = bO (fillXS xs s) fun q => (k q.1).run g q.2
  | [], s, k => rfl
  | cs :: l, s, k => by
    simp only [fillX, fillXS]
    rw [fillC_run]
    cases fillCS cs s with
    | none => rfl
    | some p =>
      simp only [bO]
      rw [fillX_run l]
      cases fillXS l p.2 <;> rfl
/-- does a row hold names of what was taken out? -/
def heldP (c : Option Cell) : Option (List (List V)) := match c with | some (.h xs) => some xs | _ => none
theorem heldP_h (xs : List (List V)) : heldP (some (.h xs)) = some xs := nr rfl
theorem heldP_a (fz : Bool) (xs : List (List V)) : heldP (some (.a fz xs)) = none := nr rfl
theorem heldP_d : heldP (some .dead) = none := nr rfl
theorem heldP_n : heldP none = none := nr rfl
def fillAS : Nat → List Nat → St → Option St
  | 0, _, s => some s
  | _ + 1, [], s => some s
  | n + 1, a :: l, s => match heldP (look s.ar a) with
    | some xs => bO (fillAS n (rfsX xs) s) fun s1 => bO (heldP (look s1.ar a)) fun xs => bO (fillXS xs { s1 with ar := setA s1.ar a .dead }) fun q => fillAS n l { q.2 with ar := setA q.2.ar a (.a false q.1) }
    | none => fillAS n l s
theorem fillA_run {α : Type} : ∀ (n : Nat) (l : List Nat) (s : St) (k : M α), (fillA n l k).run g s = bO (fillAS n l s) fun s' => k.run g s'
  | 0, _, s, k => rfl
  | _ + 1, [], s, k => rfl
  | n + 1, a :: l, s, k => by
    simp only [fillA, fillAS, M.run, St.get]
    cases ha : look s.ar a with
    | none => exact fillA_run n l s k
    | some c =>
      cases c with
      | h xs =>
        simp only [heldP]
        rw [fillA_run n (rfsX xs) s]
        cases fillAS n (rfsX xs) s with
        | none => rfl
        | some s1 =>
          simp only [bO, M.run, St.get]
          cases hb : look s1.ar a with
          | none => rfl
          | some c' =>
            cases c' with
            | h ys =>
              simp only [M.run, St.put, bO]
              rw [fillX_run]
              cases fillXS ys { s1 with ar := setA s1.ar a .dead } with
              | none => rfl
              | some q =>
                simp only [bO, M.run, St.put]
                exact fillA_run n l _ k
            | _ => rfl
      | _ => exact fillA_run n l s k
def boxP (c : Option Cell) : Option (List V) := match c with | some (.b vs) => some vs | _ => none
theorem boxP_b (vs : List V) : boxP (some (.b vs)) = some vs := nr rfl
theorem boxP_m (es : MapV) : boxP (some (.m es)) = none := nr rfl
theorem boxP_d : boxP (some .dead) = none := nr rfl
theorem boxP_n : boxP none = none := nr rfl
def fillBS : Nat → List Nat → List Nat → St → Option St
  | 0, _, _, s => some s
  | _ + 1, [], _, s => some s
  | n + 1, b :: todo, done, s => if done.contains b = true then fillBS n todo done s else match boxP (look s.bx b) with
    | some vs => bO (fillAS 40 (arsOfL vs) s) fun s' => fillBS n (todo ++ bxsOfL vs) (done ++ [b]) s'
    | none => fillBS n todo (done ++ [b]) s
theorem fillB_run {α : Type} : ∀ (n : Nat) (todo done : List Nat) (s : St) (k : M α), (fillB n todo done k).run g s = bO (fillBS n todo done s) fun s' => k.run g s'
  | 0, _, _, s, k => rfl
  | _ + 1, [], _, s, k => rfl
  | n + 1, b :: todo, done, s, k => by
    simp only [fillB, fillBS]
    by_cases h : done.contains b = true
    · rw [if_pos h, if_pos h]; exact fillB_run n todo done s k
    · rw [if_neg h, if_neg h]
      simp only [M.run, St.get]
      cases look s.bx b with
      | none => exact fillB_run n _ _ s k
      | some c =>
        cases c with
        | b vs =>
          simp only [boxP]
          rw [fillA_run]
          cases fillAS 40 (arsOfL vs) s with
          | none => rfl
          | some s' => simp only [bO]; exact fillB_run n _ _ s' k
        | _ => exact fillB_run n _ _ s k
def fillVS (vs : List V) (s : St) : Option St := bO (fillAS 40 (arsOfL vs) s) fun s' => fillBS 20 (bxsOfL vs) [] s'
theorem fillV_run {α : Type} (vs : List V) (s : St) (k : M α) : (fillV vs k).run g s = bO (fillVS vs s) fun s' => k.run g s' := by
  simp only [fillV, fillVS, fillA_run]
  cases fillAS 40 (arsOfL vs) s with
  | none => rfl
  | some s' => exact fillB_run 20 _ _ s' k
/-! a call -/
def callS (own : Nat → Nat → Mode) (g : Ora) (d f : Nat) (args : List V) (s : St) : Option (V × St) :=
  bO (preS (((lentOf (own f) args.length).map fun i => args.getD i (.tu [])).flatMap cellsOf) s) fun _ =>
  bO (expAS (own f) 0 s args) fun e => bO (collS 20 (bxsOfL e.1.1) [] [] e.2) fun c => bO (seeS e.1.2 c.2) fun _ =>
  bO (g f (renBL (idxOf c.1.1) e.1.1) (c.1.2.map (renC (idxOf c.1.1)))) fun r =>
  let all := c.1.1 ++ (List.range (r.2.length - c.1.1.length)).map fun j => d + j
  let nm := fun i => all.getD i 0
  let q := impL (renBL nm (unpack (lentOf (own f) args.length).length r.1)) d
  bO (freezeS (if (hasFz r.1 || hasFzC r.2) = true then e.1.2 else []) c.2) fun s1 => bO (newBS ((List.range (r.2.length - c.1.1.length)).map fun j => d + j) s1) fun s2 => bO (wrAS q.2.2 s2) fun s3 =>
  bO (backS all (r.2.map (renC nm)) q.2.1 s3) fun s4 =>
  bO (reviveS ((((lentOf (own f) args.length).map fun i => (args.getD i (.tu []), e.1.1.getD i (.tu []))).zip (q.1.drop 1)).flatMap split3) s4) fun s5 => some (q.1.getD 0 (.tu []), s5)
theorem bO_bO {α β γ : Type} (x : Option α) (f : α → Option β) (k : β → Option γ) : bO (bO x f) k = bO x fun a => bO (f a) k := by cases x <;> rfl
theorem callM_run {α : Type} (d f : Nat) (args : List V) (s : St) (k : V → M α) : (callM own d f args k).run g s = bO (callS own g d f args s) fun q => (k q.1).run g q.2 := by
  unfold callM callS
  simp only [pre_run, expA_run, coll_run, see_run, bO_bO]
  congr 1; funext _
  congr 1; funext e
  congr 1; funext c
  congr 1; funext _
  simp only [M.run]
  cases g f (renBL (idxOf c.1.1) e.1.1) (c.1.2.map (renC (idxOf c.1.1))) with
  | none => rfl
  | some r =>
    simp only [bO, freeze_run, newB_run, wrA_run, back_run, revive_run]
theorem callR_S (f : Nat) (vs : List V) : callR own g d f l vs s = bO (fillVS vs s) fun s' => bO (callS own g (1000 * (d + 1)) f vs s') fun q => runOps own g l { q.2 with tm := setA q.2.tm d q.1 } := by
  unfold callR
  rw [fillV_run, bO_bO]
  congr 1; funext s'
  rw [callM_run, bO_bO]
  rfl
/-! a store, and rows that are taken -/
def storeA (n i off : Nat) (ws : List V) (c : Option Cell) : Option Cell := match c with
  | some (.a false xs) => bO xs[i]? fun cs => if off + n ≤ cs.length then some (.a false (xs.set i (setAt cs off ws))) else none
  | some (.h xs) => bO xs[i]? fun cs => if off + n ≤ cs.length then some (.h (xs.set i (setAt cs off ws))) else none
  | _ => none
theorem storeA_a (n i off : Nat) (ws : List V) (xs : List (List V)) : storeA n i off ws (some (.a false xs)) = bO xs[i]? fun cs => if off + n ≤ cs.length then some (.a false (xs.set i (setAt cs off ws))) else none := nr rfl
theorem storeA_h (n i off : Nat) (ws : List V) (xs : List (List V)) : storeA n i off ws (some (.h xs)) = bO xs[i]? fun cs => if off + n ≤ cs.length then some (.h (xs.set i (setAt cs off ws))) else none := nr rfl
theorem storeR_S (n a i off : Nat) (w : V) : storeR own g l s n (.ep a i off) w = if ((cellsOf w).length = n ∧ (cellsOf w).all one1 = true) then bO (expVL' true s (cellsOf w)) fun e => if e.1.1.all clo1 = true then bO (storeA n i off e.1.1 (look e.2.ar a)) fun c => runOps own g l { e.2 with ar := setA e.2.ar a c } else none else none := by
  unfold storeR
  rw [chk_run]
  by_cases h : (cellsOf w).length = n ∧ (cellsOf w).all one1 = true
  · rw [if_pos h, if_pos (by simp [h.1, h.2])]
    simp only [cloL, expL_runV, bO_bO]
    congr 1; funext e
    rw [chk_run]
    split
    · simp only [M.run, St.get]
      cases look e.2.ar a with
      | none => rfl
      | some c =>
        cases c with
        | a fz xs =>
          cases fz with
          | true => rfl
          | false =>
            simp only [Bool.false_eq_true, if_false, storeA]
            cases xs[i]? with
            | none => rfl
            | some cs =>
              simp only [bO]
              by_cases h2 : off + n ≤ cs.length
              · rw [if_pos h2, if_pos h2]; rfl
              · rw [if_neg h2, if_neg h2]; rfl
        | h xs =>
          simp only [storeA]
          cases xs[i]? with
          | none => rfl
          | some cs =>
            simp only [bO]
            by_cases h2 : off + n ≤ cs.length
            · rw [if_pos h2, if_pos h2]; rfl
            · rw [if_neg h2, if_neg h2]; rfl
        | _ => rfl
    · rfl
  · rw [if_neg h, if_neg (by simpa using h)]; rfl
def takeX (s : St) (n : Nat) (ag : Bool) (a i off d : Nat) (xs : List (List V)) : Option (V × St) := bO xs[i]? fun cs =>
  if (decide (off + (if ag then n else 1) ≤ cs.length ∧ 0 < (if ag then n else 1)) && ((cs.drop off).take (if ag then n else 1)).all tk1 && allLen cs.length xs) = true then
    bO (wrAS (impL ((cs.drop off).take (if ag then n else 1)) d).2.2 { s with ar := setA s.ar a .dead }) fun s1 =>
      some (if ag then .ag (impL ((cs.drop off).take (if ag then n else 1)) d).1 else (impL ((cs.drop off).take (if ag then n else 1)) d).1.getD 0 (.tu []), { s1 with ar := setA s1.ar a (.h (xs.set i (setAt cs off (impL ((cs.drop off).take (if ag then n else 1)) d).1))) })
  else none
theorem takeM_run {α : Type} (n : Nat) (ag : Bool) (a : Nat) (xs : List (List V)) (i off d : Nat) (s : St) (k : V → M α) : (takeM n ag a xs i off d k).run g s = bO (takeX s n ag a i off d xs) fun q => (k q.1).run g q.2 := by
  unfold takeM takeX
  cases xs[i]? with
  | none => rfl
  | some cs =>
    simp only [bO, chk_run]
    generalize (if ag = true then n else 1) = m
    generalize (decide (off + m ≤ cs.length ∧ 0 < m) && ((cs.drop off).take m).all tk1 && allLen cs.length xs) = c
    cases c with
    | false => rfl
    | true =>
      simp only [if_true, M.run, St.put, wrA_run]
      generalize wrAS _ _ = z
      cases z <;> rfl
def takeC (s : St) (n : Nat) (ag : Bool) (a i off d : Nat) (c : Option Cell) : Option (V × St) := match c with
  | some (.a true xs) => bO xs[i]? fun cs => bO (ldN n ag true cs off) fun v => some (v, s)
  | some (.a false xs) => takeX s n ag a i off d xs
  | some (.h xs) => takeX s n ag a i off d xs
  | _ => none
theorem takeC_t (n : Nat) (ag : Bool) (a i off d : Nat) (xs : List (List V)) : takeC s n ag a i off d (some (.a true xs)) = bO xs[i]? fun cs => bO (ldN n ag true cs off) fun v => some (v, s) := nr rfl
theorem takeC_f (n : Nat) (ag : Bool) (a i off d : Nat) (xs : List (List V)) : takeC s n ag a i off d (some (.a false xs)) = takeX s n ag a i off d xs := nr rfl
theorem takeC_h (n : Nat) (ag : Bool) (a i off d : Nat) (xs : List (List V)) : takeC s n ag a i off d (some (.h xs)) = takeX s n ag a i off d xs := nr rfl
theorem takeX_eq (n : Nat) (ag : Bool) (a i off d : Nat) (xs : List (List V)) : takeX s n ag a i off d xs = bO xs[i]? fun cs =>
  if (decide (off + (if ag then n else 1) ≤ cs.length ∧ 0 < (if ag then n else 1)) && ((cs.drop off).take (if ag then n else 1)).all tk1 && allLen cs.length xs) = true then
    bO (wrAS (impL ((cs.drop off).take (if ag then n else 1)) d).2.2 { s with ar := setA s.ar a .dead }) fun s1 =>
      some (if ag then .ag (impL ((cs.drop off).take (if ag then n else 1)) d).1 else (impL ((cs.drop off).take (if ag then n else 1)) d).1.getD 0 (.tu []), { s1 with ar := setA s1.ar a (.h (xs.set i (setAt cs off (impL ((cs.drop off).take (if ag then n else 1)) d).1))) })
  else none := nr rfl
theorem takeR_S (n : Nat) (ag : Bool) (a i off : Nat) : takeR own g d l s n ag (.ep a i off) = bO (takeC s n ag a i off (1000 * (d + 1)) (look s.ar a)) fun q => runOps own g l { q.2 with tm := setA q.2.tm d q.1 } := by
  unfold takeR
  simp only [M.run, St.get]
  cases look s.ar a with
  | none => rfl
  | some c =>
    cases c with
    | a fz xs =>
      cases fz with
      | true =>
        simp only [if_true, takeC]
        cases xs[i]? with
        | none => rfl
        | some cs => simp only [bO]; cases ldN n ag true cs off <;> rfl
      | false =>
        simp only [Bool.false_eq_true, if_false, takeC, takeM_run, bO_bO]
        rfl
    | h xs => simp only [takeC, takeM_run, bO_bO]; rfl
    | _ => rfl
/-! a function's begin and end, the loop's head -/
def putS : Nat → List V → St → St
  | _, [], s => s
  | n, v :: l, s => putS (n + 1) l { s with tm := setA s.tm n v }
theorem put_run : ∀ (n : Nat) (vs : List V) (s : St), (putAll n vs).run g s = some ((), putS n vs s)
  | _, [], s => rfl
  | n, v :: l, s => by simp only [putAll, putS, M.run, St.put]; exact put_run (n + 1) l _
def initS (args : List V) (bxs : List Cell) (s : St) : Option St :=
  bO (newBS (List.range bxs.length) s) fun s1 => bO (wrAS (impL args 0).2.2 s1) fun s2 => bO (backS (List.range bxs.length) bxs (impL args 0).2.1 s2) fun s3 => some (putS 0 (impL args 0).1 s3)
theorem init_run (args : List V) (bxs : List Cell) (s : St) : (initM args bxs).run g s = bO (initS args bxs s) fun s' => some ((), s') := by
  unfold initM initS
  simp only [newB_run, wrA_run, back_run, bO_bO, put_run]
  rfl
def bxOff (v : V) : Option (Nat × Nat) := match v with | .bx b off => some (b, off) | _ => none
theorem bxOff_bx (b off : Nat) : bxOff (.bx b off) = some (b, off) := nr rfl
def getR1 (s : St) : RI → Option V
  | .t n => look s.tm n
  | .c n sz ag => bO (look s.tm n) fun v => bO (bxOff v) fun p => bO (boxP (look s.bx p.1)) fun cs => if ag then (if p.2 + sz ≤ cs.length then some (.ag ((cs.drop p.2).take sz)) else none) else cs[p.2]?
theorem getR_run {α : Type} (x : RI) (s : St) (k : V → M α) : (getR x k).run g s = bO (getR1 s x) fun v => (k v).run g s := by
  cases x with
  | t n =>
    simp only [getR, getR1]
    rw [get_run]; rfl
  | c n sz ag =>
    simp only [getR, getR1]
    rw [get_run]
    simp only [val]
    cases look s.tm n with
    | none => rfl
    | some v =>
      cases v with
      | bx b off =>
        simp only [bO, bxOff, rdB, M.run, St.get]
        cases look s.bx b with
        | none => rfl
        | some c =>
          cases c with
          | b cs =>
            simp only [boxP]
            cases ag with
            | true =>
              simp only [if_true]
              by_cases h : off + sz ≤ cs.length
              · rw [if_pos h, if_pos h]
              · rw [if_neg h, if_neg h]; rfl
            | false =>
              simp only [Bool.false_eq_true, if_false]
              cases cs[off]? <;> rfl
          | _ => rfl
      | _ => rfl
def getRS (s : St) : List RI → Option (List V)
  | [] => some []
  | x :: l => bO (getR1 s x) fun v => bO (getRS s l) fun vs => some (v :: vs)
theorem getsR_run {α : Type} : ∀ (l : List RI) (s : St) (k : List V → M α), (getsR l k).run g s = bO (getRS s l) fun vs => (k vs).run g s
  | [], s, k => rfl
  | x :: l, s, k => by
    simp only [getsR, getRS, getR_run]
    cases getR1 s x with
    | none => rfl
    | some v =>
      simp only [bO]
      rw [getsR_run l]
      cases getRS s l <;> rfl
def finishS (res : List RI) (lent : List Nat) (nb : Nat) (s : St) : Option (V × List Cell) :=
  bO (getRS s (res ++ lent.map RI.t)) fun vs => bO (fillVS vs s) fun s1 => bO (fillBS 20 (List.range nb) [] s1) fun s2 => bO (expVL' true s2 vs) fun e =>
  bO (collS 20 (List.range nb ++ bxsOfL e.1.1) [] [] e.2) fun c => some (renB (idxOf c.1.1) (pack lent.length e.1.1), c.1.2.map (renC (idxOf c.1.1)))
theorem finish_run (res : List RI) (lent : List Nat) (nb : Nat) (s : St) {β : Type} (k : V × List Cell → Option β) : bO ((finishM res lent nb).run g s) (fun x => k x.1) = bO (finishS res lent nb s) k := by
  unfold finishM finishS
  simp only [getsR_run, fillV_run, fillB_run, expL_runV, coll_run, bO_bO]
  rfl
noncomputable def bodyC (E : Env) (ev : Task → Option Ans) (f : Nat) (av : List V) (bs : List Cell) (x : Option IFun) : Option Ans := match x with
  | none => bO (E.lib f av bs) fun x => some (.val x.1 x.2)
  | some F => if F.lent = lentOf (E.own f) av.length then bO (initS av bs ⟨bs.length, [], [], []⟩) fun i => bO (exec E.own ev F.body i) fun r => if r.1.isX = true then none else bO (finishS F.res F.lent bs.length r.2) fun x => some (.val x.1 x.2) else none
theorem body_call (E : Env) (ev : Task → Option Ans) (f : Nat) (av : List V) (bs : List Cell) : body E ev (.call f av bs) = bodyC E ev f av bs (E.fn f) := by
  simp only [body, bodyC]
  cases E.fn f with
  | none => rfl
  | some F =>
    simp only
    by_cases h : F.lent = lentOf (E.own f) av.length
    · rw [if_pos h, if_pos h]
      simp only [bO]
      rw [init_run]
      cases initS av bs ⟨bs.length, [], [], []⟩ with
      | none => rfl
      | some i =>
        simp only [bO]
        cases exec E.own ev F.body i with
        | none => rfl
        | some r =>
          simp only
          split
          · rfl
          · exact finish_run F.res F.lent bs.length r.2 fun x => some (Ans.val x.1 x.2)
    · rw [if_neg h, if_neg h]; rfl
theorem bodyC_some (E : Env) (ev : Task → Option Ans) (f : Nat) (av : List V) (bs : List Cell) (F : IFun) : bodyC E ev f av bs (some F) = if F.lent = lentOf (E.own f) av.length then bO (initS av bs ⟨bs.length, [], [], []⟩) fun i => bO (exec E.own ev F.body i) fun r => if r.1.isX = true then none else bO (finishS F.res F.lent bs.length r.2) fun x => some (.val x.1 x.2) else none := nr rfl
theorem norm_S (keep : List Nat) (s : St) : norm keep s = bO (fillVS ((keepT s keep).map (·.2)) s) fun s1 => bO (fillBS 20 (List.range s.np) [] s1) fun s2 => norm0 keep (nameE { s2 with tm := keepT s2 keep }) := by
  unfold norm
  simp only [fillV_run, fillB_run, bO_bO]
  rfl
/-! lookups in steps of eight -/
def nk : List Nat → Nat → Bool
  | [], _ => true
  | k :: l, n => (k != n) && nk l n
theorem look_hit {α : Type} (n : Nat) (v : α) (l : List (Nat × α)) : look ((n, v) :: l) n = some v := by simp [look]
theorem look_miss {α : Type} (k : Nat) (v : α) (l : List (Nat × α)) (n : Nat) (h : nk [k] n = true) : look ((k, v) :: l) n = look l n := by
  simp only [nk, Bool.and_true, bne_iff_ne, ne_eq] at h
  simp [look, h]
theorem setA_hit {α : Type} (n : Nat) (v x : α) (l : List (Nat × α)) : setA ((n, v) :: l) n x = (n, x) :: l := by simp [setA]
theorem setA_miss {α : Type} (k : Nat) (v x : α) (l : List (Nat × α)) (n : Nat) (h : nk [k] n = true) : setA ((k, v) :: l) n x = (k, v) :: setA l n x := by
  simp only [nk, Bool.and_true, bne_iff_ne, ne_eq] at h
  simp [setA, h]
theorem look_8 {α : Type} (k1 k2 k3 k4 k5 k6 k7 k8 : Nat) (v1 v2 v3 v4 v5 v6 v7 v8 : α) (l : List (Nat × α)) (n : Nat) (h : nk [k1, k2, k3, k4, k5, k6, k7, k8] n = true) : look ((k1, v1) :: (k2, v2) :: (k3, v3) :: (k4, v4) :: (k5, v5) :: (k6, v6) :: (k7, v7) :: (k8, v8) :: l) n = look l n := by
  simp only [nk, Bool.and_true, Bool.and_eq_true, bne_iff_ne, ne_eq] at h
  obtain ⟨h1, h2, h3, h4, h5, h6, h7, h8⟩ := h
  simp [look, h1, h2, h3, h4, h5, h6, h7, h8]
theorem setA_8 {α : Type} (k1 k2 k3 k4 k5 k6 k7 k8 : Nat) (v1 v2 v3 v4 v5 v6 v7 v8 x : α) (l : List (Nat × α)) (n : Nat) (h : nk [k1, k2, k3, k4, k5, k6, k7, k8] n = true) : setA ((k1, v1) :: (k2, v2) :: (k3, v3) :: (k4, v4) :: (k5, v5) :: (k6, v6) :: (k7, v7) :: (k8, v8) :: l) n x = (k1, v1) :: (k2, v2) :: (k3, v3) :: (k4, v4) :: (k5, v5) :: (k6, v6) :: (k7, v7) :: (k8, v8) :: setA l n x := by
  simp only [nk, Bool.and_true, Bool.and_eq_true, bne_iff_ne, ne_eq] at h
  obtain ⟨h1, h2, h3, h4, h5, h6, h7, h8⟩ := h
  simp [setA, h1, h2, h3, h4, h5, h6, h7, h8]
/-! these functions, step by step -/
theorem expV_rf (ow : Bool) (s : St) (a off len : Nat) : expV ow s (.rf a off len) = expR ow s a off len := nr (by simp only [expV])
theorem expR_eq (ow : Bool) (s : St) (a off len : Nat) : expR ow s a off len = bO (rdAP (look s.ar a)) fun p => if off + len ≤ p.2.length then (if (ow && !p.1) = true then (if (decide (off = 0 ∧ len = p.2.length) || decide (0 < len)) = true then some ((.ls true (sub p.2 off len), []), { s with ar := setA s.ar a .dead }) else none) else some ((.ls false (frzR (sub p.2 off len)), if p.1 then [] else [a]), s)) else none := nr rfl
theorem expV_ag (ow : Bool) (s : St) (cs : List V) : expV ow s (.ag cs) = bO (expVL' ow s cs) fun q => some ((.ag q.1.1, q.1.2), q.2) := nr (by simp only [expV])
theorem expV_tu (ow : Bool) (s : St) (cs : List V) : expV ow s (.tu cs) = bO (expVL' ow s cs) fun q => some ((.tu q.1.1, q.1.2), q.2) := nr (by simp only [expV])
theorem expV_fn (ow : Bool) (s : St) (f : Nat) (cs : List V) : expV ow s (.fn f cs) = if cs.all cap1 = true then some ((.fn f cs, []), s) else none := nr (by simp only [expV])
theorem expV_sc (ow : Bool) (s : St) (x : Value) : expV ow s (.sc x) = some ((.sc x, []), s) := nr (by simp only [expV])
theorem expV_ls (ow : Bool) (s : St) (o : Bool) (xs : List (List V)) : expV ow s (.ls o xs) = some ((.ls o xs, []), s) := nr (by simp only [expV])
theorem expV_bx (ow : Bool) (s : St) (b o : Nat) : expV ow s (.bx b o) = some ((.bx b o, []), s) := nr (by simp only [expV])
theorem expV_mp (ow : Bool) (s : St) (b : Nat) : expV ow s (.mp b) = some ((.mp b, []), s) := nr (by simp only [expV])
theorem expVL_n (ow : Bool) (s : St) : expVL' ow s [] = some (([], []), s) := nr rfl
theorem expVL_c (ow : Bool) (s : St) (v : V) (l : List V) : expVL' ow s (v :: l) = bO (expV ow s v) fun p => bO (expVL' ow p.2 l) fun q => some ((p.1.1 :: q.1.1, p.1.2 ++ q.1.2), q.2) := nr (by simp only [expVL'])
theorem expAS_n (ow : Nat → Mode) (i : Nat) (s : St) : expAS ow i s [] = some (([], []), s) := nr rfl
theorem expAS_c (ow : Nat → Mode) (i : Nat) (s : St) (v : V) (l : List V) : expAS ow i s (v :: l) = bO (expV (ow i).gives s v) fun p => bO (expAS ow (i + 1) p.2 l) fun q => some ((p.1.1 :: q.1.1, p.1.2 ++ q.1.2), q.2) := nr rfl
theorem collS_n (n : Nat) (done : List Nat) (cs : List Cell) (s : St) : collS (n + 1) [] done cs s = some ((done, cs), s) := nr rfl
theorem collS_c (n : Nat) (b : Nat) (todo done : List Nat) (cs : List Cell) (s : St) : collS (n + 1) (b :: todo) done cs s = if done.contains b = true then collS n todo done cs s else
    bO (collC s (look s.bx b)) fun q => collS n (todo ++ q.1.2) (done ++ [b]) (cs ++ [q.1.1]) { q.2 with bx := setA q.2.bx b .dead } := nr rfl
theorem seeS_n (s : St) : seeS [] s = some () := nr rfl
theorem seeS_c (a : Nat) (l : List Nat) (s : St) : seeS (a :: l) s = bO (rdAP (look s.ar a)) fun _ => seeS l s := nr rfl
theorem freezeS_n (s : St) : freezeS [] s = some s := nr rfl
theorem freezeS_c (a : Nat) (l : List Nat) (s : St) : freezeS (a :: l) s = bO (rdAP (look s.ar a)) fun p => freezeS l { s with ar := setA s.ar a (.a true p.2) } := nr rfl
theorem newBS_n (s : St) : newBS [] s = some s := nr rfl
theorem newBS_c (b : Nat) (l : List Nat) (s : St) : newBS (b :: l) s = bO (newNP (look s.bx b)) fun _ => newBS l { s with bx := setA s.bx b .dead } := nr rfl
theorem wrAS_n (s : St) : wrAS [] s = some s := nr rfl
theorem wrAS_c (n : Nat) (xs : List (List V)) (l : List (Nat × List (List V))) (s : St) : wrAS ((n, xs) :: l) s = bO (newNP (look s.ar n)) fun _ => wrAS l { s with ar := setA s.ar n (.a false xs) } := nr rfl
theorem backS_n (n : Nat) (s : St) : backS [] [] n s = some s := nr rfl
theorem backS_b (b : Nat) (bs : List Nat) (vs : List V) (cs : List Cell) (n : Nat) (s : St) : backS (b :: bs) (.b vs :: cs) n s = bO (wrAS (impL vs n).2.2 s) fun s' => backS bs cs (impL vs n).2.1 { s' with bx := setA s'.bx b (.b (impL vs n).1) } := nr rfl
theorem backS_m (b : Nat) (bs : List Nat) (es : MapV) (cs : List Cell) (n : Nat) (s : St) : backS (b :: bs) (.m es :: cs) n s = backS bs cs n { s with bx := setA s.bx b (.m es) } := nr rfl
theorem reviveS_n (s : St) : reviveS [] s = some s := nr rfl
theorem reviveS_c (p : (V × V) × V) (l : List ((V × V) × V)) (s : St) : reviveS (p :: l) s = bO (rev1 p s) fun s' => reviveS l s' := nr rfl
theorem preS_n (s : St) : preS [] s = some () := nr rfl
theorem preS_c (v : V) (l : List V) (s : St) : preS (v :: l) s = bO (pre1 v s) fun _ => preS l s := nr rfl
theorem fillCS_n (s : St) : fillCS [] s = some ([], s) := nr rfl
theorem fillCS_rf (m off len : Nat) (l : List V) (s : St) : fillCS (.rf m off len :: l) s = bO (rdAP (look s.ar m)) fun p => if (decide (off = 0 ∧ len = p.2.length) && !p.1) = true then bO (fillCS l { s with ar := setA s.ar m .dead }) fun q => some (.ls true p.2 :: q.1, q.2) else none := nr rfl
theorem fillCS_sc (x : Value) (l : List V) (s : St) : fillCS (.sc x :: l) s = bO (fillCS l s) fun q => some (.sc x :: q.1, q.2) := nr rfl
theorem fillCS_ls (o : Bool) (x : List (List V)) (l : List V) (s : St) : fillCS (.ls o x :: l) s = bO (fillCS l s) fun q => some (.ls o x :: q.1, q.2) := nr rfl
theorem fillAS_n (n : Nat) (s : St) : fillAS n [] s = some s := nr (by cases n <;> rfl)
theorem fillAS_c (n : Nat) (a : Nat) (l : List Nat) (s : St) : fillAS (n + 1) (a :: l) s = match heldP (look s.ar a) with
    | some xs => bO (fillAS n (rfsX xs) s) fun s1 => bO (heldP (look s1.ar a)) fun xs => bO (fillXS xs { s1 with ar := setA s1.ar a .dead }) fun q => fillAS n l { q.2 with ar := setA q.2.ar a (.a false q.1) }
    | none => fillAS n l s := nr rfl
theorem fillBS_n (n : Nat) (done : List Nat) (s : St) : fillBS n [] done s = some s := nr (by cases n <;> rfl)
theorem fillBS_c (n : Nat) (b : Nat) (todo done : List Nat) (s : St) : fillBS (n + 1) (b :: todo) done s = if done.contains b = true then fillBS n todo done s else match boxP (look s.bx b) with
    | some vs => bO (fillAS 40 (arsOfL vs) s) fun s' => fillBS n (todo ++ bxsOfL vs) (done ++ [b]) s'
    | none => fillBS n todo (done ++ [b]) s := nr rfl
theorem fillVS_eq (vs : List V) (s : St) : fillVS vs s = bO (fillAS 40 (arsOfL vs) s) fun s' => fillBS 20 (bxsOfL vs) [] s' := nr rfl
theorem callS_eq (own : Nat → Nat → Mode) (g : Ora) (d f : Nat) (args : List V) (s : St) : callS own g d f args s =
  bO (preS (((lentOf (own f) args.length).map fun i => args.getD i (.tu [])).flatMap cellsOf) s) fun _ =>
  bO (expAS (own f) 0 s args) fun e => bO (collS 20 (bxsOfL e.1.1) [] [] e.2) fun c => bO (seeS e.1.2 c.2) fun _ =>
  bO (g f (renBL (idxOf c.1.1) e.1.1) (c.1.2.map (renC (idxOf c.1.1)))) fun r =>
  bO (freezeS (if (hasFz r.1 || hasFzC r.2) = true then e.1.2 else []) c.2) fun s1 => bO (newBS ((List.range (r.2.length - c.1.1.length)).map fun j => d + j) s1) fun s2 => bO (wrAS (impL (renBL (fun i => (c.1.1 ++ (List.range (r.2.length - c.1.1.length)).map fun j => d + j).getD i 0) (unpack (lentOf (own f) args.length).length r.1)) d).2.2 s2) fun s3 =>
  bO (backS (c.1.1 ++ (List.range (r.2.length - c.1.1.length)).map fun j => d + j) (r.2.map (renC fun i => (c.1.1 ++ (List.range (r.2.length - c.1.1.length)).map fun j => d + j).getD i 0)) (impL (renBL (fun i => (c.1.1 ++ (List.range (r.2.length - c.1.1.length)).map fun j => d + j).getD i 0) (unpack (lentOf (own f) args.length).length r.1)) d).2.1 s3) fun s4 =>
  bO (reviveS ((((lentOf (own f) args.length).map fun i => (args.getD i (.tu []), e.1.1.getD i (.tu []))).zip ((impL (renBL (fun i => (c.1.1 ++ (List.range (r.2.length - c.1.1.length)).map fun j => d + j).getD i 0) (unpack (lentOf (own f) args.length).length r.1)) d).1.drop 1)).flatMap split3) s4) fun s5 => some ((impL (renBL (fun i => (c.1.1 ++ (List.range (r.2.length - c.1.1.length)).map fun j => d + j).getD i 0) (unpack (lentOf (own f) args.length).length r.1)) d).1.getD 0 (.tu []), s5) := nr rfl
theorem putS_n (n : Nat) (s : St) : putS n [] s = s := nr rfl
theorem putS_c (n : Nat) (v : V) (l : List V) (s : St) : putS n (v :: l) s = putS (n + 1) l { s with tm := setA s.tm n v } := nr rfl
theorem initS_eq (args : List V) (bxs : List Cell) (s : St) : initS args bxs s = bO (newBS (List.range bxs.length) s) fun s1 => bO (wrAS (impL args 0).2.2 s1) fun s2 => bO (backS (List.range bxs.length) bxs (impL args 0).2.1 s2) fun s3 => some (putS 0 (impL args 0).1 s3) := nr rfl
theorem getR1_t (s : St) (n : Nat) : getR1 s (.t n) = look s.tm n := nr rfl
theorem getR1_c (s : St) (n sz : Nat) (ag : Bool) : getR1 s (.c n sz ag) = bO (look s.tm n) fun v => bO (bxOff v) fun p => bO (boxP (look s.bx p.1)) fun cs => if ag then (if p.2 + sz ≤ cs.length then some (.ag ((cs.drop p.2).take sz)) else none) else cs[p.2]? := nr rfl
theorem getRS_n (s : St) : getRS s [] = some [] := nr rfl
theorem getRS_c (s : St) (x : RI) (l : List RI) : getRS s (x :: l) = bO (getR1 s x) fun v => bO (getRS s l) fun vs => some (v :: vs) := nr rfl
theorem finishS_eq (res : List RI) (lent : List Nat) (nb : Nat) (s : St) : finishS res lent nb s =
  bO (getRS s (res ++ lent.map RI.t)) fun vs => bO (fillVS vs s) fun s1 => bO (fillBS 20 (List.range nb) [] s1) fun s2 => bO (expVL' true s2 vs) fun e =>
  bO (collS 20 (List.range nb ++ bxsOfL e.1.1) [] [] e.2) fun c => some (renB (idxOf c.1.1) (pack lent.length e.1.1), c.1.2.map (renC (idxOf c.1.1))) := nr rfl
/-! steps without matches -/
theorem ro_pick' (c x y : Ar) : runOps own g (⟨some d, .pick c x y, none⟩ :: l) s = bO (val s c) fun v => bO (boolP v) fun t => bO (if t = true then val s x else val s y) fun v => runOps own g l { s with tm := setA s.tm d v } := by
  rw [ro_pick]
  cases val s c with
  | none => rfl
  | some v =>
    cases v with
    | sc u => cases u <;> rfl
    | _ => rfl
theorem ro_not' (x : Ar) : runOps own g (⟨some d, .un .not x, none⟩ :: l) s = bO (val s x) fun v => bO (boolP v) fun t => runOps own g l { s with tm := setA s.tm d (.sc (.bool !t)) } := by
  rw [ro_not]
  cases val s x with
  | none => rfl
  | some v =>
    cases v with
    | sc u => cases u <;> rfl
    | _ => rfl
def convP (c : IntKind) (v : V) : Option V := match v with | .sc (.int _ n) => some (.sc (.int c (c.wrap n))) | _ => none
theorem convP_i (c k : IntKind) (n : Int) : convP c (.sc (.int k n)) = some (.sc (.int c (c.wrap n))) := nr rfl
theorem ro_conv' (c : IntKind) (x : Ar) : runOps own g (⟨some d, .conv c x, none⟩ :: l) s = bO (val s x) fun v => bO (convP c v) fun v => runOps own g l { s with tm := setA s.tm d v } := by
  rw [ro_conv]
  cases val s x with
  | none => rfl
  | some v =>
    cases v with
    | sc u => cases u <;> rfl
    | _ => rfl
def guardP (v : V) : Option (Option Bool) := match v with | .sc (.bool b) => some (some b) | .tu [] => some none | _ => none
theorem guardP_b (b : Bool) : guardP (.sc (.bool b)) = some (some b) := nr rfl
theorem guardP_t : guardP (.tu []) = some none := nr rfl
def guardC (own : Nat → Nat → Mode) (g : Ora) (d : Nat) (op : IOp) (l : List Opn) (s : St) (want : Bool) (q : Option Bool) : Option St := match q with
  | some b => if b = want then runOps own g (⟨some d, op, none⟩ :: l) s else runOps own g l { s with tm := setA s.tm d (.tu []) }
  | none => runOps own g l { s with tm := setA s.tm d (.tu []) }
theorem guardC_s (op : IOp) (want b : Bool) : guardC own g d op l s want (some b) = if b = want then runOps own g (⟨some d, op, none⟩ :: l) s else runOps own g l { s with tm := setA s.tm d (.tu []) } := nr rfl
theorem guardC_n (op : IOp) (want : Bool) : guardC own g d op l s want none = runOps own g l { s with tm := setA s.tm d (.tu []) } := nr rfl
theorem ro_guard' (op : IOp) (j : Nat) (want : Bool) : runOps own g (⟨some d, op, some (j, want)⟩ :: l) s = bO (look s.tm j) fun v => bO (guardP v) fun q => guardC own g d op l s want q := by
  rw [ro_guard]
  cases look s.tm j with
  | none => rfl
  | some v =>
    cases v with
    | sc u => cases u <;> rfl
    | tu vs => cases vs <;> rfl
    | _ => rfl
theorem ex_cond' (own : Nat → Nat → Mode) (e : Task → Option Ans) (c : Ar) (x y : IC) (s : St) : exec own e (.cond c x y) s = bO (val s c) fun v => bO (boolP v) fun b => if b = true then exec own e x s else exec own e y s := by
  rw [ex_cond]
  cases val s c with
  | none => rfl
  | some v =>
    cases v with
    | sc u => cases u <;> rfl
    | _ => rfl
def intsP (v w : V) : Option (IntKind × Int × Int) := match v, w with | .sc (.int a n), .sc (.int _ m) => some (a, n, m) | _, _ => none
theorem intsP_i (a b : IntKind) (n m : Int) : intsP (.sc (.int a n)) (.sc (.int b m)) = some (a, n, m) := nr rfl
theorem ro_mn' (x y : Ar) : runOps own g (⟨some d, .mn x y, none⟩ :: l) s = bO (val s x) fun v => bO (val s y) fun w => bO (intsP v w) fun q => runOps own g l { s with tm := setA s.tm d (.sc (.int q.1 (if q.2.2 < q.2.1 then q.2.2 else q.2.1))) } := by
  rw [ro_mn]
  cases val s x with
  | none => rfl
  | some v =>
    simp only [bO]
    cases val s y with
    | none => rfl
    | some w =>
      cases v with
      | sc u =>
        cases u with
        | int a n =>
          cases w with
          | sc t => cases t <;> rfl
          | _ => rfl
        | _ => rfl
      | _ => rfl
theorem ro_mx' (x y : Ar) : runOps own g (⟨some d, .mx x y, none⟩ :: l) s = bO (val s x) fun v => bO (val s y) fun w => bO (intsP v w) fun q => runOps own g l { s with tm := setA s.tm d (.sc (.int q.1 (if q.2.1 < q.2.2 then q.2.2 else q.2.1))) } := by
  rw [ro_mx]
  cases val s x with
  | none => rfl
  | some v =>
    simp only [bO]
    cases val s y with
    | none => rfl
    | some w =>
      cases v with
      | sc u =>
        cases u with
        | int a n =>
          cases w with
          | sc t => cases t <;> rfl
          | _ => rfl
        | _ => rfl
      | _ => rfl
end Go.Pv
