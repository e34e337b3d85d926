/- Proof: the walk: the tree read, the law answers true. No condition. -/
import Derived.Test.YtaadneenebhnoaaGreatDoorPvF
import Derived.ChangeArms
import Derived.WideShapes
import Derived.ProofKit
import Derived.Below
import Derived.Test.YtaadneenebhnoaaGreatDoorTk
import Derived.Test.YtaadneenebhnoaaGreatDoorIh
import Derived.Test.YtaadneenebhnoaaGreatDoorLb
import Derived.Test.YtaadneenebhnoaaGreatDoorIm
import Derived.Test.YtaadneenebhnoaaGreatDoorShelf
import Derived.Lib.LaidTab
import Derived.Lib.AppendIntMem
import Derived.Test.YtaadneenebhnoaaGreatDoorGwL
import Derived.Test.YtaadneenebhnoaaGreatDoorWt
set_option autoImplicit true
set_option relaxedAutoImplicit true
set_option linter.unusedSimpArgs false
set_option linter.unusedVariables false
namespace Go.Pv
open Go.RowKit Go.WideShapes
set_option linter.unusedVariables false
/-- what kind of cells a type has -/
inductive Sh where
 | int (k : IntKind) | str | bool | row (es : List Sh)
mutual
/-- a value of that kind -/
inductive CS : Sh → V → Prop where
 | int (k : IntKind) (n : Int) : CS (.int k) (.sc (.int k n))
 | str (s : ByteArray) : s.size ≤ maxLen → CS .str (.sc (.string s))
 | bool (b : Bool) : CS .bool (.sc (.bool b))
 | row (es : List Sh) (xs : List (List V)) : xs.length ≤ maxLen → (∀ r, r ∈ xs → CSL es r) → CS (.row es) (.ls false xs)
inductive CSL : List Sh → List V → Prop where
 | nil : CSL [] []
 | cons (s : Sh) (ss : List Sh) (v : V) (vs : List V) : CS s v → CSL ss vs → CSL (s :: ss) (v :: vs)
end
theorem CSL.length {ss : List Sh} {vs : List V} (h : CSL ss vs) : vs.length = ss.length := by
 induction vs generalizing ss with
 | nil => cases h; rfl
 | cons v vs ih => cases h with | cons s ss _ _ h1 h2 => simp [ih h2]
theorem CSL.append : ∀ {ss ts : List Sh} {vs ws : List V}, CSL ss vs → CSL ts ws → CSL (ss ++ ts) (vs ++ ws)
 | _, _, _, _, .nil, h => h
 | _, _, _, _, .cons _ _ _ _ h1 h2, h => .cons _ _ _ _ h1 (h2.append h)
def zqN (sh : TypeId → Option (List Sh)) (P : Program) : List Field → Nat → Option (List Sh)
 | [], _ => some []
 | f :: fl, off => if f.offset = off then match sh f.type with
   | some ss => if P.cellsOf f.type = ss.length then (zqN sh P fl (off + ss.length)).map (ss ++ ·) else none
   | none => none
  else none
def shT (P : Program) : Nat → TypeId → Option (List Sh)
 | 0, _ => none
 | n + 1, t => match P.underlying t with
  | some (.int k) => some [.int k]
  | some .string => some [.str]
  | some .bool => some [.bool]
  | some (.struct fs) => match zqN (shT P n) P fs.toList 0 with
   | some ss => if P.cellsOf t = ss.length then some ss else none
   | none => none
  | some (.slice e) => match shT P n e with
   | some es => if P.cellsOf e = es.length ∧ es.length ≠ 0 then some [.row es] else none
   | none => none
  | _ => none
inductive FRs (W : World) : List V → List Value → Prop where
 | nil : FRs W [] []
 | cons {v : V} {x : Value} {vs : List V} {xs : List Value} : FR (fun b => b < W.heap.size) W.heap v x → FRs W vs xs → FRs W (v :: vs) (x :: xs)
theorem FRs.get {W : World} {vs : List V} {cs : List Value} (h : FRs W vs cs) : ∀ {j : Nat} {v : V} {x : Value}, vs[j]? = some v → cs[j]? = some x → FR (fun b => b < W.heap.size) W.heap v x := by
 induction h with
 | nil => intro j v x h1; simp at h1
 | cons h _ ih =>
  intro j v x h1 h2
  cases j with
  | zero => simp at h1 h2; subst h1; subst h2; exact h
  | succ j => simp at h1 h2; exact ih h1 h2
theorem FRs.len {W : World} {vs : List V} {cs : List Value} (h : FRs W vs cs) : vs.length = cs.length := by
 induction h with
 | nil => rfl
 | cons _ _ ih => simp [ih]
theorem zfP (a : Addr) (n : Nat) : (a.add n).block = a.block ∧ (a.add n).off = a.off + n := by
 simp only [Addr.add]
 split
 ·rename_i h; subst h; exact ⟨rfl, rfl⟩
 ·exact ⟨rfl, rfl⟩
theorem znh {W : World} {a c : List V} {b d : List Value} (h1 : FRs W a b) (h2 : FRs W c d) : FRs W (a ++ c) (b ++ d) := by
 induction h1 with
 | nil => exact h2
 | cons h _ ih => exact .cons h ih
theorem zoW {P : Program} {W : World} {sh : TypeId → Option (List Sh)} {cs : List Value} {R : TypeId → List Value → Prop}
  (ih : ∀ t ss c, sh t = some ss → R t c → ∃ vs, CSL ss vs ∧ FRs W vs c) :
  ∀ (fl : List Field) (off : Nat) (ss : List Sh), zqN sh P fl off = some ss → (∀ f, f ∈ fl → R f.type ((cs.drop f.offset).take (P.cellsOf f.type))) → ∃ vs, CSL ss vs ∧ FRs W vs ((cs.drop off).take ss.length) := by
 intro fl
 induction fl with
 | nil => intro off ss h _; simp only [zqN, Option.some.injEq] at h; subst h; exact ⟨[], .nil, by simpa using FRs.nil⟩
 | cons f fl ihl =>
  intro off ss h hR
  simp only [zqN] at h
  split at h
  ·rename_i ho
   split at h
   ·rename_i s1 hs1
    split at h
    ·rename_i hc
     obtain ⟨s2, hs2, rfl⟩ := Option.map_eq_some_iff.1 h
     obtain ⟨v1, c1, f1⟩ := ih _ _ _ hs1 (hR f (by simp))
     obtain ⟨v2, c2, f2⟩ := ihl _ _ hs2 (fun g hg => hR g (by simp [hg]))
     refine ⟨v1 ++ v2, c1.append c2, ?_⟩
     rw [List.length_append, List.take_add, List.drop_drop]
     rw [ho, hc] at f1
     exact znh f1 f2
    ·cases h
   ·cases h
  ·cases h
theorem zem {W : World} {a : Addr} {v : Value} (h : W.cell? a = some v) : a.spot = none ∧ ∃ c t fz, W.heap[a.block]? = some (.cells c t fz) ∧ c[a.off]? = some v := by
 unfold World.cell? at h
 split at h
 ·rename_i c t fz hb
  split at h
  ·cases h
  ·rename_i hs
   refine ⟨?_, c, t, fz, hb, h⟩
   cases hsp : a.spot with
   | none => rfl
   | some _ => simp [hsp] at hs
 ·cases h
theorem zhG {H : Type} {enc : TypeId × Value → H} {P : Program} {W : World} {sp : Nat → Bool} : ∀ (n : Nat) (t : TypeId) (ss : List Sh), shT P n t = some ss → ∀ (fuel : Nat) (cs : List Value) (y : DataW H × List MemPlace), DataW.trod enc P W 0 sp true fuel t cs = some y → ∃ vs, CSL ss vs ∧ FRs W vs cs := by
 intro n
 induction n with
 | zero => intro t ss h; cases h
 | succ n ih =>
  intro t ss h fuel cs y hy
  simp only [shT] at h
  split at h
  ·rename_i k hu
   cases h
   obtain ⟨x, rfl, _, _⟩ := DataW.trod_int hu hy
   exact ⟨[.sc (.int k x)], .cons _ _ _ _ (.int k x) .nil, .cons (.sc _ rfl) .nil⟩
  ·rename_i hu
   cases h
   obtain ⟨s, rfl, _, hs⟩ := DataW.trod_string hu hy
   exact ⟨[.sc (.string s)], .cons _ _ _ _ (.str s hs) .nil, .cons (.sc _ rfl) .nil⟩
  ·rename_i hu
   cases h
   obtain ⟨b, rfl, _⟩ := DataW.trod_bool hu hy
   exact ⟨[.sc (.bool b)], .cons _ _ _ _ (.bool b) .nil, .cons (.sc _ rfl) .nil⟩
  ·rename_i fs hu
   split at h
   ·rename_i s1 hs1
    split at h
    ·rename_i hc
     cases h
     obtain ⟨xs, m, _, _, hl, hxl, hx⟩ := DataW.trod_struct hu hy
     obtain ⟨vs, c1, f1⟩ := zoW (R := fun t c => ∃ y, DataW.trod enc P W 0 sp true m t c = some y) (cs := cs) (fun t ss c h1 ⟨y, h2⟩ => ih t ss h1 m c y h2) fs.toList 0 ss hs1
      (by
       intro f hf
       obtain ⟨i, hi⟩ := List.mem_iff_getElem?.1 hf
       have h1 := hx i f (by simpa using hi)
       have hil : i < xs.length := by
        have := (List.getElem?_eq_some_iff.1 hi).1
        simp at this; omega
       rw [List.getElem?_eq_getElem hil] at h1
       exact ⟨_, h1⟩)
     refine ⟨vs, c1, ?_⟩
     rw [List.drop_zero, List.take_of_length_le (by omega)] at f1
     exact f1
    ·cases h
   ·cases h
  ·rename_i e hu
   split at h
   ·rename_i es hes
    split at h
    ·rename_i hc
     cases h
     obtain ⟨hc, hne⟩ := hc
     rcases DataW.trod_slice hu hy with ⟨rfl, _⟩ | ⟨a, len, cap, elems, rest, m, _, rfl, _, _, hl, hm, hle, hel, _, _⟩
     ·exact ⟨[.ls false []], .cons _ _ _ _ (.row es [] (by simp) (by intro r hr; cases hr)) .nil, .cons (.nil false none 0) .nil⟩
     ·rw [hc] at hel
      have key : ∀ i, i < len → ∃ (c : List Value) (vs : List V), CSL es vs ∧ FRs W vs c ∧ c.length = es.length ∧ ∀ j x, c[j]? = some x → ∃ c' t fz, W.heap[a.block]? = some (.cells c' t fz) ∧ c'[a.off + i * es.length + j]? = some x := by
       intro i hi
       have h1 := hel i hi
       rw [List.getElem?_eq_getElem (by omega)] at h1
       obtain ⟨c, hcells, htr⟩ := Option.bind_eq_some_iff.1 h1
       obtain ⟨_, hlen, hcell⟩ := World.cells?_some hcells
       obtain ⟨vs, c1, f1⟩ := ih e es hes _ _ _ htr
       refine ⟨c, vs, c1, f1, hlen, ?_⟩
       intro j x hj
       have h2 := hcell j (by have := (List.getElem?_eq_some_iff.1 hj).1; omega)
       rw [hj] at h2
       obtain ⟨_, c', t', fz, hb, hx⟩ := zem h2
       rw [(zfP _ _).1, (zfP _ _).1] at hb
       rw [(zfP _ _).2, (zfP _ _).2] at hx
       exact ⟨c', t', fz, hb, hx⟩
      by_cases hz : len = 0
      ·subst hz
       exact ⟨[.ls false []], .cons _ _ _ _ (.row es [] (by simp) (by intro r hr; cases hr)) .nil, .cons (.nil false _ cap) .nil⟩
      ·have hsp : a.spot = none ∧ ∃ c t fz, W.heap[a.block]? = some (.cells c t fz) := by
        have h1 := hel 0 (by omega)
        rw [List.getElem?_eq_getElem (by omega)] at h1
        obtain ⟨c, hcells, htr⟩ := Option.bind_eq_some_iff.1 h1
        obtain ⟨_, hlen, hcell⟩ := World.cells?_some hcells
        have h2 := hcell 0 (by omega)
        rw [List.getElem?_eq_getElem (by omega)] at h2
        have e0 : (a.add (0 * es.length)).add 0 = a := by simp [Addr.add]
        rw [e0] at h2
        obtain ⟨h3, c', t', fz, hb, _⟩ := zem h2
        exact ⟨h3, c', t', fz, hb⟩
       obtain ⟨hsp, c, t', fz, hb⟩ := hsp
       obtain ⟨b, off, spot⟩ := a
       simp only at hsp hb key
       subst hsp
       have key2 : ∀ i : Fin len, ∃ vs : List V, CSL es vs ∧ ∀ j v, vs[j]? = some v → ∃ x, c[off + i.1 * es.length + j]? = some x ∧ FR (fun b => b < W.heap.size) W.heap v x := by
        intro i
        obtain ⟨ci, vs, h1, h2, h3, h4⟩ := key i.1 i.2
        refine ⟨vs, h1, ?_⟩
        intro j v hj
        have hjl : j < ci.length := by rw [h3, ← h1.length]; exact (List.getElem?_eq_some_iff.1 hj).1
        obtain ⟨c', t2, fz2, hb2, hx⟩ := h4 j _ (List.getElem?_eq_getElem hjl)
        rw [hb] at hb2
        cases hb2
        exact ⟨_, hx, h2.get hj (List.getElem?_eq_getElem hjl)⟩
       let xs : List (List V) := List.ofFn fun i : Fin len => Classical.choose (key2 i)
       have hxs : ∀ (i : Nat) (r : List V), xs[i]? = some r → ∃ hi : i < len, r = Classical.choose (key2 ⟨i, hi⟩) := by
        intro i r hr
        have hi : i < len := by have := (List.getElem?_eq_some_iff.1 hr).1; simpa [xs] using this
        refine ⟨hi, ?_⟩
        simp only [xs, List.getElem?_ofFn, hi, dite_true] at hr
        cases hr; rfl
       have hxl : xs.length = len := by simp [xs]
       refine ⟨[.ls false xs], .cons _ _ _ _ (.row es xs (by omega) ?_) .nil, .cons ?_ .nil⟩
       ·intro r hr
        obtain ⟨i, hi⟩ := List.mem_iff_getElem?.1 hr
        obtain ⟨hil, rfl⟩ := hxs i r hi
        exact (Classical.choose_spec (key2 ⟨i, hil⟩)).1
       ·have := FR.ls (sh := fun b => b < W.heap.size) (h := W.heap) false xs b off es.length cap c (fun i j => c.getD (off + i * es.length + j) undef)
         ((Array.getElem?_eq_some_iff.1 hb).1) ⟨t', fz, hb⟩ (by omega) ?_ ?_ ?_
        ·rw [hxl] at this; exact this
        ·intro i r hi
         obtain ⟨hil, rfl⟩ := hxs i r hi
         exact (Classical.choose_spec (key2 ⟨i, hil⟩)).1.length
        ·intro i r j v hi hj
         obtain ⟨hil, rfl⟩ := hxs i r hi
         obtain ⟨x, hx, _⟩ := (Classical.choose_spec (key2 ⟨i, hil⟩)).2 j v hj
         simp only [Array.getD_eq_getD_getElem?]
         simp only at hx
         rw [hx]; rfl
        ·intro i r j v hi hj
         obtain ⟨hil, rfl⟩ := hxs i r hi
         obtain ⟨x, hx, hf⟩ := (Classical.choose_spec (key2 ⟨i, hil⟩)).2 j v hj
         simp only [Array.getD_eq_getD_getElem?]
         simp only at hx
         rw [hx]; exact hf
    ·cases h
   ·cases h
  ·cases h
/-- read cells as shown values -/
theorem zqO {W : World} {bi : Nat → Option Nat} : ∀ {ss : List Sh} {vs : List V} {cs : List Value}, CSL ss vs → FRs W vs cs → XRL (fun b => b < W.heap.size) W.heap bi vs cs []
 | _, _, _, .nil, .nil => .nil
 | _, _, _, .cons s ss v vs h1 h2, .cons f1 f2 => by
  have := zqO (bi := bi) h2 f2
  cases h1 with
  | int k n => cases f1; exact .cons _ _ _ _ [] [] (.sc _ rfl) this
  | str s hs => cases f1; exact .cons _ _ _ _ [] [] (.sc _ rfl) this
  | bool b => cases f1; exact .cons _ _ _ _ [] [] (.sc _ rfl) this
  | row es xs _ _ => exact .cons _ _ _ _ [] [] (.fz _ _ f1) this
/-- an argument that is a struct -/
theorem zws {H : Type} {enc : TypeId × Value → H} {P : Program} {W : World} {base : Nat} {t : TypeId} {fs : Array Field} {v : Value} {d : DataW H} {p : List MemPlace} {bi : Nat → Option Nat} (n : Nat) {ss : List Sh}
  (hu : P.underlying t = some (.struct fs)) (hs : shT P n t = some ss) (o : Value.okWide P W .any base t v) (h : DataW.Trod enc P W 0 (fun _ => true) true t v d p) :
  ∃ vs, CSL ss vs ∧ XR (fun b => b < W.heap.size) W.heap bi (.ag vs) v [] := by
 obtain ⟨cs, rfl, _⟩ := okWide_struct hu o
 obtain ⟨fuel, h⟩ := h
 obtain ⟨vs, c1, f1⟩ := zhG n t ss hs fuel cs.toList _ h
 exact ⟨vs, c1, .ag _ _ [] (zqO c1 f1)⟩
/-- an argument that is a row -/
theorem arg_row {H : Type} {enc : TypeId × Value → H} {P : Program} {W : World} {base : Nat} {t e : TypeId} {v : Value} {d : DataW H} {p : List MemPlace} {bi : Nat → Option Nat} (n : Nat) {s : Sh}
  (hu : P.underlying t = some (.slice e)) (hs : shT P n t = some [s]) (o : Value.okWide P W .any base t v) (h : DataW.Trod enc P W 0 (fun _ => true) true t v d p) :
  ∃ x, CS s x ∧ XR (fun b => b < W.heap.size) W.heap bi x v [] := by
 obtain ⟨a, m, c, rfl⟩ := okWide_slice hu o
 obtain ⟨fuel, h⟩ := h
 obtain ⟨vs, c1, f1⟩ := zhG n t [s] hs fuel [.slice a m c] _ h
 cases c1 with
 | cons _ _ x l d1 d2 =>
  cases f1 with
  | cons g1 g2 =>
   refine ⟨x, d1, ?_⟩
   cases d1 with
   | int k n => cases g1
   | str s hs => cases g1
   | bool b => cases g1
   | row es xs _ _ => exact .fz _ _ g1
/-- rows as lists -/
theorem zl4 {τ : Type} {e : τ → List V} {Q : τ → Prop} : ∀ {xs : List (List V)}, (∀ r, r ∈ xs → ∃ x, r = e x ∧ Q x) → ∃ l : List τ, xs = l.map e ∧ ∀ x, x ∈ l → Q x
 | [], _ => ⟨[], rfl, by intro x hx; cases hx⟩
 | r :: rs, h => by
  obtain ⟨x, rfl, hq⟩ := h r (by simp)
  obtain ⟨l, hl, hq2⟩ := zl4 (xs := rs) (fun r hr => h r (by simp [hr]))
  refine ⟨x :: l, by simp [hl], ?_⟩
  intro y hy
  rcases List.mem_cons.1 hy with rfl | hy
  ·exact hq
  ·exact hq2 y hy
end Go.Pv

namespace Go.Pv
open Go.RowKit Go.WideShapes
set_option linter.unusedVariables false
/-- a row, read, by what its elements are -/
theorem zni {H : Type} {enc : TypeId × Value → H} {P : Program} {W : World} {sp : Nat → Bool} {t e : TypeId} {s : Nat} (hc : P.cellsOf e = s) (hs0 : s ≠ 0) (Q : List V → Prop) (hQ : ∀ vs, Q vs → vs.length = s)
  (hu : P.underlying t = some (.slice e)) {fuel : Nat} {cs : List Value} {y : DataW H × List MemPlace} (hy : DataW.trod enc P W 0 sp true fuel t cs = some y)
  (ih : ∀ (m : Nat) (cs : List Value) (y : DataW H × List MemPlace), m < fuel → DataW.trod enc P W 0 sp true m e cs = some y → ∃ vs, Q vs ∧ FRs W vs cs) :
  ∃ (xs : List (List V)) (v : Value), cs = [v] ∧ FR (fun b => b < W.heap.size) W.heap (.ls false xs) v ∧ xs.length ≤ maxLen ∧ ∀ r, r ∈ xs → Q r := by
 rcases DataW.trod_slice hu hy with ⟨rfl, _⟩ | ⟨a, len, cap, elems, rest, m, hf, rfl, _, _, hl, hm, hle, hel, _, _⟩
 ·exact ⟨[], _, rfl, .nil false none 0, by simp, by intro r hr; cases hr⟩
 ·rw [hc] at hel
  have key : ∀ i, i < len → ∃ (c : List Value) (vs : List V), Q vs ∧ FRs W vs c ∧ c.length = s ∧ ∀ j x, c[j]? = some x → ∃ c' t fz, W.heap[a.block]? = some (.cells c' t fz) ∧ c'[a.off + i * s + j]? = some x := by
   intro i hi
   have h1 := hel i hi
   rw [List.getElem?_eq_getElem (by omega)] at h1
   obtain ⟨c, hcells, htr⟩ := Option.bind_eq_some_iff.1 h1
   obtain ⟨_, hlen, hcell⟩ := World.cells?_some hcells
   obtain ⟨vs, c1, f1⟩ := ih _ _ _ (by omega) htr
   refine ⟨c, vs, c1, f1, hlen, ?_⟩
   intro j x hj
   have h2 := hcell j (by have := (List.getElem?_eq_some_iff.1 hj).1; omega)
   rw [hj] at h2
   obtain ⟨_, c', t', fz, hb, hx⟩ := zem h2
   rw [(zfP _ _).1, (zfP _ _).1] at hb
   rw [(zfP _ _).2, (zfP _ _).2] at hx
   exact ⟨c', t', fz, hb, hx⟩
  by_cases hz : len = 0
  ·subst hz
   exact ⟨[], _, rfl, .nil false _ cap, by simp, by intro r hr; cases hr⟩
  ·have hsp : a.spot = none ∧ ∃ c t fz, W.heap[a.block]? = some (.cells c t fz) := by
    have h1 := hel 0 (by omega)
    rw [List.getElem?_eq_getElem (by omega)] at h1
    obtain ⟨c, hcells, htr⟩ := Option.bind_eq_some_iff.1 h1
    obtain ⟨_, hlen, hcell⟩ := World.cells?_some hcells
    have h2 := hcell 0 (by omega)
    rw [List.getElem?_eq_getElem (by omega)] at h2
    have e0 : (a.add (0 * s)).add 0 = a := by simp [Addr.add]
    rw [e0] at h2
    obtain ⟨h3, c', t', fz, hb, _⟩ := zem h2
    exact ⟨h3, c', t', fz, hb⟩
   obtain ⟨hsp, c, t', fz, hb⟩ := hsp
   obtain ⟨b, off, spot⟩ := a
   simp only at hsp hb key
   subst hsp
   have key2 : ∀ i : Fin len, ∃ vs : List V, Q vs ∧ ∀ j v, vs[j]? = some v → ∃ x, c[off + i.1 * s + j]? = some x ∧ FR (fun b => b < W.heap.size) W.heap v x := by
    intro i
    obtain ⟨ci, vs, h1, h2, h3, h4⟩ := key i.1 i.2
    refine ⟨vs, h1, ?_⟩
    intro j v hj
    have hjl : j < ci.length := by rw [h3, ← hQ vs h1]; exact (List.getElem?_eq_some_iff.1 hj).1
    obtain ⟨c', t2, fz2, hb2, hx⟩ := h4 j _ (List.getElem?_eq_getElem hjl)
    rw [hb] at hb2
    cases hb2
    exact ⟨_, hx, h2.get hj (List.getElem?_eq_getElem hjl)⟩
   let xs : List (List V) := List.ofFn fun i : Fin len => Classical.choose (key2 i)
   have hxs : ∀ (i : Nat) (r : List V), xs[i]? = some r → ∃ hi : i < len, r = Classical.choose (key2 ⟨i, hi⟩) := by
    intro i r hr
    have hi : i < len := by have := (List.getElem?_eq_some_iff.1 hr).1; simpa [xs] using this
    refine ⟨hi, ?_⟩
    simp only [xs, List.getElem?_ofFn, hi, dite_true] at hr
    cases hr; rfl
   have hxl : xs.length = len := by simp [xs]
   refine ⟨xs, _, rfl, ?_, by omega, ?_⟩
   ·have := FR.ls (sh := fun b => b < W.heap.size) (h := W.heap) false xs b off s cap c (fun i j => c.getD (off + i * s + j) undef)
     ((Array.getElem?_eq_some_iff.1 hb).1) ⟨t', fz, hb⟩ (by omega) ?_ ?_ ?_
    ·rw [hxl] at this; exact this
    ·intro i r hi
     obtain ⟨hil, rfl⟩ := hxs i r hi
     exact hQ _ (Classical.choose_spec (key2 ⟨i, hil⟩)).1
    ·intro i r j v hi hj
     obtain ⟨hil, rfl⟩ := hxs i r hi
     obtain ⟨x, hx, _⟩ := (Classical.choose_spec (key2 ⟨i, hil⟩)).2 j v hj
     simp only [Array.getD_eq_getD_getElem?]
     simp only at hx
     rw [hx]; rfl
    ·intro i r j v hi hj
     obtain ⟨hil, rfl⟩ := hxs i r hi
     obtain ⟨x, hx, hf⟩ := (Classical.choose_spec (key2 ⟨i, hil⟩)).2 j v hj
     simp only [Array.getD_eq_getD_getElem?]
     simp only at hx
     rw [hx]; exact hf
   ·intro r hr
    obtain ⟨i, hi⟩ := List.mem_iff_getElem?.1 hr
    obtain ⟨hil, rfl⟩ := hxs i r hi
    exact (Classical.choose_spec (key2 ⟨i, hil⟩)).1
theorem zwt {l : List T_Node} (h : ∀ x, x ∈ l → okN x) : okL l := by
 induction l with
 | nil => simp [okL]
 | cons y l ih => simp only [okL]; exact ⟨h y (by simp), ih fun x hx => h x (by simp [hx])⟩
/-- a tree, read -/
theorem zoX {H : Type} {enc : TypeId × Value → H} {P : Program} {W : World} {sp : Nat → Bool} {tN tR tI tS : TypeId} {fs : Array Field} (hu : P.underlying tN = some (.struct fs)) (hr : P.underlying tR = some (.slice tN)) (hi : P.underlying tI = some (.int .i64)) (hs : P.underlying tS = some .string)
  (hc : P.cellsOf tN = 4) (hcI : P.cellsOf tI = 1) (hcS : P.cellsOf tS = 1) (hcR : P.cellsOf tR = 1)
  (f0 : (fs[0]?).map (fun f => (f.offset, f.type)) = some (0, tI)) (f1 : (fs[1]?).map (fun f => (f.offset, f.type)) = some (1, tS)) (f2 : (fs[2]?).map (fun f => (f.offset, f.type)) = some (2, tI)) (f3 : (fs[3]?).map (fun f => (f.offset, f.type)) = some (3, tR)) (hn : fs.size = 4) :
  ∀ (fuel : Nat) (cs : List Value) (y : DataW H × List MemPlace), DataW.trod enc P W 0 sp true fuel tN cs = some y → ∃ x : T_Node, okN x ∧ FRs W (e_Node false x) cs := by
 intro fuel
 induction fuel using Nat.strongRecOn with
 | _ fuel IH =>
  intro cs y hy
  obtain ⟨xs, m, hf, _, hl, hxl, hx⟩ := DataW.trod_struct hu hy
  have get : ∀ (i off : Nat) (ft : TypeId), (fs[i]?).map (fun f => (f.offset, f.type)) = some (off, ft) → ∃ z, DataW.trod enc P W 0 sp true m ft ((cs.drop off).take (P.cellsOf ft)) = some z := by
   intro i off ft hf
   obtain ⟨f, hf1, hf2⟩ := Option.map_eq_some_iff.1 hf
   simp only [Prod.mk.injEq] at hf2
   obtain ⟨rfl, rfl⟩ := hf2
   have h1 := hx i f hf1
   have hil : i < xs.length := by rw [hxl]; exact (Array.getElem?_eq_some_iff.1 hf1).1
   rw [List.getElem?_eq_getElem hil] at h1
   exact ⟨_, h1⟩
  rw [hc] at hl
  obtain ⟨c0, c1, c2, c3, rfl⟩ : ∃ c0 c1 c2 c3, cs = [c0, c1, c2, c3] := by
   match cs, hl with
   | [c0, c1, c2, c3], _ => exact ⟨c0, c1, c2, c3, rfl⟩
  obtain ⟨z0, g0⟩ := get 0 0 tI f0
  obtain ⟨z1, g1⟩ := get 1 1 tS f1
  obtain ⟨z2, g2⟩ := get 2 2 tI f2
  obtain ⟨z3, g3⟩ := get 3 3 tR f3
  rw [hcI] at g0 g2
  rw [hcS] at g1
  rw [hcR] at g3
  simp only [List.drop_zero, List.drop_succ_cons, List.take_succ_cons, List.take_zero] at g0 g1 g2 g3
  obtain ⟨n0, e0, _, _⟩ := DataW.trod_int hi g0
  obtain ⟨s1, e1, _, hs1⟩ := DataW.trod_string hs g1
  obtain ⟨n2, e2, _, _⟩ := DataW.trod_int hi g2
  obtain ⟨rows, v, e3, hfr, hlen, hq⟩ := zni (s := 4) hc (by decide) (fun vs => ∃ x : T_Node, okN x ∧ vs = e_Node false x) (by
   rintro vs ⟨x, _, rfl⟩; cases x; simp [e_Node]) hr g3 (by
   intro m' cs' y' hm' h'
   obtain ⟨x, h1, h2⟩ := IH m' (by omega) cs' y' h'
   exact ⟨_, ⟨x, h1, rfl⟩, h2⟩)
  obtain ⟨l, rfl, hok⟩ := zl4 (e := e_Node false) (Q := okN) (fun r hr => by obtain ⟨x, h1, h2⟩ := hq r hr; exact ⟨x, h2, h1⟩)
  simp only [List.cons.injEq, and_true] at e0 e1 e2 e3
  subst e0; subst e1; subst e2; subst e3
  simp only [List.length_map, maxLen] at hlen hs1
  refine ⟨⟨n0, s1, n2, l⟩, ?_, ?_⟩
  ·simp only [okN]; exact ⟨by omega, by omega, zwt hok⟩
  ·have e : e_Node false ⟨n0, s1, n2, l⟩ = [.sc (.int .i64 n0), .sc (.string s1), .sc (.int .i64 n2), .ls false (l.map (e_Node false))] := by
    simp [e_Node, zaV]
   rw [e]
   exact .cons (.sc _ rfl) (.cons (.sc _ rfl) (.cons (.sc _ rfl) (.cons hfr .nil)))
/-- cells of numbers, texts and shown rows as arguments -/
theorem ztc {W : World} {bi : Nat → Option Nat} {vs : List V} {cs : List Value} (h : ∀ v, v ∈ vs → (∃ x, v = .sc x) ∨ ∃ xs, v = .ls false xs) (f : FRs W vs cs) : XRL (fun b => b < W.heap.size) W.heap bi vs cs [] := by
 induction f with
 | nil => exact .nil
 | @cons v x vs xs f1 f2 ih =>
  have ih' := ih (fun v hv => h v (by simp [hv]))
  rcases h v (by simp) with ⟨x, rfl⟩ | ⟨xs, rfl⟩
  ·cases f1 with | sc _ h1 => exact .cons _ _ _ _ [] [] (.sc _ h1) ih'
  ·exact .cons _ _ _ _ [] [] (.fz _ _ f1) ih'
end Go.Pv

namespace Go.Pv
open Go.RowKit Go.WideShapes
set_option linter.unusedVariables false
set_option maxRecDepth 100000
theorem mixed : Go.Proofs.Tryz.prog.follows .mixedOrders = true := by kernel_rfl
theorem zsL : IsFn Go.Proofs.Tryz.prog 121 := ⟨_, Go.Proofs.Tryz.func121, by kernel_rfl, by kernel_rfl⟩
theorem zsM : IsFn Go.Proofs.Tryz.prog 110 := ⟨_, Go.Proofs.Tryz.func110, by kernel_rfl, by kernel_rfl⟩
theorem zv0 : IsFn Go.Proofs.Tryz.prog 88 := ⟨_, Go.Proofs.Tryz.func88, by kernel_rfl, by kernel_rfl⟩
abbrev zlv : Array Value := (Lib.pow10Tab.map fun z => Value.int .u64 z).toArray
theorem zm1 [Glb] (hg : ∃ c t fz m, ((2, Obj.cells c t fz) : Nat × Obj) ∈ Glb.l ∧ c[0]? = some (.int .i64 m)) (a : ByteArray) (ha : a.size < 4294967281) :
  zdB Go.Proofs.Tryz.prog 121 [] [.sc (.string a), .sc (.string ⟨#[32]⟩)] [] (.ls true (strV (splitL a))) [] := by
 have hlen : (splitL a).length = Lib.countB a ⟨#[32]⟩ + 1 := Lib.splitB_all ⟨#[32]⟩ (by decide) 0 _ a rfl
 refine ziK (t := 9) (vals := (splitL a).map Value.string) ?_ (by simp [strV]) ?_ ?_
 ·intro h
  have := congrArg List.length h
  simp only [strV, List.length_map, List.length_nil] at this
  omega
 ·intro i r hi
  simp only [strV, List.getElem?_map, Option.map_eq_some_iff] at hi
  obtain ⟨s, hs, rfl⟩ := hi
  exact ⟨.string s, rfl, by rw [List.getElem?_map, hs]; rfl, rfl⟩
 ·intro w args sh Fs hx hgl
  obtain ⟨c, t, fz, m, h1, h2⟩ := hg
  have h3 := hgl _ h1
  have hm : w.cell? ⟨2, 0, none⟩ = some (.int .i64 m) := by
   simp only at h3
   simp [World.cell?, h3, h2]
  have hargs : args = #[.string a, .string ⟨#[32]⟩] := by
   obtain ⟨l⟩ := args
   simp only at hx
   cases hx with
   | cons _ _ x xs F1 F2 q1 q2 =>
    cases q1
    cases q2 with
    | cons _ _ y ys F3 F4 q3 q4 =>
     cases q3
     cases q4
     rfl
  subst hargs
  have hn : (strV (splitL a)).length = Lib.countB a ⟨#[32]⟩ + 1 := by rw [← hlen]; simp [strV]
  rw [hn]
  exact Go.Proofs.Tryz.strings_Split a ⟨#[32]⟩ m w ha hm (by decide)
theorem zoN [Glb] (hg : ∃ t fz, ((3, Obj.cells zlv t fz) : Nat × Obj) ∈ Glb.l) (n : Int) (h0 : -9223372036854775808 ≤ n) (h1 : n ≤ 9223372036854775807) :
  zdB Go.Proofs.Tryz.prog 88 [] [.sc (.int .i64 n)] [] (.sc (.string (itoaS n))) [] := by
 refine zfB ?_
 intro sh w args Fs hx hsh hgl
 obtain ⟨t, fz, hm⟩ := hg
 have h3 := hgl _ hm
 have htab : Lib.TabIs Go.Proofs.Tryz.prog w "internal/strconv.uint64pow10" .u64 Lib.pow10Tab := by
  unfold Lib.TabIs World.var?
  rw [show Go.Proofs.Tryz.prog.globalNamed "internal/strconv.uint64pow10" = some 3 by kernel_rfl]
  simp only at h3
  simp only [Option.bind_some, h3]
 have hargs : args = #[.int .i64 n] := by
  obtain ⟨l⟩ := args
  simp only at hx
  cases hx with
  | cons _ _ x xs F1 F2 q1 q2 =>
   cases q1
   cases q2
   rfl
 subst hargs
 refine (Go.Proofs.Tryz.strconv_Itoa n h0 h1 w htab).mono ?_
 rintro e w' ⟨rfl, k, os, rfl⟩
 exact ⟨rfl, Lib.below_grow _ w (Nat.le_refl _) k os⟩
theorem zlw : ∀ {rows : List (List V)} {xs : List ByteArray}, unS rows = some xs → rows = strV xs
 | [], xs, h => by
  simp only [unS] at h
  cases h; rfl
 | r :: l, xs, h => by
  unfold unS at h
  split at h
  ·rename_i heq; cases heq
  ·rename_i s l' heq
   cases heq
   cases hl : unS l with
   | none => rw [hl] at h; cases h
   | some ys =>
    rw [hl] at h; cases h
    rw [zlw hl]; rfl
  ·cases h
theorem zoO [Glb] (xs : List ByteArray) (b : ByteArray) (hc : joinC xs b) :
  zdB Go.Proofs.Tryz.prog 110 [] [.ls false (strV xs), .sc (.string b)] [] (.sc (.string (zlu xs b))) [] := by
 refine zfB ?_
 intro sh w args Fs hx hsh hgl
 obtain ⟨l⟩ := args
 simp only at hx
 generalize hrows : strV xs = rows at hx
 cases hx with
 | cons _ _ x l1 F1 F2 q1 q2 =>
  cases q2 with
  | cons _ _ y l2 F3 F4 q3 q4 =>
   cases q3
   cases q4
   cases q1 with
   | fz _ _ hf =>
    cases hf with
    | nil _ A cap =>
     have h0 : xs = [] := by
      cases xs with
      | nil => rfl
      | cons a r => cases hrows
     subst h0
     refine (Go.Proofs.Tryz.strings_Join_none A cap b w).mono ?_
     rintro e w' ⟨rfl, rfl⟩
     exact ⟨rfl, Below.refl _ _⟩
    | ls _ _ bk base s cap c f hb hcell hl h1 h2 h3 =>
     have hlen : rows.length = xs.length := by rw [← hrows]; simp [strV]
     rw [hlen]
     rw [hlen] at hl
     obtain ⟨t, fz, hob⟩ := hcell
     refine Go.Proofs.Tryz.strings_Join bk base cap xs b w (fun j z hj => ?_) (hsh _ hb) hc.1 hl hc.2
     have hr : rows[j]? = some [.sc (.string z)] := by rw [← hrows]; simp [strV, hj]
     have hs : s = 1 := (h1 j _ hr).symm
     subst hs
     have hc1 := h2 j _ 0 _ hr rfl
     have hf1 := h3 j _ 0 _ hr rfl
     have hv : f j 0 = .string z := by
      generalize f j 0 = u at hf1
      cases hf1; rfl
     rw [hv] at hc1
     have : base + j * 1 + 0 = base + j := by omega
     rw [this] at hc1
     simp [World.cell?, hob, hc1]
theorem hLib [Glb] (hg : ∃ c t fz m, ((2, Obj.cells c t fz) : Nat × Obj) ∈ Glb.l ∧ c[0]? = some (.int .i64 m)) (hg2 : ∃ t fz, ((3, Obj.cells zlv t fz) : Nat × Obj) ∈ Glb.l) : zqL Go.Proofs.Tryz.prog EE := by
 intro f av cs v cs' hf h
 have h' : EElib f av cs = some (v, cs') := h
 unfold EElib at h'
 split at h'
 ·unfold ziI at h'
  split at h'
  ·split at h'
   ·rename_i a b hc
    obtain ⟨rfl, hs⟩ := hc
    injection h' with h'
    injection h' with h1 h2
    subst h1; subst h2
    exact ⟨zsL, zm1 hg a hs⟩
   ·cases h'
  ·cases h'
 ·unfold zkA at h'
  split at h'
  ·rename_i rows b
   split at h'
   ·rename_i xs hu
    split at h'
    ·rename_i hc
     injection h' with h'
     injection h' with h1 h2
     subst h1; subst h2
     rw [zlw hu]
     exact ⟨zsM, zoO xs b hc⟩
    ·cases h'
   ·cases h'
  ·cases h'
 ·unfold zkB at h'
  split at h'
  ·split at h'
   ·rename_i n hc
    injection h' with h'
    injection h' with h1 h2
    subst h1; subst h2
    exact ⟨zv0, zoN hg2 n hc.1 hc.2⟩
   ·cases h'
  ·cases h'
 ·cases h'
/-- what the evaluation tells of rows that are only shown: the call, and the old memory -/
theorem zm2 {f : Nat} {av : List V} {args : Array Value} {W : World} {x : Value} (hg : (∃ m, W.cell? ⟨2, 0, none⟩ = some (.int .i64 m)) ∧ Lib.TabIs Go.Proofs.Tryz.prog W "internal/strconv.uint64pow10" .u64 Lib.pow10Tab) (hl : lentOf (EE.own f) av.length = []) (h : ev EE (.call f av []) = some (.val (.sc x) []))
  (hx : XRL (fun b => b < W.heap.size) W.heap (fun _ => none) av args.toList []) :
  Calls Go.Proofs.Tryz.prog f args W fun e W' => e = .returned x ∧ Below W.heap.size W W' := by
 obtain ⟨⟨m, hm⟩, htab⟩ := hg
 obtain ⟨_, c, t, fz, hb, hc⟩ := zem hm
 obtain ⟨t3, fz3, hb3⟩ : ∃ t fz, W.heap[3]? = some (.cells zlv t fz) := by
  unfold Lib.TabIs World.var? at htab
  rw [show Go.Proofs.Tryz.prog.globalNamed "internal/strconv.uint64pow10" = some 3 by kernel_rfl] at htab
  simp only [Option.bind_some] at htab
  split at htab
  ·rename_i cs t fz h3
   cases htab
   exact ⟨t, fz, h3⟩
  ·cases htab
 letI : Glb := ⟨[(2, .cells c t fz), (3, .cells zlv t3 fz3)]⟩
 have hs := zqM mixed hE (hLib ⟨c, t, fz, m, by show _ ∈ [_, _]; simp, hc⟩ ⟨t3, fz3, by show _ ∈ [_, _]; simp⟩) h
 have hgl : ∀ p ∈ Glb.l, p.1 < W.heap.size ∧ W.heap[p.1]? = some p.2 := by
  intro p hp
  have hp' : p ∈ [((2, .cells c t fz) : Nat × Obj), (3, .cells zlv t3 fz3)] := hp
  simp only [List.mem_cons, List.mem_nil_iff, or_false] at hp'
  rcases hp' with rfl | rfl
  ·exact ⟨(Array.getElem?_eq_some_iff.1 hb).1, hb⟩
  ·exact ⟨(Array.getElem?_eq_some_iff.1 hb3).1, hb3⟩
 have G : Given W (fun b => b < W.heap.size) av args.toList [] [] [] [] :=
  { shLt := fun x hx => hx, xr := by simpa using hx, lenB := rfl, lenG := rfl, bx := fun j b c G h1 => by simp at h1, nodup := List.nodup_nil, blk := fun b hb => by simp at hb, disj := List.Pairwise.nil, apart := fun F hF => by simp at hF, glb := hgl }
 refine (hs W _ args [] [] [] G).mono ?_
 rintro e W' ⟨u, rfl, hfr, sh', Fs', new, Gs', G', _, _⟩
 rw [hl] at G'
 have hu : u = x := by
  have := G'.xr
  simp only [unpack, List.length_nil, if_true, List.map_nil] at this
  cases this with
  | cons _ _ _ _ F1 F2 q1 q2 =>
   cases q1
   rfl
 refine ⟨by rw [hu], ⟨hfr.os, hfr.tape, hfr.output, hfr.size, fun k hk => hfr.keep k hk ?_⟩⟩
 simp [mineOf]
end Go.Pv

namespace Go.Pv
open Go.RowKit Go.WideShapes
set_option linter.unusedVariables false
set_option maxRecDepth 100000
theorem walkWrite {H : Type} (enc : TypeId × Value → H) (W : World) (hT : (∃ m, W.cell? ⟨2, 0, none⟩ = some (.int .i64 m)) ∧ Lib.TabIs Go.Proofs.Tryz.prog W "internal/strconv.uint64pow10" .u64 Lib.pow10Tab) (base : Nat) (v0 : Value) (d0 : DataW H) (p0 : List MemPlace) (o0 : Value.okWide Go.Proofs.Tryz.prog W .any base 24 v0) (h0 : DataW.Trod enc Go.Proofs.Tryz.prog W 0 (fun _ => true) true 24 v0 d0 p0)
  {ts : List TypeId} {ds : List (DataW H)} (hsz : (DataW.weightsEach Go.Proofs.Tryz.prog ts ds).all (· ≤ reachBytes) = true) :
  Calls Go.Proofs.Tryz.prog 3 #[v0] W fun e W' => e = .returned (.bool true) ∧ Below W.heap.size W W' := by
 obtain ⟨cs, rfl, _⟩ := okWide_struct Go.Proofs.Tryz.underlying24 o0
 obtain ⟨fuel, h⟩ := h0
 obtain ⟨x, hx, hf⟩ := zoX (tR := 22) (tI := 3) (tS := 9) Go.Proofs.Tryz.underlying24 (by kernel_rfl) (by kernel_rfl) (by kernel_rfl) (by kernel_rfl) (by kernel_rfl) (by kernel_rfl) (by kernel_rfl) (by kernel_rfl) (by kernel_rfl) (by kernel_rfl) (by kernel_rfl) (by kernel_rfl) fuel cs.toList _ h
 obtain ⟨h1, h2, h3⟩ := zr7 hx
 obtain ⟨op, s, n, ks⟩ := x
 refine zm2 hT rfl (zfx op s n ks (zpL h1 h2 h3)) ?_
 have e : e_Node false ⟨op, s, n, ks⟩ = [.sc (.int .i64 op), .sc (.string s), .sc (.int .i64 n), .ls false (r_Node false ks)] := by simp [e_Node]
 rw [e] at hf
 have hl := ztc (bi := fun _ => none) (by
  intro v hv
  simp only [List.mem_cons, List.mem_singleton, List.not_mem_nil, or_false] at hv
  rcases hv with rfl | rfl | rfl | rfl
  ·exact .inl ⟨_, rfl⟩
  ·exact .inl ⟨_, rfl⟩
  ·exact .inl ⟨_, rfl⟩
  ·exact .inr ⟨_, rfl⟩) hf
 have := XRL.cons _ [] _ [] [] [] (XR.ag _ cs [] hl) .nil
 simpa using this
end Go.Pv
