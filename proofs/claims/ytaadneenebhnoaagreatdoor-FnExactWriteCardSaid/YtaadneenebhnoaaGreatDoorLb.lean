/- Proof: library functions, as they answer. No condition. -/
import Derived.Test.YtaadneenebhnoaaGreatDoorPvF
import Derived.Shelf.Strings.Split
import Derived.Lib.ItoaNum
import Derived.Lib.ItoaLen
import Derived.Lib.Join
import Derived.Below
set_option autoImplicit true
set_option relaxedAutoImplicit true
set_option linter.unusedSimpArgs false
set_option linter.unusedVariables false
namespace Go.Pv
/-- library functions, as they answer -/
def strV (xs : List ByteArray) : List (List V) := xs.map fun s => [V.sc (.string s)]
/-- strings.Split at a blank -/
def splitL (a : ByteArray) : List ByteArray := Lib.splitB ⟨#[32]⟩ 0 (Lib.countB a ⟨#[32]⟩) a
def ziI (av : List V) (cs : List Cell) : Option (V × List Cell) :=
 match av, cs with
 | [.sc (.string a), .sc (.string b)], [] => if b = ⟨#[32]⟩ ∧ a.size < 4294967281 then some (.ls true (strV (splitL a)), []) else none
 | _, _ => none
def unS : List (List V) → Option (List ByteArray)
 | [] => some []
 | [.sc (.string s)] :: l => (unS l).map fun r => s :: r
 | _ => none
theorem zlt : ∀ xs, unS (strV xs) = some xs
 | [] => rfl
 | x :: l => by
  show (unS (strV l)).map _ = _
  rw [zlt l]; rfl
/-- strings.Join -/
def zlu (xs : List ByteArray) (b : ByteArray) : ByteArray := ⟨(Lib.join (xs.map (·.data.toList)) b.data.toList).toArray⟩
def joinC (xs : List ByteArray) (b : ByteArray) : Prop := xs.length ≤ 140737488355328 ∧ (Lib.join (xs.map (·.data.toList)) b.data.toList).length ≤ 140737488355328
instance (xs : List ByteArray) (b : ByteArray) : Decidable (joinC xs b) := by unfold joinC; infer_instance
def zkA (av : List V) (cs : List Cell) : Option (V × List Cell) :=
 match av, cs with
 | [.ls false rows, .sc (.string b)], [] =>
  match unS rows with
  | some xs => if joinC xs b then some (.sc (.string (zlu xs b)), []) else none
  | none => none
 | _, _ => none
/-- strconv.Itoa -/
def itoaS (n : Int) : ByteArray := ⟨(Lib.itoa n).toArray⟩
def zkB (av : List V) (cs : List Cell) : Option (V × List Cell) :=
 match av, cs with
 | [.sc (.int .i64 n)], [] => if -9223372036854775808 ≤ n ∧ n ≤ 9223372036854775807 then some (.sc (.string (itoaS n)), []) else none
 | _, _ => none
end Go.Pv

namespace Go.Pv
open Go.RowKit
set_option linter.unusedVariables false
theorem ziJ (w : World) (o : Obj) : (w.alloc o).heap = w.heap.push o := rfl
/-- a library function that tells a new row -/
theorem ziK [Glb] {P : Program} {f : Nat} {av : List V} {rows : List (List V)} {t : TypeId} {vals : List Value} (hne : rows ≠ []) (hlen : vals.length = rows.length)
  (hrow : ∀ (i : Nat) (r : List V), rows[i]? = some r → ∃ x, r = [.sc x] ∧ vals[i]? = some x ∧ x.oneCell' = true)
  (hc : ∀ (w : World) (args : Array Value) (sh : BSet) (Fs : List BSet), XRL sh w.heap (fun _ => none) av args.toList Fs → (∀ p ∈ Glb.l, w.heap[p.1]? = some p.2) →
   Calls P f args w fun e w' => e = .returned (.slice (some ⟨w.heap.size, 0, none⟩) rows.length rows.length) ∧ w' = w.alloc (.cells vals.toArray t)) : zdB P f [] av [] (.ls true rows) [] := by
 intro w sh args Fs bl Gs G
 have hbl : bl = [] := List.length_eq_zero_iff.1 G.lenB
 have hGs : Gs = [] := List.length_eq_zero_iff.1 G.lenG
 subst hbl; subst hGs
 have hx : XRL sh w.heap (fun _ => none) av args.toList Fs := by
  have := G.xr
  simpa using this
 refine (hc w args sh Fs hx (fun p hp => (G.glb p hp).2)).mono ?_
 rintro e w' ⟨rfl, rfl⟩
 have hkeep : ∀ x, x < w.heap.size → (w.alloc (.cells vals.toArray t)).heap[x]? = w.heap[x]? := by
  intro x hx
  rw [ziJ, Array.getElem?_push]
  rw [if_neg (by omega)]
 have hsz : (w.alloc (.cells vals.toArray t)).heap.size = w.heap.size + 1 := by rw [ziJ, Array.size_push]
 have hnew : (w.alloc (.cells vals.toArray t)).heap[w.heap.size]? = some (.cells vals.toArray t (0, 0)) := by
  rw [ziJ, Array.getElem?_push, if_pos rfl]
 refine ⟨_, rfl, ⟨by omega, fun x hx _ => hkeep x hx, rfl, rfl, rfl, ?_⟩, sh, [fun y => y = w.heap.size], [], [], ?_, fun _ h => h, ?_⟩
 ·intro x c t' z hz
  have hlt := (Array.getElem?_eq_some_iff.1 hz).1
  exact ⟨c, z, by rw [hkeep x hlt]; exact hz, rfl⟩
 ·refine ⟨?_, ?_, rfl, rfl, ?_, List.nodup_nil, ?_, ?_, ?_, ?_⟩
  ·intro x hx; have := G.shLt x hx; omega
  ·have hor : OR sh (w.alloc (.cells vals.toArray t)).heap (.ls true rows) (.slice (some ⟨w.heap.size, 0, none⟩) rows.length rows.length) (fun y => y = w.heap.size) := by
    refine OR.own rows w.heap.size 0 1 rows.length vals.toArray t (fun i _ => vals.getD i undef) (fun _ _ _ => False) _ hne hnew (Nat.le_refl _) (by simp [hlen]) ?_ ?_ ?_ ?_ rfl ?_ ?_ ?_
    ·intro i cs hi
     obtain ⟨x, rfl, _⟩ := hrow i cs hi
     rfl
    ·intro i cs j v hi hj
     obtain ⟨x, rfl, h2, _⟩ := hrow i cs hi
     have hj0 : j = 0 := by have := (List.getElem?_eq_some_iff.1 hj).1; simp at this; exact this
     subst hj0
     simp [h2]
    ·intro i cs j v hi hj
     obtain ⟨x, rfl, h2, h3⟩ := hrow i cs hi
     have hj0 : j = 0 := by have := (List.getElem?_eq_some_iff.1 hj).1; simp at this; exact this
     subst hj0
     simp at hj; subst hj
     have : vals.getD i undef = x := by simp [List.getD_eq_getElem?_getD, h2]
     rw [this]
     exact .sc x _ h3 (fun _ h => h)
    ·intro h; have := G.shLt _ h; omega
    ·intro i j x _ _ h; exact h.elim
    ·intro i j i' j' x _ _ _ _ h; exact h.elim
    ·intro x hx; exact .inl hx
   have := XRL.cons (bi := fun i => (([] : List Nat) ++ [])[i]?) _ [] _ [] [fun y => y = w.heap.size] [] (XR.own rows _ _ hor) .nil
   simpa [unpack] using this
  ·intro j b c G' h1; simp at h1
  ·intro b hb; simp at hb
  ·simp
  ·intro F hF x hx
   simp at hF; subst hF
   subst hx
   refine ⟨by simp, ?_, by omega⟩
   intro h; have := G.shLt _ h; omega
  ·intro p hp
   refine ⟨(G.glb p hp).1, ?_⟩
   rw [hkeep _ (G.shLt _ (G.glb p hp).1)]
   exact (G.glb p hp).2
 ·rintro y (h | ⟨F, hF, h⟩ | h)
  ·exact .inl h
  ·simp at hF; subst hF; exact .inr (.inr (by rw [h]; exact Nat.le_refl _))
  ·cases h
/-- a library function that tells a text -/
theorem zfB [Glb] {P : Program} {f : Nat} {av : List V} {r : ByteArray}
  (hc : ∀ (sh : BSet) (w : World) (args : Array Value) (Fs : List BSet), XRL sh w.heap (fun _ => none) av args.toList Fs → (∀ b, sh b → b < w.heap.size) → (∀ p ∈ Glb.l, w.heap[p.1]? = some p.2) →
   Calls P f args w fun e w' => e = .returned (.string r) ∧ Below w.heap.size w w') : zdB P f [] av [] (.sc (.string r)) [] := by
 intro w sh args Fs bl Gs G
 have hbl : bl = [] := List.length_eq_zero_iff.1 G.lenB
 have hGs : Gs = [] := List.length_eq_zero_iff.1 G.lenG
 subst hbl; subst hGs
 have hx : XRL sh w.heap (fun _ => none) av args.toList Fs := by
  have := G.xr
  simpa using this
 refine (hc sh w args Fs hx G.shLt (fun p hp => (G.glb p hp).2)).mono ?_
 rintro e w' ⟨rfl, hb⟩
 refine ⟨_, rfl, ⟨hb.size, fun x hx _ => hb.block x hx, hb.os, hb.tape, hb.output, ?_⟩, sh, [], [], [], ?_, fun _ h => h, ?_⟩
 ·intro x c t' z hz
  have hlt := (Array.getElem?_eq_some_iff.1 hz).1
  exact ⟨c, z, by rw [hb.block x hlt]; exact hz, rfl⟩
 ·refine ⟨?_, ?_, rfl, rfl, ?_, List.nodup_nil, ?_, ?_, ?_, ?_⟩
  ·intro x hx; have := G.shLt x hx; have := hb.size; omega
  ·have := XRL.cons (sh := sh) (h := w'.heap) (bi := fun i => (([] : List Nat) ++ [])[i]?) _ [] _ [] [] [] (XR.sc (.string r) rfl) .nil
   simpa [unpack] using this
  ·intro j b c G' h1; simp at h1
  ·intro b hb; simp at hb
  ·simp
  ·intro F hF x hx
   simp at hF
  ·intro p hp
   refine ⟨(G.glb p hp).1, ?_⟩
   rw [hb.block _ (G.shLt _ (G.glb p hp).1)]
   exact (G.glb p hp).2
 ·rintro y (h | ⟨F, hF, h⟩ | h)
  ·exact .inl h
  ·simp at hF
  ·cases h
end Go.Pv
