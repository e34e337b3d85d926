/- Proof: the walk: the bytes read, the law answers true. No condition. -/
import Derived.Test.YtaadneenebhnoaaPvF
import Derived.ChangeArms
import Derived.WideShapes
import Derived.ProofKit
import Derived.Below
import Derived.Test.YtaadneenebhnoaaIh
import Derived.Test.YtaadneenebhnoaaGtL
import Derived.Test.YtaadneenebhnoaaPt
set_option autoImplicit true
set_option relaxedAutoImplicit true
set_option linter.unusedSimpArgs false
set_option linter.unusedVariables false
namespace Go.Pv
open Go.RowKit Go.WideShapes
set_option linter.unusedVariables false
/-- what kind of cells a type has -/
inductive Sh where
  | int (k : IntKind) | str | bool | row (es : List Sh)
mutual
/-- a value of that kind -/
inductive CS : Sh → V → Prop where
  | int (k : IntKind) (n : Int) : CS (.int k) (.sc (.int k n))
  | str (s : ByteArray) : s.size ≤ maxLen → CS .str (.sc (.string s))
  | bool (b : Bool) : CS .bool (.sc (.bool b))
  | row (es : List Sh) (xs : List (List V)) : xs.length ≤ maxLen → (∀ r, r ∈ xs → CSL es r) → CS (.row es) (.ls false xs)
inductive CSL : List Sh → List V → Prop where
  | nil : CSL [] []
  | cons (s : Sh) (ss : List Sh) (v : V) (vs : List V) : CS s v → CSL ss vs → CSL (s :: ss) (v :: vs)
end
theorem CSL.length {ss : List Sh} {vs : List V} (h : CSL ss vs) : vs.length = ss.length := by
  induction vs generalizing ss with
  | nil => cases h; rfl
  | cons v vs ih => cases h with | cons s ss _ _ h1 h2 => simp [ih h2]
theorem CSL.append : ∀ {ss ts : List Sh} {vs ws : List V}, CSL ss vs → CSL ts ws → CSL (ss ++ ts) (vs ++ ws)
  | _, _, _, _, .nil, h => h
  | _, _, _, _, .cons _ _ _ _ h1 h2, h => .cons _ _ _ _ h1 (h2.append h)
def shFs (sh : TypeId → Option (List Sh)) (P : Program) : List Field → Nat → Option (List Sh)
  | [], _ => some []
  | f :: fl, off => if f.offset = off then match sh f.type with
      | some ss => if P.cellsOf f.type = ss.length then (shFs sh P fl (off + ss.length)).map (ss ++ ·) else none
      | none => none
    else none
def shT (P : Program) : Nat → TypeId → Option (List Sh)
  | 0, _ => none
  | n + 1, t => match P.underlying t with
    | some (.int k) => some [.int k]
    | some .string => some [.str]
    | some .bool => some [.bool]
    | some (.struct fs) => match shFs (shT P n) P fs.toList 0 with
      | some ss => if P.cellsOf t = ss.length then some ss else none
      | none => none
    | some (.slice e) => match shT P n e with
      | some es => if P.cellsOf e = es.length ∧ es.length ≠ 0 then some [.row es] else none
      | none => none
    | _ => none
inductive FRs (W : World) : List V → List Value → Prop where
  | nil : FRs W [] []
  | cons {v : V} {x : Value} {vs : List V} {xs : List Value} : FR (fun b => b < W.heap.size) W.heap v x → FRs W vs xs → FRs W (v :: vs) (x :: xs)
theorem FRs.get {W : World} {vs : List V} {cs : List Value} (h : FRs W vs cs) : ∀ {j : Nat} {v : V} {x : Value}, vs[j]? = some v → cs[j]? = some x → FR (fun b => b < W.heap.size) W.heap v x := by
  induction h with
  | nil => intro j v x h1; simp at h1
  | cons h _ ih =>
    intro j v x h1 h2
    cases j with
    | zero => simp at h1 h2; subst h1; subst h2; exact h
    | succ j => simp at h1 h2; exact ih h1 h2
theorem FRs.len {W : World} {vs : List V} {cs : List Value} (h : FRs W vs cs) : vs.length = cs.length := by
  induction h with
  | nil => rfl
  | cons _ _ ih => simp [ih]
theorem add_bo (a : Addr) (n : Nat) : (a.add n).block = a.block ∧ (a.add n).off = a.off + n := by
  simp only [Addr.add]
  split
  · rename_i h; subst h; exact ⟨rfl, rfl⟩
  · exact ⟨rfl, rfl⟩
theorem FRs_append {W : World} {a c : List V} {b d : List Value} (h1 : FRs W a b) (h2 : FRs W c d) : FRs W (a ++ c) (b ++ d) := by
  induction h1 with
  | nil => exact h2
  | cons h _ ih => exact .cons h ih
theorem shFs_read {P : Program} {W : World} {sh : TypeId → Option (List Sh)} {cs : List Value} {R : TypeId → List Value → Prop}
    (ih : ∀ t ss c, sh t = some ss → R t c → ∃ vs, CSL ss vs ∧ FRs W vs c) :
    ∀ (fl : List Field) (off : Nat) (ss : List Sh), shFs sh P fl off = some ss → (∀ f, f ∈ fl → R f.type ((cs.drop f.offset).take (P.cellsOf f.type))) → ∃ vs, CSL ss vs ∧ FRs W vs ((cs.drop off).take ss.length) := by
  intro fl
  induction fl with
  | nil => intro off ss h _; simp only [shFs, Option.some.injEq] at h; subst h; exact ⟨[], .nil, by simpa using FRs.nil⟩
  | cons f fl ihl =>
    intro off ss h hR
    simp only [shFs] at h
    split at h
    · rename_i ho
      split at h
      · rename_i s1 hs1
        split at h
        · rename_i hc
          obtain ⟨s2, hs2, rfl⟩ := Option.map_eq_some_iff.1 h
          obtain ⟨v1, c1, f1⟩ := ih _ _ _ hs1 (hR f (by simp))
          obtain ⟨v2, c2, f2⟩ := ihl _ _ hs2 (fun g hg => hR g (by simp [hg]))
          refine ⟨v1 ++ v2, c1.append c2, ?_⟩
          rw [List.length_append, List.take_add, List.drop_drop]
          rw [ho, hc] at f1
          exact FRs_append f1 f2
        · cases h
      · cases h
    · cases h
theorem cell_block {W : World} {a : Addr} {v : Value} (h : W.cell? a = some v) : a.spot = none ∧ ∃ c t fz, W.heap[a.block]? = some (.cells c t fz) ∧ c[a.off]? = some v := by
  unfold World.cell? at h
  split at h
  · rename_i c t fz hb
    split at h
    · cases h
    · rename_i hs
      refine ⟨?_, c, t, fz, hb, h⟩
      cases hsp : a.spot with
      | none => rfl
      | some _ => simp [hsp] at hs
  · cases h
theorem read {H : Type} {enc : TypeId × Value → H} {P : Program} {W : World} {sp : Nat → Bool} : ∀ (n : Nat) (t : TypeId) (ss : List Sh), shT P n t = some ss → ∀ (fuel : Nat) (cs : List Value) (y : DataW H × List MemPlace), DataW.trod enc P W 0 sp true fuel t cs = some y → ∃ vs, CSL ss vs ∧ FRs W vs cs := by
  intro n
  induction n with
  | zero => intro t ss h; cases h
  | succ n ih =>
    intro t ss h fuel cs y hy
    simp only [shT] at h
    split at h
    · rename_i k hu
      cases h
      obtain ⟨x, rfl, _, _⟩ := DataW.trod_int hu hy
      exact ⟨[.sc (.int k x)], .cons _ _ _ _ (.int k x) .nil, .cons (.sc _ rfl) .nil⟩
    · rename_i hu
      cases h
      obtain ⟨s, rfl, _, hs⟩ := DataW.trod_string hu hy
      exact ⟨[.sc (.string s)], .cons _ _ _ _ (.str s hs) .nil, .cons (.sc _ rfl) .nil⟩
    · rename_i hu
      cases h
      obtain ⟨b, rfl, _⟩ := DataW.trod_bool hu hy
      exact ⟨[.sc (.bool b)], .cons _ _ _ _ (.bool b) .nil, .cons (.sc _ rfl) .nil⟩
    · rename_i fs hu
      split at h
      · rename_i s1 hs1
        split at h
        · rename_i hc
          cases h
          obtain ⟨xs, m, _, _, hl, hxl, hx⟩ := DataW.trod_struct hu hy
          obtain ⟨vs, c1, f1⟩ := shFs_read (R := fun t c => ∃ y, DataW.trod enc P W 0 sp true m t c = some y) (cs := cs) (fun t ss c h1 ⟨y, h2⟩ => ih t ss h1 m c y h2) fs.toList 0 ss hs1
            (by
              intro f hf
              obtain ⟨i, hi⟩ := List.mem_iff_getElem?.1 hf
              have h1 := hx i f (by simpa using hi)
              have hil : i < xs.length := by
                have := (List.getElem?_eq_some_iff.1 hi).1
                simp at this; omega
              rw [List.getElem?_eq_getElem hil] at h1
              exact ⟨_, h1⟩)
          refine ⟨vs, c1, ?_⟩
          rw [List.drop_zero, List.take_of_length_le (by omega)] at f1
          exact f1
        · cases h
      · cases h
    · rename_i e hu
      split at h
      · rename_i es hes
        split at h
        · rename_i hc
          cases h
          obtain ⟨hc, hne⟩ := hc
          rcases DataW.trod_slice hu hy with ⟨rfl, _⟩ | ⟨a, len, cap, elems, rest, m, _, rfl, _, _, hl, hm, hle, hel, _, _⟩
          · exact ⟨[.ls false []], .cons _ _ _ _ (.row es [] (by simp) (by intro r hr; cases hr)) .nil, .cons (.nil false none 0) .nil⟩
          · rw [hc] at hel
            have key : ∀ i, i < len → ∃ (c : List Value) (vs : List V), CSL es vs ∧ FRs W vs c ∧ c.length = es.length ∧ ∀ j x, c[j]? = some x → ∃ c' t fz, W.heap[a.block]? = some (.cells c' t fz) ∧ c'[a.off + i * es.length + j]? = some x := by
              intro i hi
              have h1 := hel i hi
              rw [List.getElem?_eq_getElem (by omega)] at h1
              obtain ⟨c, hcells, htr⟩ := Option.bind_eq_some_iff.1 h1
              obtain ⟨_, hlen, hcell⟩ := World.cells?_some hcells
              obtain ⟨vs, c1, f1⟩ := ih e es hes _ _ _ htr
              refine ⟨c, vs, c1, f1, hlen, ?_⟩
              intro j x hj
              have h2 := hcell j (by have := (List.getElem?_eq_some_iff.1 hj).1; omega)
              rw [hj] at h2
              obtain ⟨_, c', t', fz, hb, hx⟩ := cell_block h2
              rw [(add_bo _ _).1, (add_bo _ _).1] at hb
              rw [(add_bo _ _).2, (add_bo _ _).2] at hx
              exact ⟨c', t', fz, hb, hx⟩
            by_cases hz : len = 0
            · subst hz
              exact ⟨[.ls false []], .cons _ _ _ _ (.row es [] (by simp) (by intro r hr; cases hr)) .nil, .cons (.nil false _ cap) .nil⟩
            · have hsp : a.spot = none ∧ ∃ c t fz, W.heap[a.block]? = some (.cells c t fz) := by
                have h1 := hel 0 (by omega)
                rw [List.getElem?_eq_getElem (by omega)] at h1
                obtain ⟨c, hcells, htr⟩ := Option.bind_eq_some_iff.1 h1
                obtain ⟨_, hlen, hcell⟩ := World.cells?_some hcells
                have h2 := hcell 0 (by omega)
                rw [List.getElem?_eq_getElem (by omega)] at h2
                have e0 : (a.add (0 * es.length)).add 0 = a := by simp [Addr.add]
                rw [e0] at h2
                obtain ⟨h3, c', t', fz, hb, _⟩ := cell_block h2
                exact ⟨h3, c', t', fz, hb⟩
              obtain ⟨hsp, c, t', fz, hb⟩ := hsp
              obtain ⟨b, off, spot⟩ := a
              simp only at hsp hb key
              subst hsp
              have key2 : ∀ i : Fin len, ∃ vs : List V, CSL es vs ∧ ∀ j v, vs[j]? = some v → ∃ x, c[off + i.1 * es.length + j]? = some x ∧ FR (fun b => b < W.heap.size) W.heap v x := by
                intro i
                obtain ⟨ci, vs, h1, h2, h3, h4⟩ := key i.1 i.2
                refine ⟨vs, h1, ?_⟩
                intro j v hj
                have hjl : j < ci.length := by rw [h3, ← h1.length]; exact (List.getElem?_eq_some_iff.1 hj).1
                obtain ⟨c', t2, fz2, hb2, hx⟩ := h4 j _ (List.getElem?_eq_getElem hjl)
                rw [hb] at hb2
                cases hb2
                exact ⟨_, hx, h2.get hj (List.getElem?_eq_getElem hjl)⟩
              let xs : List (List V) := List.ofFn fun i : Fin len => Classical.choose (key2 i)
              have hxs : ∀ (i : Nat) (r : List V), xs[i]? = some r → ∃ hi : i < len, r = Classical.choose (key2 ⟨i, hi⟩) := by
                intro i r hr
                have hi : i < len := by have := (List.getElem?_eq_some_iff.1 hr).1; simpa [xs] using this
                refine ⟨hi, ?_⟩
                simp only [xs, List.getElem?_ofFn, hi, dite_true] at hr
                cases hr; rfl
              have hxl : xs.length = len := by simp [xs]
              refine ⟨[.ls false xs], .cons _ _ _ _ (.row es xs (by omega) ?_) .nil, .cons ?_ .nil⟩
              · intro r hr
                obtain ⟨i, hi⟩ := List.mem_iff_getElem?.1 hr
                obtain ⟨hil, rfl⟩ := hxs i r hi
                exact (Classical.choose_spec (key2 ⟨i, hil⟩)).1
              · have := FR.ls (sh := fun b => b < W.heap.size) (h := W.heap) false xs b off es.length cap c (fun i j => c.getD (off + i * es.length + j) undef)
                  ((Array.getElem?_eq_some_iff.1 hb).1) ⟨t', fz, hb⟩ (by omega) ?_ ?_ ?_
                · rw [hxl] at this; exact this
                · intro i r hi
                  obtain ⟨hil, rfl⟩ := hxs i r hi
                  exact (Classical.choose_spec (key2 ⟨i, hil⟩)).1.length
                · intro i r j v hi hj
                  obtain ⟨hil, rfl⟩ := hxs i r hi
                  obtain ⟨x, hx, _⟩ := (Classical.choose_spec (key2 ⟨i, hil⟩)).2 j v hj
                  simp only [Array.getD_eq_getD_getElem?]
                  simp only at hx
                  rw [hx]; rfl
                · intro i r j v hi hj
                  obtain ⟨hil, rfl⟩ := hxs i r hi
                  obtain ⟨x, hx, hf⟩ := (Classical.choose_spec (key2 ⟨i, hil⟩)).2 j v hj
                  simp only [Array.getD_eq_getD_getElem?]
                  simp only at hx
                  rw [hx]; exact hf
        · cases h
      · cases h
    · cases h
/-- read cells as shown values -/
theorem xrl_of {W : World} {bi : Nat → Option Nat} : ∀ {ss : List Sh} {vs : List V} {cs : List Value}, CSL ss vs → FRs W vs cs → XRL (fun b => b < W.heap.size) W.heap bi vs cs []
  | _, _, _, .nil, .nil => .nil
  | _, _, _, .cons s ss v vs h1 h2, .cons f1 f2 => by
    have := xrl_of (bi := bi) h2 f2
    cases h1 with
    | int k n => cases f1; exact .cons _ _ _ _ [] [] (.sc _ rfl) this
    | str s hs => cases f1; exact .cons _ _ _ _ [] [] (.sc _ rfl) this
    | bool b => cases f1; exact .cons _ _ _ _ [] [] (.sc _ rfl) this
    | row es xs _ _ => exact .cons _ _ _ _ [] [] (.fz _ _ f1) this
/-- an argument that is a struct -/
theorem arg_struct {H : Type} {enc : TypeId × Value → H} {P : Program} {W : World} {base : Nat} {t : TypeId} {fs : Array Field} {v : Value} {d : DataW H} {p : List MemPlace} {bi : Nat → Option Nat} (n : Nat) {ss : List Sh}
    (hu : P.underlying t = some (.struct fs)) (hs : shT P n t = some ss) (o : Value.okWide P W .any base t v) (h : DataW.Trod enc P W 0 (fun _ => true) true t v d p) :
    ∃ vs, CSL ss vs ∧ XR (fun b => b < W.heap.size) W.heap bi (.ag vs) v [] := by
  obtain ⟨cs, rfl, _⟩ := okWide_struct hu o
  obtain ⟨fuel, h⟩ := h
  obtain ⟨vs, c1, f1⟩ := read n t ss hs fuel cs.toList _ h
  exact ⟨vs, c1, .ag _ _ [] (xrl_of c1 f1)⟩
/-- an argument that is a row -/
theorem arg_row {H : Type} {enc : TypeId × Value → H} {P : Program} {W : World} {base : Nat} {t e : TypeId} {v : Value} {d : DataW H} {p : List MemPlace} {bi : Nat → Option Nat} (n : Nat) {s : Sh}
    (hu : P.underlying t = some (.slice e)) (hs : shT P n t = some [s]) (o : Value.okWide P W .any base t v) (h : DataW.Trod enc P W 0 (fun _ => true) true t v d p) :
    ∃ x, CS s x ∧ XR (fun b => b < W.heap.size) W.heap bi x v [] := by
  obtain ⟨a, m, c, rfl⟩ := okWide_slice hu o
  obtain ⟨fuel, h⟩ := h
  obtain ⟨vs, c1, f1⟩ := read n t [s] hs fuel [.slice a m c] _ h
  cases c1 with
  | cons _ _ x l d1 d2 =>
    cases f1 with
    | cons g1 g2 =>
      refine ⟨x, d1, ?_⟩
      cases d1 with
      | int k n => cases g1
      | str s hs => cases g1
      | bool b => cases g1
      | row es xs _ _ => exact .fz _ _ g1
/-- rows as lists -/
theorem rows_map {τ : Type} {e : τ → List V} {Q : τ → Prop} : ∀ {xs : List (List V)}, (∀ r, r ∈ xs → ∃ x, r = e x ∧ Q x) → ∃ l : List τ, xs = l.map e ∧ ∀ x, x ∈ l → Q x
  | [], _ => ⟨[], rfl, by intro x hx; cases hx⟩
  | r :: rs, h => by
    obtain ⟨x, rfl, hq⟩ := h r (by simp)
    obtain ⟨l, hl, hq2⟩ := rows_map (xs := rs) (fun r hr => h r (by simp [hr]))
    refine ⟨x :: l, by simp [hl], ?_⟩
    intro y hy
    rcases List.mem_cons.1 hy with rfl | hy
    · exact hq
    · exact hq2 y hy
end Go.Pv

namespace Go.Pv
open Go.RowKit Go.WideShapes
set_option linter.unusedVariables false
set_option maxRecDepth 100000
theorem mixed : Go.Proofs.Try.prog.follows .mixedOrders = true := by kernel_rfl
theorem hLib [Glb] : LibOk Go.Proofs.Try.prog EE := by intro f av cs v cs' hf h; cases h
/-- what the evaluation tells of rows that are only shown: the call, and the old memory -/
theorem call_of_ev {f : Nat} {av : List V} {args : Array Value} {W : World} {x : Value} (hl : lentOf (EE.own f) av.length = []) (h : ev EE (.call f av []) = some (.val (.sc x) []))
    (hx : XRL (fun b => b < W.heap.size) W.heap (fun _ => none) av args.toList []) :
    Calls Go.Proofs.Try.prog f args W fun e W' => e = .returned x ∧ Below W.heap.size W W' := by
  letI : Glb := ⟨[]⟩
  have hs := ev_sound mixed hE hLib h
  have hgl : ∀ p ∈ Glb.l, p.1 < W.heap.size ∧ W.heap[p.1]? = some p.2 := by
    intro p hp
    have hp' : p ∈ ([] : List (Nat × Obj)) := hp
    cases hp'
  have G : Given W (fun b => b < W.heap.size) av args.toList [] [] [] [] :=
    { shLt := fun x hx => hx, xr := by simpa using hx, lenB := rfl, lenG := rfl, bx := fun j b c G h1 => by simp at h1, nodup := List.nodup_nil, blk := fun b hb => by simp at hb, disj := List.Pairwise.nil, apart := fun F hF => by simp at hF, glb := hgl }
  refine (hs W _ args [] [] [] G).mono ?_
  rintro e W' ⟨u, rfl, hfr, sh', Fs', new, Gs', G', _, _⟩
  rw [hl] at G'
  have hu : u = x := by
    have := G'.xr
    simp only [unpack, List.length_nil, if_true, List.map_nil] at this
    cases this with
    | cons _ _ _ _ F1 F2 q1 q2 =>
      cases q1
      rfl
  refine ⟨by rw [hu], ⟨hfr.os, hfr.tape, hfr.output, hfr.size, fun k hk => hfr.keep k hk ?_⟩⟩
  simp [mineOf]
theorem rd_bytes {v : V} (h : CS (.row [.int .u8]) v) : ∃ ws : List Int, v = .ls false (byi ws) := by
  cases h with
  | row es xs hl hr =>
    obtain ⟨l, rfl, _⟩ := rows_map (e := fun n : Int => [V.sc (.int .u8 n)]) (Q := fun _ => True) (fun r hx => by
      cases hr r hx with
      | cons _ _ v vs a b => cases a with | int k n => cases b; exact ⟨n, rfl, trivial⟩)
    exact ⟨l, rfl⟩
theorem walkTrees {H : Type} (enc : TypeId × Value → H) (W : World) (base : Nat) (v0 : Value) (d0 : DataW H) (p0 : List MemPlace) (o0 : Value.okWide Go.Proofs.Try.prog W .any base 22 v0) (h0 : DataW.Trod enc Go.Proofs.Try.prog W 0 (fun _ => true) true 22 v0 d0 p0)
    {ts : List TypeId} {ds : List (DataW H)} (hsz : (DataW.weightsEach Go.Proofs.Try.prog ts ds).all (· ≤ reachBytes) = true) :
    Calls Go.Proofs.Try.prog 3 #[v0] W fun e W' => e = .returned (.bool true) ∧ Below W.heap.size W W' := by
  obtain ⟨x, c1, hx⟩ := arg_row (bi := fun _ => none) 3 (s := .row [.int .u8]) Go.Proofs.Try.underlying22 (by kernel_rfl) o0 h0
  obtain ⟨ws, rfl⟩ := rd_bytes c1
  refine call_of_ev rfl (Fw_FnTrees_true ws (Trees_all ws)) ?_
  have := XRL.cons _ [] _ [] [] [] hx .nil
  simpa using this
end Go.Pv
