/- Proof: the law Slide called with whatever values read as a slab and a row answers true. No condition. -/
import Derived.Test.YthddchcckpmgoaaEsB
import Derived.Test.YthddchcckpmgoaaIh
import Derived.ChangeArms
import Derived.WideShapes
import Derived.ProofKit
import Derived.Below
set_option autoImplicit true
set_option relaxedAutoImplicit true
set_option linter.unusedSimpArgs false
set_option linter.unusedVariables false
namespace Go.Pv
open Go.RowKit Go.WideShapes
set_option linter.unusedVariables false
set_option maxRecDepth 100000
theorem mixed : Go.Proofs.Try.prog.follows .mixedOrders = true := by kernel_rfl
/-- a row of whole numbers, read: as a frozen row -/
theorem row_ints {H : Type} {enc : TypeId × Value → H} {P : Program} {W : World} {t e : TypeId} (hu : P.underlying t = some (.slice e)) (hc : P.cellsOf e = 1) (he : P.underlying e = some (.int .i64))
    {fuel : Nat} {cs : List Value} {y : DataW H × List MemPlace} (h : DataW.trod enc P W 0 (fun _ => true) true fuel t cs = some y) :
    ∃ (ws : List Int) (v : Value), cs = [v] ∧ FR (fun b => b < W.heap.size) W.heap (.ls false (ints ws)) v ∧ ws.length ≤ maxLen := by
  rcases DataW.trod_slice hu h with ⟨rfl, _⟩ | ⟨a, len, cap, elems, rest, n, _, rfl, _, _, hl, hm, hle, hel, _, _⟩
  · exact ⟨[], _, rfl, .nil false none 0, by simp⟩
  · have key : ∀ i, i < len → ∃ x : Int, W.cell? (a.add i) = some (.int .i64 x) := by
      intro i hi
      have h1 := hel i hi
      rw [List.getElem?_eq_getElem (by omega)] at h1
      obtain ⟨c, hcells, htr⟩ := Option.bind_eq_some_iff.1 h1
      obtain ⟨_, hlen, hcell⟩ := World.cells?_some hcells
      obtain ⟨x, rfl, _, _⟩ := DataW.trod_int he htr
      have h2 := hcell 0 (by omega)
      rw [hc] at h2
      refine ⟨x, ?_⟩
      have h3 : (a.add (i * 1)).add 0 = a.add i := by simp [Addr.add]
      rw [h3] at h2
      simpa using h2
    by_cases hz : len = 0
    · subst hz
      exact ⟨[], _, rfl, .nil false _ _, by simp⟩
    · obtain ⟨x0, hx0⟩ := key 0 (by omega)
      have ha0 : a.add 0 = a := by simp [Addr.add]
      rw [ha0] at hx0
      obtain ⟨b, off, spot⟩ := a
      have hsp : spot = none ∧ ∃ c t fz, W.heap[b]? = some (.cells c t fz) := by
        unfold World.cell? at hx0
        split at hx0
        · rename_i c t fz hb
          split at hx0
          · cases hx0
          · rename_i hs
            cases spot with
            | none => exact ⟨rfl, c, t, fz, hb⟩
            | some _ => simp at hs
        · cases hx0
      obtain ⟨rfl, c, t', fz, hb⟩ := hsp
      have hval : ∀ i, i < len → ∃ x : Int, c[off + i]? = some (.int .i64 x) := by
        intro i hi
        obtain ⟨x, hx⟩ := key i hi
        refine ⟨x, ?_⟩
        by_cases h0 : i = 0
        · subst h0
          simpa [World.cell?, Addr.add, hb] using hx
        · simpa [World.cell?, Addr.add, hb, h0] using hx
      let f : Fin len → Int := fun i => Classical.choose (hval i.1 i.2)
      have hf : ∀ i : Fin len, c[off + i.1]? = some (.int .i64 (f i)) := fun i => Classical.choose_spec (hval i.1 i.2)
      refine ⟨List.ofFn f, .slice (some ⟨b, off, none⟩) len cap, rfl, ?_, by simp; omega⟩
      have hlen : (ints (List.ofFn f)).length = len := by simp
      have := FR.ls (sh := fun b => b < W.heap.size) (h := W.heap) false (ints (List.ofFn f)) b off 1 cap c (fun i _ => c.getD (off + i) undef)
        ((Array.getElem?_eq_some_iff.1 hb).1) ⟨t', fz, hb⟩ (by rw [hlen]; exact hl) ?_ ?_ ?_
      · rw [hlen] at this; exact this
      · intro i cs hi
        simp only [ints, List.getElem?_map, Option.map_eq_some_iff] at hi
        obtain ⟨x, _, rfl⟩ := hi
        rfl
      · intro i cs j v hi hj
        have hil : i < len := by have := (List.getElem?_eq_some_iff.1 hi).1; omega
        simp only [ints, List.getElem?_map, Option.map_eq_some_iff] at hi
        obtain ⟨x, hx, rfl⟩ := hi
        have hj0 : j = 0 := by
          have := (List.getElem?_eq_some_iff.1 hj).1
          simp at this
          exact this
        subst hj0
        have h5 := hf ⟨i, hil⟩
        simp only at h5
        simp [h5]
      · intro i cs j v hi hj
        have hil : i < len := by have := (List.getElem?_eq_some_iff.1 hi).1; omega
        simp only [ints, List.getElem?_map, Option.map_eq_some_iff] at hi
        obtain ⟨x, hx, rfl⟩ := hi
        have hj0 : j = 0 := by
          have := (List.getElem?_eq_some_iff.1 hj).1
          simp at this
          exact this
        subst hj0
        simp only [List.getElem?_cons_zero, Option.some.injEq] at hj
        subst hj
        have h5 := hf ⟨i, hil⟩
        simp only at h5
        have h6 : f ⟨i, hil⟩ = x := by
          rw [List.getElem?_ofFn] at hx
          simpa [hil] using hx
        rw [h6] at h5
        simp only [Array.getD_eq_getD_getElem?, h5, Option.getD_some]
        exact .sc _ rfl
/-- what the evaluation tells of rows that are only shown: the call, and the old memory -/
theorem call_of_ev {f : Nat} {av : List V} {args : Array Value} {W : World} {v : V} {x : Value} (hl : lentOf (EE.own f) av.length = []) (h : ev EE (.call f av []) = some (.val (.sc x) []))
    (hx : XRL (fun b => b < W.heap.size) W.heap (fun _ => none) av args.toList []) :
    Calls Go.Proofs.Try.prog f args W fun e W' => e = .returned x ∧ Below W.heap.size W W' := by
  have hs := ev_sound mixed hE h
  have G : Given W (fun b => b < W.heap.size) av args.toList [] [] [] [] :=
    { shLt := fun x hx => hx, xr := by simpa using hx, lenB := rfl, lenG := rfl, bx := fun j b c G h1 => by simp at h1, nodup := List.nodup_nil, blk := fun b hb => by simp at hb, disj := List.Pairwise.nil, apart := fun F hF => by simp at hF }
  refine (hs W _ args [] [] [] G).mono ?_
  rintro e W' ⟨u, rfl, hfr, sh', Fs', new, Gs', G', _, _⟩
  rw [hl] at G'
  have hu : u = x := by
    have := G'.xr
    simp only [unpack, List.length_nil, if_true, List.map_nil] at this
    cases this with
    | cons _ _ _ _ F1 F2 q1 q2 =>
      cases q1
      rfl
  refine ⟨by rw [hu], ⟨hfr.os, hfr.tape, hfr.output, hfr.size, fun k hk => hfr.keep k hk ?_⟩⟩
  simp [mineOf]
theorem field0 {H : Type} {enc : TypeId × Value → H} {P : Program} {W : World} {t : TypeId} {fs : Array Field} {fuel : Nat} {cs : List Value} {y : DataW H × List MemPlace} (hu : P.underlying t = some (.struct fs)) (h : DataW.trod enc P W 0 (fun _ => true) true fuel t cs = some y)
    (i off n : Nat) (ft : TypeId) (hf : (fs[i]?).map (fun f => (f.offset, f.type)) = some (off, ft)) (hn : P.cellsOf ft = n) : ∃ fuel' y', DataW.trod enc P W 0 (fun _ => true) true fuel' ft ((cs.drop off).take n) = some y' := by
  obtain ⟨f, hf1, hf2⟩ := Option.map_eq_some_iff.1 hf
  simp only [Prod.mk.injEq] at hf2
  obtain ⟨rfl, rfl⟩ := hf2
  subst hn
  obtain ⟨xs, n, _, _, _, hl, hx⟩ := DataW.trod_struct hu h
  have h1 := hx i f hf1
  have hi : i < xs.length := by rw [hl]; exact (Array.getElem?_eq_some_iff.1 hf1).1
  rw [List.getElem?_eq_getElem hi] at h1
  exact ⟨_, _, h1⟩
/-- a slab, read -/
theorem slab_read {H : Type} (enc : TypeId × Value → H) (W : World) (base : Nat) (v0 : Value) (d0 : DataW H) (p0 : List MemPlace) (o0 : Value.okWide Go.Proofs.Try.prog W .any base 24 v0) (h0 : DataW.Trod enc Go.Proofs.Try.prog W 0 (fun _ => true) true 24 v0 d0 p0) :
    ∃ ws : List Int, ws.length ≤ maxLen ∧ XR (fun b => b < W.heap.size) W.heap (fun _ => none) (SL ws) v0 [] := by
  obtain ⟨cs, rfl, hs⟩ := okWide_struct Go.Proofs.Try.underlying24 o0
  obtain ⟨fuel, h⟩ := h0
  have hs1 : cs.size = 1 := hs.trans (by kernel_rfl)
  change DataW.trod enc Go.Proofs.Try.prog W 0 (fun _ => true) true fuel 24 cs.toList = _ at h
  obtain ⟨fuel', y', h'⟩ := field0 Go.Proofs.Try.underlying24 h 0 0 1 22 rfl (by kernel_rfl)
  obtain ⟨ws, v, hv, hfr, hlen⟩ := row_ints (e := 3) (by kernel_rfl) (by kernel_rfl) (by kernel_rfl) h'
  have hcs : cs.toList = [v] := by
    rw [← hv, List.drop_zero, List.take_of_length_le (by simp [hs1])]
  refine ⟨ws, hlen, .ag _ _ [] ?_⟩
  rw [hcs]
  have := XRL.cons (sh := fun b => b < W.heap.size) (h := W.heap) (bi := fun _ => none) (.ls false (ints ws)) [] v [] [] [] (.fz _ _ hfr) .nil
  simpa using this
/-- a row of whole numbers as an argument -/
theorem row_read {H : Type} (enc : TypeId × Value → H) (W : World) (base : Nat) (v0 : Value) (d0 : DataW H) (p0 : List MemPlace) (o0 : Value.okWide Go.Proofs.Try.prog W .any base 22 v0) (h0 : DataW.Trod enc Go.Proofs.Try.prog W 0 (fun _ => true) true 22 v0 d0 p0) :
    ∃ ws : List Int, ws.length ≤ maxLen ∧ XR (fun b => b < W.heap.size) W.heap (fun _ => none) (IS ws) v0 [] := by
  obtain ⟨a, n, c, rfl⟩ := okWide_slice (e := 3) (by kernel_rfl) o0
  obtain ⟨fuel, h⟩ := h0
  change DataW.trod enc Go.Proofs.Try.prog W 0 (fun _ => true) true fuel 22 [.slice a n c] = _ at h
  obtain ⟨ws, v, hv, hfr, hlen⟩ := row_ints (e := 3) (by kernel_rfl) (by kernel_rfl) (by kernel_rfl) h
  injection hv with hv _
  subst hv
  exact ⟨ws, hlen, .fz _ _ hfr⟩
theorem walkSlide {H : Type} (enc : TypeId × Value → H) (W : World) (base : Nat) (v0 : Value) (d0 : DataW H) (p0 : List MemPlace) (v1 : Value) (d1 : DataW H) (p1 : List MemPlace) (o0 : Value.okWide Go.Proofs.Try.prog W .any base 24 v0) (o1 : Value.okWide Go.Proofs.Try.prog W .any base 22 v1) (h0 : DataW.Trod enc Go.Proofs.Try.prog W 0 (fun _ => true) true 24 v0 d0 p0) (h1 : DataW.Trod enc Go.Proofs.Try.prog W 0 (fun _ => true) true 22 v1 d1 p1)
    {ts : List TypeId} {ds : List (DataW H)} (hsz : (DataW.weightsEach Go.Proofs.Try.prog ts ds).all (· ≤ reachBytes) = true) :
    Calls Go.Proofs.Try.prog 5 #[v0, v1] W fun e W' => e = .returned (.bool true) ∧ Below W.heap.size W W' := by
  obtain ⟨ws, hlen, hx⟩ := slab_read enc W base v0 d0 p0 o0 h0
  obtain ⟨rs, hlen2, hy⟩ := row_read enc W base v1 d1 p1 o1 h1
  refine call_of_ev (v := .tu []) rfl (e5 ws rs (by simp only [maxLen] at hlen; omega)) ?_
  have := XRL.cons _ [IS rs] _ [v1] [] [] hx (XRL.cons _ [] _ [] [] [] hy .nil)
  simpa using this
end Go.Pv
