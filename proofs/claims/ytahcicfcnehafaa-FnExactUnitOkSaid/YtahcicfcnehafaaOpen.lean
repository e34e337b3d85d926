/- What an argument's cells say, read by its type: whole numbers, bools, strings, slices, fields of structs; by kinds ('Kd'). No condition. -/
import Derived.Test.YtahcicfcnehafaaWWords
import Derived.ChangeArms
import Derived.WideShapes
import Derived.ProofKit
namespace Go.Proofs.Ytahcicfcnehafaa.Open
open Go.RowKit Go.WideShapes Go.Proofs.YtahcicfcnehafaaW.PrintWords
set_option linter.unusedVariables false

/-- Whatever is read at type t is of kind d, and fits Q. -/
def RD {α H : Type} (enc : TypeId × Value → H) (P : Program) (w : World) (t : TypeId) (d : Kd α) (Q : α → Prop) : Prop :=
  ∀ fuel cs y, DataW.trod enc P w 0 (fun _ => true) true fuel t cs = some y → ∃ x, d.K w x cs ∧ Q x

section
variable {α H : Type} {enc : TypeId × Value → H} {P : Program} {w : World} {t e : TypeId}

theorem RD.int {k : IntKind} (hu : P.underlying t = some (.int k)) : RD enc P w t (Kd.int k) (fun n => (Lit.int k n).wf = true) := by
  intro fuel cs y h
  obtain ⟨n, rfl, _, hw⟩ := DataW.trod_int hu h
  exact ⟨n, rfl, hw⟩

theorem RD.string (hu : P.underlying t = some .string) : RD enc P w t Kd.string (fun s => s.size ≤ maxLen) := by
  intro fuel cs y h
  obtain ⟨s, rfl, _, hw⟩ := DataW.trod_string hu h
  exact ⟨s, rfl, hw⟩

theorem trod_bool' {fuel : Nat} {cs : List Value} {y : DataW H × List MemPlace} (ht : P.underlying t = some .bool) (h : DataW.trod enc P w 0 (fun _ => true) true fuel t cs = some y) : ∃ b, cs = [.bool b] := by
  cases fuel with
  | zero => simp [DataW.trod] at h
  | succ n =>
    unfold DataW.trod at h
    rw [ht] at h
    split at h <;> simp_all

theorem RD.bool (hu : P.underlying t = some .bool) : RD enc P w t Kd.bool (fun _ => True) := by
  intro fuel cs y h
  obtain ⟨b, rfl⟩ := trod_bool' hu h
  exact ⟨b, rfl, trivial⟩

theorem add_add (a : Addr) (i j : Nat) : (a.add i).add j = a.add (i + j) := by
  unfold Addr.add
  by_cases hi : i = 0
  · subst hi
    by_cases hj : j = 0
    · subst hj; simp
    · simp [hj]
  · by_cases hj : j = 0
    · subst hj
      simp [hi]
    · simp [hi, hj, Nat.add_assoc]

theorem RD.slice {d : Kd α} {Q : α → Prop} (hu : P.underlying t = some (.slice e)) (hc : P.cellsOf e = d.sz) (he : RD enc P w e d Q) :
    RD enc P w t (Kd.slice e d) (fun xs => xs.length ≤ maxLen ∧ ∀ x ∈ xs, Q x) := by
  intro fuel cs y h
  rcases DataW.trod_slice hu h with ⟨rfl, _⟩ | ⟨a, len, cap, elems, rest, n, _, rfl, _, _, hl, hm, hle, hel, _, _⟩
  · exact ⟨[], ⟨none, 0, rfl, Nat.le_refl _, rfl, by simp, fun h => absurd h (by simp)⟩, by simp, fun x hx => by simp at hx⟩
  · have key : ∀ i, i < len → ∃ x c, c.length = d.sz ∧ d.K w x c ∧ Q x ∧ ∀ j u, c[j]? = some u → w.cell? (a.add (i * d.sz + j)) = some u := by
      intro i hi
      have h1 := hel i hi
      rw [List.getElem?_eq_getElem (by omega)] at h1
      obtain ⟨c, hcells, htr⟩ := Option.bind_eq_some_iff.1 h1
      obtain ⟨_, hlen, hcell⟩ := World.cells?_some hcells
      obtain ⟨x, hx, hq⟩ := he _ _ _ htr
      refine ⟨x, c, hlen.trans hc, hx, hq, fun j u hj => ?_⟩
      have hjl : j < P.cellsOf e := by rw [← hlen]; exact (List.getElem?_eq_some_iff.1 hj).1
      have h2 := hcell j hjl
      rw [hj] at h2
      rw [hc] at h2
      rw [add_add] at h2
      exact h2
    let f : Fin len → α := fun i => Classical.choose (key i.1 i.2)
    have hf : ∀ i : Fin len, ∃ c, c.length = d.sz ∧ d.K w (f i) c ∧ Q (f i) ∧ ∀ j u, c[j]? = some u → w.cell? (a.add (i.1 * d.sz + j)) = some u := fun i => Classical.choose_spec (key i.1 i.2)
    refine ⟨List.ofFn f, ⟨some a, cap, by rw [List.length_ofFn], by rw [List.length_ofFn]; exact hl, by rw [List.length_ofFn], by rw [List.length_ofFn]; simp only [maxLen] at hm; omega, fun _ => ⟨a, rfl, fun j p hj => ?_⟩⟩, by rw [List.length_ofFn]; omega, fun x hx => ?_⟩
    · obtain ⟨hj1, hj2⟩ := List.getElem?_eq_some_iff.1 hj
      rw [List.length_ofFn] at hj1
      rw [List.getElem_ofFn] at hj2
      obtain ⟨c, h1, h2, _, h4⟩ := hf ⟨j, hj1⟩
      subst hj2
      exact ⟨c, h1, h2, h4⟩
    · obtain ⟨i, rfl⟩ := List.mem_ofFn.1 hx
      exact (hf i).choose_spec.2.2.1

theorem RD.imp {d : Kd α} {Q Q' : α → Prop} (h : RD enc P w t d Q) (hq : ∀ x, Q x → Q' x) : RD enc P w t d Q' := fun fuel cs y hy => by
  obtain ⟨x, h1, h2⟩ := h fuel cs y hy
  exact ⟨x, h1, hq x h2⟩

/-- A field of a struct that is read: its cells stand at its offset. -/
theorem field {fs : Array Field} {fuel : Nat} {cs : List Value} {y : DataW H × List MemPlace} {d : Kd α} {Q : α → Prop} (hu : P.underlying t = some (.struct fs)) (h : DataW.trod enc P w 0 (fun _ => true) true fuel t cs = some y)
    (i off n : Nat) (ft : TypeId) (hf : (fs[i]?).map (fun f => (f.offset, f.type)) = some (off, ft)) (hn : P.cellsOf ft = n) (hd : RD enc P w ft d Q) : ∃ x, d.K w x ((cs.drop off).take n) ∧ Q x := by
  obtain ⟨f, hf1, hf2⟩ := Option.map_eq_some_iff.1 hf
  simp only [Prod.mk.injEq] at hf2
  obtain ⟨rfl, rfl⟩ := hf2
  subst hn
  obtain ⟨xs, n, _, _, _, hl, hx⟩ := DataW.trod_struct hu h
  have h1 := hx i f hf1
  have hi : i < xs.length := by rw [hl]; exact (Array.getElem?_eq_some_iff.1 hf1).1
  rw [List.getElem?_eq_getElem hi] at h1
  exact hd _ _ _ h1

/-- A list by its pieces. -/
theorem join (l : List Value) (a n : Nat) : l.drop a = (l.drop a).take n ++ l.drop (a + n) := by
  rw [← List.drop_drop, List.take_append_drop]
theorem join0 (l : List Value) (n : Nat) : l = (l.drop 0).take n ++ l.drop n := by
  rw [List.drop_zero, List.take_append_drop]
theorem join_end (l : List Value) (a : Nat) (h : l.length = a) : l.drop a = [] := List.drop_eq_nil_of_le (by omega)
theorem array_of_list {cs : Array Value} {l : List Value} (h : cs.toList = l) : cs = l.toArray := by rw [← h]

/-! ### the same, to a depth: for types nested in themselves -/
def RDF {α H : Type} (enc : TypeId × Value → H) (P : Program) (w : World) (N : Nat) (t : TypeId) (d : Kd α) (Q : α → Prop) : Prop :=
  ∀ fuel, fuel ≤ N → ∀ cs y, DataW.trod enc P w 0 (fun _ => true) true fuel t cs = some y → ∃ x, d.K w x cs ∧ Q x
theorem RD.to {d : Kd α} {Q : α → Prop} (h : RD enc P w t d Q) (N : Nat) : RDF enc P w N t d Q := fun fuel _ cs y hy => h fuel cs y hy
theorem RDF.all {d : Kd α} {Q : α → Prop} (h : ∀ N, RDF enc P w N t d Q) : RD enc P w t d Q := fun fuel cs y hy => h fuel fuel (Nat.le_refl _) cs y hy
theorem RDF.mono {d : Kd α} {Q : α → Prop} {N M : Nat} (h : RDF enc P w N t d Q) (hm : M ≤ N) : RDF enc P w M t d Q := fun fuel hf cs y hy => h fuel (by omega) cs y hy
theorem RDF.zero {d : Kd α} {Q : α → Prop} : RDF enc P w 0 t d Q := fun fuel hf cs y hy => by
  obtain rfl : fuel = 0 := by omega
  simp [DataW.trod] at hy
theorem RDF.slice {d : Kd α} {Q : α → Prop} {N : Nat} (hu : P.underlying t = some (.slice e)) (hc : P.cellsOf e = d.sz) (he : RDF enc P w N e d Q) :
    RDF enc P w (N + 1) t (Kd.slice e d) (fun xs => xs.length ≤ maxLen ∧ ∀ x ∈ xs, Q x) := by
  intro fuel hfuel cs y h
  rcases DataW.trod_slice hu h with ⟨rfl, _⟩ | ⟨a, len, cap, elems, rest, n, hn, rfl, _, _, hl, hm, hle, hel, _, _⟩
  · exact ⟨[], ⟨none, 0, rfl, Nat.le_refl _, rfl, by simp, fun h => absurd h (by simp)⟩, by simp, fun x hx => by simp at hx⟩
  · have key : ∀ i, i < len → ∃ x c, c.length = d.sz ∧ d.K w x c ∧ Q x ∧ ∀ j u, c[j]? = some u → w.cell? (a.add (i * d.sz + j)) = some u := by
      intro i hi
      have h1 := hel i hi
      rw [List.getElem?_eq_getElem (by omega)] at h1
      obtain ⟨c, hcells, htr⟩ := Option.bind_eq_some_iff.1 h1
      obtain ⟨_, hlen, hcell⟩ := World.cells?_some hcells
      obtain ⟨x, hx, hq⟩ := he _ (by omega) _ _ htr
      refine ⟨x, c, hlen.trans hc, hx, hq, fun j u hj => ?_⟩
      have hjl : j < P.cellsOf e := by rw [← hlen]; exact (List.getElem?_eq_some_iff.1 hj).1
      have h2 := hcell j hjl
      rw [hj] at h2
      rw [hc] at h2
      rw [add_add] at h2
      exact h2
    let f : Fin len → α := fun i => Classical.choose (key i.1 i.2)
    have hf : ∀ i : Fin len, ∃ c, c.length = d.sz ∧ d.K w (f i) c ∧ Q (f i) ∧ ∀ j u, c[j]? = some u → w.cell? (a.add (i.1 * d.sz + j)) = some u := fun i => Classical.choose_spec (key i.1 i.2)
    refine ⟨List.ofFn f, ⟨some a, cap, by rw [List.length_ofFn], by rw [List.length_ofFn]; exact hl, by rw [List.length_ofFn], by rw [List.length_ofFn]; simp only [maxLen] at hm; omega, fun _ => ⟨a, rfl, fun j p hj => ?_⟩⟩, by rw [List.length_ofFn]; omega, fun x hx => ?_⟩
    · obtain ⟨hj1, hj2⟩ := List.getElem?_eq_some_iff.1 hj
      rw [List.length_ofFn] at hj1
      rw [List.getElem_ofFn] at hj2
      obtain ⟨c, h1, h2, _, h4⟩ := hf ⟨j, hj1⟩
      subst hj2
      exact ⟨c, h1, h2, h4⟩
    · obtain ⟨i, rfl⟩ := List.mem_ofFn.1 hx
      exact (hf i).choose_spec.2.2.1
theorem fieldF {fs : Array Field} {fuel N : Nat} {cs : List Value} {y : DataW H × List MemPlace} {d : Kd α} {Q : α → Prop} (hu : P.underlying t = some (.struct fs)) (h : DataW.trod enc P w 0 (fun _ => true) true fuel t cs = some y) (hN : fuel ≤ N + 1)
    (i off n : Nat) (ft : TypeId) (hf : (fs[i]?).map (fun f => (f.offset, f.type)) = some (off, ft)) (hn : P.cellsOf ft = n) (hd : RDF enc P w N ft d Q) : ∃ x, d.K w x ((cs.drop off).take n) ∧ Q x := by
  obtain ⟨f, hf1, hf2⟩ := Option.map_eq_some_iff.1 hf
  simp only [Prod.mk.injEq] at hf2
  obtain ⟨rfl, rfl⟩ := hf2
  subst hn
  obtain ⟨xs, n, hn, _, _, hl, hx⟩ := DataW.trod_struct hu h
  have h1 := hx i f hf1
  have hi : i < xs.length := by rw [hl]; exact (Array.getElem?_eq_some_iff.1 hf1).1
  rw [List.getElem?_eq_getElem hi] at h1
  exact hd _ (by omega) _ _ h1
theorem struct_len {fs : Array Field} {fuel : Nat} {cs : List Value} {y : DataW H × List MemPlace} (hu : P.underlying t = some (.struct fs)) (h : DataW.trod enc P w 0 (fun _ => true) true fuel t cs = some y) : cs.length = P.cellsOf t := by
  obtain ⟨xs, n, hn, _, hl, _⟩ := DataW.trod_struct hu h
  exact hl
end
end Go.Proofs.Ytahcicfcnehafaa.Open
