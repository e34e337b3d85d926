/- Proof: the operations tell the truth, second part. No condition. -/
import Derived.Test.YtaadneenebhnoaaPvC
import Derived.Laws.BytesArg
import Derived.Laws.Tables
import Derived.Great.BuildSlice
import Derived.Shelf.Bytes.SlSmallAll
import Derived.MapKept
set_option autoImplicit true
set_option relaxedAutoImplicit true
set_option linter.unusedSimpArgs false
set_option linter.unusedVariables false
set_option linter.unusedSimpArgs false
set_option linter.unusedVariables false
namespace Go.Pv
variable {α : Type} {w0 : World} {mine : Mine} {N : Nat} {pb : List Nat} {gh : Gh} {s : St} {a : Act} {w : World} {g : Ora} {r : α × St} {P : Program} {own : Nat → Nat → Mode}

theorem fold_seg (off : Nat) : ∀ (l : List Value) (k : Nat) (cells : Array Value),
    let c' := (l.zipIdx k).foldl (fun cs (p : Value × Nat) => cs.setIfInBounds (off + p.2) p.1) cells
    c'.size = cells.size ∧ ∀ q, c'[q]? = if off + k ≤ q ∧ q < off + k + l.length ∧ q < cells.size then l[q - off - k]? else cells[q]?
  | [], k, cells => by
    refine ⟨rfl, fun q => ?_⟩
    rw [if_neg (by simp; omega)]; rfl
  | v :: l, k, cells => by
    obtain ⟨h1, h2⟩ := fold_seg off l (k + 1) (cells.setIfInBounds (off + k) v)
    simp only [List.zipIdx_cons, List.foldl_cons]
    refine ⟨by rw [h1]; simp, fun q => ?_⟩
    rw [h2 q]
    simp only [Array.size_setIfInBounds, List.length_cons, Array.getElem?_setIfInBounds]
    by_cases hq : off + k = q
    · subst hq
      rw [if_neg (by omega), if_pos rfl]
      by_cases hs : off + k < cells.size
      · rw [if_pos hs, if_pos (by omega), show off + k - off - k = 0 by omega]; rfl
      · rw [if_neg hs, if_neg (by omega), Array.getElem?_eq_none (by omega)]
    · rw [if_neg hq]
      by_cases hc : off + (k + 1) ≤ q ∧ q < off + (k + 1) + l.length ∧ q < cells.size
      · rw [if_pos hc, if_pos (by omega), show q - off - k = (q - off - (k + 1)) + 1 by omega]; rfl
      · rw [if_neg hc, if_neg (by omega)]
theorem fold_arr (off : Nat) (vs cells : Array Value) :
    (vs.zipIdx.foldl (fun cs (c, j) => cs.setIfInBounds (off + j) c) cells).size = cells.size ∧
      ∀ q, (vs.zipIdx.foldl (fun cs (c, j) => cs.setIfInBounds (off + j) c) cells)[q]? = if off ≤ q ∧ q < off + vs.size ∧ q < cells.size then vs[q - off]? else cells[q]? := by
  have h := fold_seg off vs.toList 0 cells
  have he : vs.zipIdx.foldl (fun cs (c, j) => cs.setIfInBounds (off + j) c) cells = (vs.toList.zipIdx 0).foldl (fun cs (p : Value × Nat) => cs.setIfInBounds (off + p.2) p.1) cells := by
    rw [← Array.foldl_toList, Array.toList_zipIdx]
  rw [he]
  refine ⟨h.1, fun q => ?_⟩
  rw [h.2 q]
  simp
/-- a struct, put together -/
theorem fill_ok {place : Nat → Option (Nat × Nat)} {gh : Gh} {h : Array Obj} : ∀ (parts : List (Nat × Value)) (ps : List (Nat × Nat × V)) (zs cs : List V) (cells : Array Value), parts.length = ps.length →
    (∀ (i : Nat) (p : Nat × Value) (q : Nat × Nat × V), parts[i]? = some p → ps[i]? = some q → place p.1 = some (q.1, q.2.1) ∧ RT gh h q.2.2 p.2) →
    zs.length = cells.size → (∀ (i : Nat) (c : V) (v : Value), zs[i]? = some c → cells[i]? = some v → RT gh h c v) → fillP zs ps = some cs →
    ∃ cells', Instr.fill place cells parts = some cells' ∧ cs.length = cells'.size ∧ ∀ (i : Nat) (c : V) (v : Value), cs[i]? = some c → cells'[i]? = some v → RT gh h c v
  | [], ps, zs, cs, cells, hl, hp, hz, hr, hf => by
    cases ps with
    | nil => simp [fillP] at hf; subst hf; exact ⟨cells, rfl, hz, hr⟩
    | cons p ps => simp at hl
  | (i, v) :: parts, ps, zs, cs, cells, hl, hp, hz, hr, hf => by
    cases ps with
    | nil => simp at hl
    | cons p ps =>
      obtain ⟨off, n, u⟩ := p
      simp only [fillP] at hf
      split at hf
      · rename_i hc
        obtain ⟨h1, h2⟩ := hp 0 (i, v) (off, n, u) rfl rfl
        obtain ⟨c1, c2⟩ := cells_ok h2
        obtain ⟨f1, f2⟩ := fold_arr off v.cells cells
        have hsz : v.cells.size = n := by rw [← c1, hc.1]
        obtain ⟨cells', g1, g2, g3⟩ := fill_ok parts ps _ cs (v.cells.zipIdx.foldl (fun cs (c, j) => cs.setIfInBounds (off + j) c) cells) (by simpa using hl) (fun j p q hj hq => hp (j + 1) p q (by simpa using hj) (by simpa using hq))
          (by rw [setAt_length, f1, hz]) (by
            intro j c x hj hx
            rw [setAt_get] at hj
            rw [f2] at hx
            rw [hsz] at hx
            rw [hc.1] at hj
            split at hj
            · rename_i hin
              rw [if_pos (by omega)] at hx
              exact c2 _ c x hj hx
            · rename_i hin
              rw [if_neg (by omega)] at hx
              exact hr j c x hj hx) hf
        refine ⟨cells', ?_, g2, g3⟩
        rw [Instr.fill, h1]
        simp only
        rw [if_neg]
        · exact g1
        · simp [hsz]; omega
      · cases hf
section
variable [Glb]
theorem build_ok {o : Oper} {t : TypeId} {ps : Array (Nat × Operand)} {fs : Array Field} {zs : List V} {places : List (Nat × Nat)} {l : List (Nat × Nat × Ar)} (ho : o.op = .build t ps) (ht : P.underlying t = some (.struct fs)) (hz : zeroT P t = some zs)
    (hpl : fs.toList.mapM (fun f => (P.info? f.type).map fun i => (f.offset, i.size)) = some places) (hl : allSome (ps.toList.map fun p => (places[p.1]?).map fun q => (q.1, q.2, arOf p.2)) = some l) : SemOK P own o (.build zs l) := by
  intro α w0 mine N pb gh s a w g dst k r H h
  obtain ⟨i, z, hi, hz', hzs, hzl, hzv⟩ := zeroT_inv hz
  have hl' := allSome_get hl
  simp only [sem] at h
  have har : l.map (·.2.2) = ps.toList.map fun p => arOf p.2 := by
    apply List.ext_getElem?
    intro q
    have := congrArg (·[q]?) hl'
    simp only [List.getElem?_map] at this ⊢
    cases h1 : ps.toList[q]? with
    | none =>
      rw [h1] at this
      cases h2 : l[q]? with
      | none => rfl
      | some x => rw [h2] at this; cases this
    | some p =>
      rw [h1] at this
      cases h2 : l[q]? with
      | none => rw [h2] at this; cases this
      | some x =>
        rw [h2] at this
        simp only [Option.map_some] at this ⊢
        injection this with this
        obtain ⟨y, hy, e⟩ := Option.map_eq_some_iff.1 this
        rw [← e]
  have har' : l.map (·.2.2) = (ps.toList.map (·.2)).map arOf := by rw [har]; simp
  rw [har'] at h
  obtain ⟨Vs, h1, h2, h3⟩ := gets_ok H h
  cases hf : fillP zs ((l.zip Vs).map fun p => (p.1.1, p.1.2.1, p.2)) with
  | none => rw [hf] at h1; exact (run_fail_ h1).elim
  | some cs =>
    rw [hf] at h1
    have hll : l.length = ps.toList.length := by have := congrArg List.length hl'; simpa using this.symm
    have hVl : Vs.length = ps.toList.length := by simpa using h2
    obtain ⟨cells', g1, g2, g3⟩ := fill_ok (place := (places.toArray[·]?)) (gh := gh) (h := w.heap) (ps.map fun p => (p.1, a.eval p.2)).toList _ zs cs z.cells (by simp [hll, hVl]) (by
      intro j p q hj hq
      simp only [Array.toList_map, List.getElem?_map, List.getElem?_zip_eq_some, Option.map_eq_some_iff] at hj hq
      obtain ⟨p', hp', rfl⟩ := hj
      obtain ⟨⟨x, V⟩, hx, rfl⟩ := hq
      obtain ⟨x1, x2⟩ := hx
      have := congrArg (·[j]?) hl'
      simp only [List.getElem?_map] at this
      rw [hp', x1] at this
      simp only [Option.map_some] at this
      injection this with this
      obtain ⟨y, hy, e⟩ := Option.map_eq_some_iff.1 this
      subst e
      refine ⟨by simpa using hy, ?_⟩
      exact h3 j V _ x2 (by simp [List.getElem?_map, hp'])) (by rw [hzl, hzs]) (by
      intro j c v hj hv
      have := congrArg (·[j]?) hzv
      rw [List.getElem?_map, List.getElem?_map, hj, Array.getElem?_toList, hv] at this
      simp at this
      exact vOf1_ok this gh w.heap) hf
    have hb : P.built t (ps.map fun p => (p.1, a.eval p.2)).toList = some cells' := by
      simp only [Program.built, hi, ht, hz', hpl]
      exact g1
    have hrun := run_build (P := P) w t (ps.map fun p => (p.1, a.eval p.2)) cells' hb
    refine ⟨gh, s, _, _, w, h1, .inl ?_, H, .ag cs cells' g2 g3⟩
    simp [execOp, ho, hrun]
end
end Go.Pv

set_option linter.unusedSimpArgs false
set_option linter.unusedVariables false
namespace Go.Pv
variable {α : Type} {w0 : World} {mine : Mine} {N : Nat} {pb : List Nat} {gh : Gh} {s : St} {a : Act} {w : World} {g : Ora} {r : α × St} {P : Program} {own : Nat → Nat → Mode}

section
variable [Glb]
theorem cloLs_ok : ∀ {ls : List (List V)} {vss : List (List Value)} {k : List (List V) → M α} {gh : Gh} {s : St}, Inv w0 mine N pb gh s a w → ls.length = vss.length →
    (∀ (p : Nat) (l : List V) (vs : List Value), ls[p]? = some l → vss[p]? = some vs → l.length = vs.length ∧ ∀ (i : Nat) (c : V) (v : Value), l[i]? = some c → vs[i]? = some v → RT gh w.heap c v) → (cloLs ls k).run g s = some r →
    ∃ gh' s' ls' Fs, ∃ G : Nat → Nat → BSet, (k ls').run g s' = some r ∧ Inv w0 mine N pb gh' s' a w ∧ Step gh s gh' s' Fs ∧ ls'.length = vss.length ∧
      (∀ (p : Nat) (l : List V) (vs : List Value), ls'[p]? = some l → vss[p]? = some vs → l.length = vs.length ∧ ∀ (j : Nat) (v : V) (x : Value), l[j]? = some v → vs[j]? = some x → OR gh.sh w.heap v x (G p j)) ∧
      (∀ p j x, G p j x → gh'.own x = none ∧ ∃ n, gh.own x = some (.a n)) ∧ (∀ p j p' j' x, G p j x → G p' j' x → p = p' ∧ j = j')
  | [], vss, k, gh, s, H, hl, hv, h => by
    cases vss with
    | nil => exact ⟨gh, s, [], [], fun _ _ => noB, h, H, .refl gh s, rfl, by simp, fun _ _ _ h => h.elim, fun _ _ _ _ _ h => h.elim⟩
    | cons v vs => simp at hl
  | l :: ls, vss, k, gh, s, H, hl, hv, h => by
    cases vss with
    | nil => simp at hl
    | cons vs vss =>
      obtain ⟨q1, q2⟩ := hv 0 l vs rfl rfl
      obtain ⟨gh1, s1, l', Fs1, G1, h1, H1, S1, e1, e2, e3, e4⟩ := cloL_ok H q1 q2 h
      obtain ⟨gh2, s2, ls', Fs2, G2, h2, H2, S2, f1, f2, f3, f4⟩ := cloLs_ok (vss := vss) H1 (by simpa using hl) (fun p l vs hp hq => by
        obtain ⟨q3, q4⟩ := hv (p + 1) l vs (by simpa using hp) (by simpa using hq)
        exact ⟨q3, fun i c v hc hv => (q4 i c v hc hv).congr S1.sh S1.ai S1.bi⟩) h1
      have free1 : ∀ j x, G1 j x → gh2.own x = none ∧ ∃ n, gh.own x = some (.a n) := by
        intro j x hx
        obtain ⟨z1, z2⟩ := e3 j x hx
        refine ⟨?_, z2⟩
        cases h3 : gh2.own x with
        | none => rfl
        | some q => rw [S2.sub x q h3] at z1; cases z1
      have free2 : ∀ p j x, G2 p j x → gh2.own x = none ∧ (∃ n, gh.own x = some (.a n)) ∧ ∃ n, gh1.own x = some (.a n) := by
        intro p j x hx
        obtain ⟨z1, n, z2⟩ := f3 p j x hx
        exact ⟨z1, ⟨n, S1.sub x _ z2⟩, n, z2⟩
      refine ⟨gh2, s2, l' :: ls', Fs1 ++ Fs2, fun p j => match p with | 0 => G1 j | p + 1 => G2 p j, h2, H2, S1.trans S2, by simp [f1], ?_, ?_, ?_⟩
      · intro p m us hp hq
        cases p with
        | zero =>
          simp at hp hq; subst hp; subst hq
          exact ⟨e1, e2⟩
        | succ p =>
          obtain ⟨z1, z2⟩ := f2 p m us (by simpa using hp) (by simpa using hq)
          exact ⟨z1, fun j v x hj hx => by have := z2 j v x hj hx; rw [S1.sh] at this; exact this⟩
      · intro p j x hx
        cases p with
        | zero => exact free1 j x hx
        | succ p => exact ⟨(free2 p j x hx).1, (free2 p j x hx).2.1⟩
      · intro p j p' j' x hx hx'
        cases p with
        | zero =>
          cases p' with
          | zero => exact ⟨rfl, e4 j j' x hx hx'⟩
          | succ p' =>
            exfalso
            obtain ⟨n, z⟩ := (free2 p' j' x hx').2.2
            rw [(e3 j x hx).1] at z; cases z
        | succ p =>
          cases p' with
          | zero =>
            exfalso
            obtain ⟨n, z⟩ := (free2 p j x hx).2.2
            rw [(e3 j' x hx').1] at z; cases z
          | succ p' =>
            obtain ⟨z1, z2⟩ := f4 p j p' j' x hx hx'
            exact ⟨by rw [z1], z2⟩
end
theorem setEls_length : ∀ (l : List (Nat × List V)) (z : List (List V)), (setEls z l).length = z.length
  | [], z => rfl
  | (i, v) :: l, z => by rw [setEls, setEls_length l]; simp
/-- the cells of a row that is written out -/
theorem bfill {sh : BSet} {h : Array Obj} {s : Nat} (hs : 0 < s) : ∀ (parts : List (Nat × Value)) (ws : List (List V)) (Gp : Nat → Nat → BSet) (rows : List (List V)) (cells : Array Value) (f : Nat → Nat → Value) (G : Nat → Nat → BSet),
    parts.length = ws.length →
    (∀ (p : Nat) (x : Nat × Value) (l : List V), parts[p]? = some x → ws[p]? = some l → x.1 < rows.length ∧ l.length = s ∧ x.2.cells.size = s ∧ ∀ (j : Nat) (v : V) (y : Value), l[j]? = some v → x.2.cells[j]? = some y → OR sh h v y (Gp p j)) →
    (∀ p j p' j' x, Gp p j x → Gp p' j' x → p = p' ∧ j = j') → ElV sh h rows s f G → (∀ p j i j' x, Gp p j x → ¬ G i j' x) →
    cells.size = rows.length * s → (∀ i j, i < rows.length → j < s → cells[i * s + j]? = some (f i j)) →
    ∃ cells' f', ∃ G' : Nat → Nat → BSet, Instr.fill (fun i => some (i * s, s)) cells parts = some cells' ∧ ElV sh h (setEls rows ((parts.map (·.1)).zip ws)) s f' G' ∧ cells'.size = rows.length * s ∧
      (∀ i j, i < rows.length → j < s → cells'[i * s + j]? = some (f' i j)) ∧ ∀ i j x, G' i j x → (∃ i j, G i j x) ∨ ∃ p j, Gp p j x
  | [], ws, Gp, rows, cells, f, G, hl, hp, hi, E, hd, hsz, hc => ⟨cells, f, G, rfl, E, hsz, hc, fun i j x hx => .inl ⟨i, j, hx⟩⟩
  | (i, v) :: parts, [], Gp, rows, cells, f, G, hl, hp, hi, E, hd, hsz, hc => by simp at hl
  | (i, v) :: parts, l :: ws, Gp, rows, cells, f, G, hl, hp, hi, E, hd, hsz, hc => by
    obtain ⟨p1, p2, p3, p4⟩ := hp 0 (i, v) l rfl rfl
    simp only at p1 p3 p4
    obtain ⟨f1, f2⟩ := fold_arr (i * s) v.cells cells
    have hfit : i * s + s ≤ rows.length * s := by
      have : (i + 1) * s ≤ rows.length * s := Nat.mul_le_mul_right _ p1
      rw [Nat.add_mul] at this; omega
    have E1 : ElV sh h (rows.set i l) s (fun i' j' => if i' = i then (v.cells[j']?).getD undef else f i' j') (fun i' j' => if i' = i then Gp 0 j' else G i' j') := by
      refine ⟨?_, ?_, ?_⟩
      · intro q cs hq
        rw [List.getElem?_set] at hq
        split at hq
        · injection hq with hq; subst hq; exact p2
        · exact E.len q cs hq
      · intro q cs j u hq hj
        rw [List.getElem?_set] at hq
        split at hq
        · rename_i e
          subst e
          injection hq with hq; subst hq
          rw [if_pos rfl, if_pos rfl]
          have hjl := (List.getElem?_eq_some_iff.1 hj).1
          have hy := Array.getElem?_eq_getElem (xs := v.cells) (i := j) (by omega)
          rw [hy]
          exact p4 j u _ hj hy
        · rename_i e
          rw [if_neg (fun h => e h.symm), if_neg (fun h => e h.symm)]
          exact E.el q cs j u hq hj
      · intro i1 j1 i2 j2 x hx hx'
        split at hx
        · rename_i e1
          split at hx'
          · rename_i e2
            exact ⟨by rw [e1, e2], (hi 0 j1 0 j2 x hx hx').2⟩
          · exact absurd hx' (hd 0 j1 i2 j2 x hx)
        · split at hx'
          · exact absurd hx (hd 0 j2 i1 j1 x hx')
          · exact E.inj i1 j1 i2 j2 x hx hx'
    obtain ⟨cells', f', G', g1, g2, g3, g4, g5⟩ := bfill hs parts ws (fun p => Gp (p + 1)) (rows.set i l) (v.cells.zipIdx.foldl (fun cs (c, j) => cs.setIfInBounds (i * s + j) c) cells) _ _ (by simpa using hl)
      (fun p x l' hx hl' => by
        have := hp (p + 1) x l' (by simpa using hx) (by simpa using hl')
        rw [List.length_set]; exact this)
      (fun p j p' j' x hx hx' => by have := hi (p + 1) j (p' + 1) j' x hx hx'; exact ⟨by omega, this.2⟩) E1
      (fun p j i' j' x hx hx' => by
        split at hx'
        · have := hi (p + 1) j 0 j' x hx hx'; omega
        · exact hd (p + 1) j i' j' x hx hx')
      (by rw [f1, hsz, List.length_set]) (by
        intro i' j' hi' hj'
        rw [List.length_set] at hi'
        rw [f2, p3]
        by_cases he : i' = i
        · subst he
          have hy := Array.getElem?_eq_getElem (xs := v.cells) (i := j') (by omega)
          rw [if_pos (by omega), if_pos rfl, show i' * s + j' - i' * s = j' by omega, hy]; rfl
        · rw [if_neg, if_neg he]
          · exact hc i' j' hi' hj'
          · rintro ⟨e1, e2, _⟩
            exact he (mul_uniq e1 e2 hj'))
    rw [List.length_set] at g3
    refine ⟨cells', f', G', ?_, g2, g3, fun i' j' hi' => g4 i' j' (by rw [List.length_set]; exact hi'), ?_⟩
    · rw [Instr.fill]
      simp only
      rw [if_neg]
      · exact g1
      · simp [p3]; omega
    · intro i' j' x hx
      rcases g5 i' j' x hx with ⟨i2, j2, h2⟩ | ⟨p, j2, h2⟩
      · split at h2
        · exact .inr ⟨0, j2, h2⟩
        · exact .inl ⟨i2, j2, h2⟩
      · exact .inr ⟨p + 1, j2, h2⟩
section
variable [Glb]
theorem bsl_ok {o : Oper} {t e : TypeId} {n : Nat} {ps : Array (Nat × Operand)} {zs : List V} (ho : o.op = .buildSlice t n ps) (ht : P.underlying t = some (.slice e)) (hz : zeroT P e = some zs) (hpos : 0 < zs.length) (hbig : zs.length ≤ 10000) (h0 : n = 0 → ps.toList = []) :
    SemOK P own o (.bsl zs n (ps.toList.map fun p => (p.1, arOf p.2))) := by
  intro α w0 mine N pb gh s a w g dst k r H h
  obtain ⟨i, z, hi, hz', hzs, hzl, hzv⟩ := zeroT_inv hz
  simp only [sem] at h
  have har : (ps.toList.map fun p => (p.1, arOf p.2)).map (·.2) = (ps.toList.map (·.2)).map arOf := by simp
  have hid : (ps.toList.map fun p => (p.1, arOf p.2)).map (·.1) = ps.toList.map (·.1) := by simp
  rw [har] at h
  obtain ⟨Vs, h1, h2, h3⟩ := gets_ok H h
  have hex : ∀ {v w'}, (Instr.buildSlice t n (ps.map fun p => (p.1, a.eval p.2))).run P w = .ok v w' → OpVal P o a w v w' := by
    intro v w' hv
    left
    simp [execOp, ho, hv]
  by_cases hn : n = 0
  · rw [if_pos hn] at h1
    have hps := h0 hn
    subst hn
    have hps' : ps = #[] := by rw [← Array.toList_inj, hps]
    subst hps'
    refine ⟨gh, s, _, .slice (some ⟨w.heap.size, 0, none⟩) 0 0, w.alloc (.cells #[] e), h1, hex ?_, H.grow ?_ (by simp) rfl rfl rfl, .nil _⟩
    · simp [Instr.buildSlice, run_underlying ht, run_size hi, Instr.fill, newRow, Array.range_zero']
    · intro x hx; rw [alloc_heap, if_neg (by omega)]
  · rw [if_neg hn] at h1
    have hVl : Vs.length = ps.toList.length := by simpa using h2
    obtain ⟨gh1, s1, ws, Fs, G, e1, H1, S, e2, e3, e4, e5⟩ := cloLs_ok (vss := ps.toList.map fun p => (a.eval p.2).cells.toList) H (by simp [hVl]) (by
      intro p l vs hp hq
      simp only [List.getElem?_map, Option.map_eq_some_iff] at hp hq
      obtain ⟨V, hV, rfl⟩ := hp
      obtain ⟨q, hq, rfl⟩ := hq
      obtain ⟨c1, c2⟩ := cells_ok (h3 p V (a.eval q.2) hV (by simp [List.getElem?_map, hq]))
      exact ⟨by simpa using c1, fun j c v hc hv => c2 j c v hc (by simpa using hv)⟩) h1
    obtain ⟨f1, f2⟩ := chk_ok e1
    simp only [Bool.and_eq_true, decide_eq_true_eq] at f1
    obtain ⟨⟨⟨f3, f4⟩, f5⟩, f6⟩ := f1
    obtain ⟨hd, f7⟩ := newR_ok f2
    have hai := (H1.ar0 _ hd).1
    rw [hid] at f7
    have hpos' : 0 < i.size := by omega
    obtain ⟨cells', f', G', g1, g2, g3, g4, g5⟩ := bfill (sh := gh.sh) (h := w.heap) hpos' (ps.map fun p => (p.1, a.eval p.2)).toList ws G (List.replicate n zs) ((Array.range (n * i.size)).map (z.cells[· % z.cells.size]!)) (fun _ j => z.cells[j]!) (fun _ _ => noB)
      (by simp [e2]) (by
        intro p x l hx hl
        simp only [Array.toList_map, List.getElem?_map, Option.map_eq_some_iff] at hx
        obtain ⟨q, hq, rfl⟩ := hx
        obtain ⟨z1, z2⟩ := e3 p l _ hl (by rw [List.getElem?_map, hq]; rfl)
        have z3 := List.all_eq_true.1 f3 l (List.mem_of_getElem? hl)
        have z4 : q.1 < n := by
          have := List.all_eq_true.1 f5 (q.1, arOf q.2) (List.mem_of_getElem? (i := p) (by rw [List.getElem?_map, hq]; rfl))
          simpa using this
        have z5 : l.length = zs.length := by simpa using z3
        refine ⟨by simpa using z4, by omega, by simp at z1; show (a.eval q.2).cells.size = i.size; omega, ?_⟩
        intro j v y hj hy
        exact z2 j v y hj (by simpa using hy)) e5 (by rw [← hzl]; exact zero_el hzv f6 _ _ _) (fun _ _ _ _ _ _ h => h.elim) (by simp) (by
        intro i' j' hi' hj'
        have := madeCells_flat z.cells n
        rw [hzs] at this
        simp only [madeCells] at this
        rw [← Array.getElem?_toList, this]
        simp at hi'
        exact flatE_get n i.size _ hpos' hi' hj')
    simp only [List.length_replicate] at g3 g4
    have hmap : (ps.map fun p => (p.1, a.eval p.2)).toList.map (·.1) = ps.toList.map (·.1) := by simp
    rw [hmap] at g2
    have hrun := run_buildSlice (P := P) w t e n (ps.map fun p => (p.1, a.eval p.2)) cells' i z ht hi hz' (by
      have : n * i.size ≤ 1000 * 10000 := Nat.mul_le_mul f4 (by omega)
      omega) (by have := Nat.mul_pos (Nat.pos_of_ne_zero hn) hpos'; omega) g1
    have hnew : ∀ q, gh1.own w.heap.size ≠ some q := fun q e => absurd (H1.own _ _ e).2.1 (by omega)
    have hL : (setEls (List.replicate n zs) ((ps.toList.map (·.1)).zip ws)).length = n := by rw [setEls_length]; simp
    obtain ⟨gh2, I, T⟩ := append_fin H1 hai (w' := w.alloc (.cells cells' e)) (xs := setEls (List.replicate n zs) ((ps.toList.map (·.1)).zip ws)) (ys := []) (b := w.heap.size) (base := 0) (cap := n) (c := n) (cl := cells') (t := e) (fy := fun _ _ => undef) (Gy := fun _ _ => noB) hpos'
      (by intro h; rw [List.append_nil] at h; rw [h] at hL; simp at hL; omega) (fun x h1 _ => by rw [alloc_heap, if_neg h1]) (by simp) rfl rfl rfl (by rw [alloc_heap]; exact if_pos rfl) (by rw [hL]; simp) (by rw [g3]; omega)
      (by rw [S.sh]; exact g2) (Els.v (A := none) .nil) (fun i' j' h1 h2 => by rw [Nat.zero_add]; exact g4 i' j' (by rw [hL] at h1; exact h1) h2) (fun _ _ h => by simp at h)
      ⟨by cases h9 : gh1.own w.heap.size with | none => rfl | some q => exact absurd h9 (hnew q), fun h9 => absurd (H1.sh _ h9) (by omega), fun h9 => absurd h9 (by have := H1.frm.size; omega)⟩
      (by
        intro i' j' x hx
        rcases g5 i' j' x hx with ⟨_, _, h9⟩ | ⟨p, j2, h9⟩
        · exact h9.elim
        · obtain ⟨z1, m, z2⟩ := e4 p j2 x h9
          have z3 := H.own x _ z2
          exact ⟨by omega, z1, z3.2.2⟩) (fun _ _ _ h => h.elim) (fun _ _ _ _ _ _ h => h.elim) (by rw [hL]; simp) rfl
    rw [List.append_nil] at I
    rw [hL] at T
    exact ⟨gh2, _, _, _, _, f7, hex hrun, I, T⟩
end
end Go.Pv

set_option linter.unusedSimpArgs false
set_option linter.unusedVariables false
namespace Go.Pv
variable {α : Type} {w0 : World} {mine : Mine} {N : Nat} {pb : List Nat} {gh : Gh} {s : St} {a : Act} {w : World} {g : Ora} {r : α × St} {P : Program} {own : Nat → Nat → Mode}

theorem bytesR_inv : ∀ {xs : List (List V)} {l : List UInt8}, bytesR xs = some l → ∃ ns : List Int, xs = ns.map (fun n => [.sc (.int .u8 n)]) ∧ l = ns.map fun n => UInt8.ofNat n.toNat
  | [], l, h => by simp [bytesR] at h; subst h; exact ⟨[], rfl, rfl⟩
  | [.sc (.int .u8 n)] :: xs, l, h => by
    simp only [bytesR, Option.map_eq_some_iff] at h
    obtain ⟨l', h1, rfl⟩ := h
    obtain ⟨ns, rfl, rfl⟩ := bytesR_inv h1
    exact ⟨n :: ns, rfl, rfl⟩
  | [] :: xs, l, h => by simp [bytesR] at h
  | (_ :: _ :: _) :: xs, l, h => by simp [bytesR] at h
  | [.sc v] :: xs, l, h => by
    cases v with
    | int k n =>
      cases k with
      | u8 =>
        simp only [bytesR, Option.map_eq_some_iff] at h
        obtain ⟨l', h1, rfl⟩ := h
        obtain ⟨ns, rfl, rfl⟩ := bytesR_inv h1
        exact ⟨n :: ns, rfl, rfl⟩
      | _ => simp [bytesR] at h
    | _ => simp [bytesR] at h
  | [.ls _ _] :: xs, l, h => by simp [bytesR] at h
  | [.rf _ _ _] :: xs, l, h => by simp [bytesR] at h
  | [.ag _] :: xs, l, h => by simp [bytesR] at h
  | [.tu _] :: xs, l, h => by simp [bytesR] at h
  | [.bx _ _] :: xs, l, h => by simp [bytesR] at h
  | [.ep _ _ _] :: xs, l, h => by simp [bytesR] at h
  | [.fp _ _ _] :: xs, l, h => by simp [bytesR] at h
  | [.fn _ _] :: xs, l, h => by simp [bytesR] at h
  | [.mp _] :: xs, l, h => by simp [bytesR] at h
theorem frzR_nums (ns : List Int) : frzR (ns.map fun n => [V.sc (.int .u8 n)]) = ns.map fun n => [V.sc (.int .u8 n)] := by
  induction ns with
  | nil => rfl
  | cons n ns ih => simp [frzR, frzL, frz, ih]
section
variable [Glb]
theorem b2s_ok {o : Oper} {st dt e : TypeId} {x : Operand} (ho : o.op = .convert st dt x) (h1 : P.underlying st = some (.slice e)) (h2 : P.underlying e = some (.int .u8)) (h3 : P.underlying dt = some .string) : SemOK P own o (.b2s (arOf x)) := by
  intro α w0 mine N pb gh s a w g dst k r H h
  simp only [sem] at h
  obtain ⟨X, h4, hX⟩ := get_ok H h
  have h5 : (rowY false X fun ys => match bytesR ys with | some l => k (str ⟨l.toArray⟩) | none => .fail).run g s = some r := by
    unfold rowY
    split at h4
    · rename_i o' xs
      simp only
      cases hb : bytesR xs with
      | none => rw [hb] at h4; exact (run_fail_ h4).elim
      | some l =>
        rw [hb] at h4
        obtain ⟨ns, rfl, rfl⟩ := bytesR_inv hb
        rw [frzR_nums, hb]
        exact h4
    · simp only
      rename_i n off len
      simp only [rdS, rdA, M.run] at h4 ⊢
      split at h4
      · rename_i fz xs hl

        obtain ⟨c1, c2⟩ := chk_ok h4
        simp only [chk, c1, if_true]
        cases hb : bytesR (sub xs off len) with
        | none => rw [hb] at c2; exact (run_fail_ c2).elim
        | some l =>
          rw [hb] at c2
          obtain ⟨ns, hns, rfl⟩ := bytesR_inv hb
          have hfl : flatR (ns.map fun n => [V.sc (.int .u8 n)]) = true := by
            simp [flatR, flat1]
          cases fz with
          | true => simp only [if_true]; rw [hns, frzR_nums]; rw [hns] at hb; rw [hb]; exact c2
          | false => simp only [Bool.false_eq_true, if_false]; rw [hns, hfl]; rw [hns] at hb; simp only [if_true, hb]; exact c2
      · exact (run_fail_ h4).elim
    · exact (run_fail_ h4).elim
  obtain ⟨gh1, s1, ys, A, c, ex, h6, H1, ⟨Fs, S⟩, hE⟩ := rowY_ok H hX h5
  cases hb : bytesR ys with
  | none => rw [hb] at h6; exact (run_fail_ h6).elim
  | some l =>
    rw [hb] at h6
    obtain ⟨ns, rfl, rfl⟩ := bytesR_inv hb
    obtain ⟨f, G, E, _⟩ := hE 1 (by simp [allLen])
    refine ⟨gh1, s1, _, _, w, h6, .inl ?_, H1, .sc _ rfl⟩
    have hrun : (convert st dt (a.eval x)).run P w = .ok (.string ⟨(ns.map fun n => UInt8.ofNat n.toNat).toArray⟩) w := by
      rw [ex]
      by_cases hne : ns = []
      · subst hne
        exact Go.Proofs.run_convert_bytes_zero w st e h1 h2 A c dt h3
      · obtain ⟨b, base, cl, t, z, rfl, q1, q2⟩ := E.cell (by simpa using hne)
        refine run_convert_bytes_arg w st e h1 h2 b base _ c ns (by simp) ?_ dt h3
        intro i hi
        rw [cell_at q1]
        simp at hi
        have hi1 : (ns.map fun n => [V.sc (.int .u8 n)])[i]? = some [.sc (.int .u8 ns[i])] := by simp [hi]
        have := q2 i _ 0 _ hi1 rfl
        have h7 := E.el i _ 0 _ hi1 rfl
        rw [Nat.mul_one, Nat.add_zero] at this
        rw [this]
        generalize f i 0 = y at h7
        generalize G i 0 = F at h7
        cases h7
        simp [List.getD, hi]
    simp [execOp, ho, hrun]
end
end Go.Pv

set_option linter.unusedSimpArgs false
set_option linter.unusedVariables false
namespace Go.Pv
variable {α : Type} {w0 : World} {mine : Mine} {N : Nat} {pb : List Nat} {gh : Gh} {s : St} {a : Act} {w : World} {g : Ora} {r : α × St} {P : Program} {own : Nat → Nat → Mode}

theorem isMap_inv {t e : TypeId} {q : Bool} (h : isMap P t = some (q, e)) : ∃ kt d, P.underlying t = some (.map kt e) ∧ P.underlying kt = some d ∧ ((q = false ∧ ∃ k, d = .int k) ∨ (q = true ∧ d = .string)) := by
  unfold isMap at h
  split at h
  · rename_i kt e' h1
    split at h
    · rename_i k h2; injection h with h; injection h with h3 h4; subst h3; subst h4; exact ⟨kt, _, h1, h2, .inl ⟨rfl, k, rfl⟩⟩
    · rename_i h2; injection h with h; injection h with h3 h4; subst h3; subst h4; exact ⟨kt, _, h1, h2, .inr ⟨rfl, rfl⟩⟩
    · cases h
  · cases h
/-- an entry, as it is told -/
def entV (e : MapEntry) : (V × V) × Nat := ((V.sc e.key, V.sc e.val), e.born)
theorem same_now {d : TypeDesc} {q : Bool} (hd : (q = false ∧ ∃ k, d = .int k) ∨ (q = true ∧ d = .string)) {key key2 : Value} (hk : keyOk q (.sc key) = true) {b : Bool} (hb : eqKey (.sc key) (.sc key2) = some b) : Instr.sameNow d key key2 = some b := by
  cases key with
  | int k1 n1 =>
    cases key2 with
    | int k2 n2 =>
      simp only [eqKey] at hb
      split at hb
      · rename_i hkk
        injection hb with hb
        subst hkk
        rcases hd with ⟨_, k, rfl⟩ | ⟨rfl, _⟩
        · simp only [Instr.sameNow, if_true]
          rw [← hb]
          congr 1
        · simp [keyOk] at hk
      · cases hb
    | _ => simp [eqKey] at hb
  | string s1 =>
    cases key2 with
    | string s2 =>
      simp only [eqKey] at hb
      injection hb with hb
      rcases hd with ⟨rfl, _⟩ | ⟨_, rfl⟩
      · simp [keyOk] at hk
      · simp only [Instr.sameNow]
        rw [← hb]
        have : (s1 == s2) = decide (s1 = s2) := by rw [Bool.eq_iff_iff, MapKept.bytes_beq]; simp
        rw [this]
    | _ => simp [eqKey] at hb
  | _ => simp [keyOk] at hk
/-- what is found -/
theorem find_now {d : TypeDesc} {q : Bool} (hd : (q = false ∧ ∃ k, d = .int k) ∨ (q = true ∧ d = .string)) {key : Value} (hk : keyOk q (.sc key) = true) : ∀ (ms : List MapEntry) (n : Nat) (r : Option (V × Nat)), mfind (.sc key) (ms.map entV) = some r →
    (r = none ∧ Instr.findNow d key ms n = some none) ∨ ∃ i e, ms[i]? = some e ∧ r = some (.sc e.val, e.born) ∧ Instr.findNow d key ms n = some (some (n + i, e.val)) ∧ (∃ b, Instr.sameNow d key e.key = some b ∧ b = true) ∧
      (∀ v, mput (.sc key) (.sc v) (ms.map entV) = (ms.modify i fun e => { e with key := key, val := v }).map entV) ∧ mput (.sc key) (.sc e.val) (ms.map entV) = (ms.modify i fun e => { e with key := key }).map entV
  | [], n, r, h => by
    simp [mfind] at h
    exact .inl ⟨h.symm, rfl⟩
  | e :: ms, n, r, h => by
    simp only [List.map_cons, mfind] at h
    split at h
    · rename_i heq
      injection h with h
      subst h
      have h1 := same_now hd hk heq
      refine .inr ⟨0, e, rfl, rfl, ?_, ⟨true, h1, rfl⟩, ?_, ?_⟩
      · simp [Instr.findNow, h1]
      · intro v
        simp only [List.map_cons, mput, heq]
        simp [List.modify, entV]
      · simp only [List.map_cons, mput, heq]
        simp [List.modify, entV]
    · rename_i heq
      have h1 := same_now hd hk heq
      rcases find_now hd hk ms (n + 1) r h with ⟨rfl, h2⟩ | ⟨i, e', q1, q2, q3, q4, q5, q6⟩
      · exact .inl ⟨rfl, by simp [Instr.findNow, h1, h2]⟩
      · refine .inr ⟨i + 1, e', by simpa using q1, q2, by simp [Instr.findNow, h1, q3]; omega, q4, ?_, ?_⟩
        · intro v
          simp only [List.map_cons, mput, heq, q5]
          simp
        · simp only [List.map_cons, mput, heq, q6]
          simp
    · cases h
theorem born_now {n : Int} {v : Value} : ∀ (ms : List MapEntry) (l : List ((V × V) × Nat)), mborn n (.sc v) (ms.map entV) = some l → ∃ i, ms.findIdx? (fun e => (e.born : Int) == n) = some i ∧ l = (ms.modify i fun e => { e with val := v }).map entV
  | [], l, h => by simp [mborn] at h
  | e :: ms, l, h => by
    simp only [List.map_cons, mborn] at h
    have hen : (entV e).2 = e.born := rfl
    rw [hen] at h
    by_cases he : (e.born : Int) = n
    · rw [if_pos he] at h
      injection h with h
      subst h
      refine ⟨0, by simp [List.findIdx?_cons, he], ?_⟩
      simp [List.modify, entV]
    · rw [if_neg he] at h
      obtain ⟨l', h1, rfl⟩ := Option.map_eq_some_iff.1 h
      obtain ⟨i, h2, rfl⟩ := born_now ms l' h1
      refine ⟨i + 1, by simp [List.findIdx?_cons, he, h2], by simp⟩
theorem run_key {kt : TypeId} {d : TypeDesc} {q : Bool} (hd : P.underlying kt = some d) (hq : (q = false ∧ ∃ k, d = .int k) ∨ (q = true ∧ d = .string)) (key : Value) (b : Bool) (w : World) : (Instr.checkKey b 10000 kt key).run P w = .ok () w := by
  have : (Instr.checkKey b (9999 + 1) kt key).run P w = .ok () w := by
    unfold Instr.checkKey
    rcases hq with ⟨_, k, rfl⟩ | ⟨_, rfl⟩ <;> cases key <;> simp [run_underlying hd]
  exact this
section
variable [Glb]
theorem mkmap_ok {o : Oper} {t : TypeId} (ho : o.op = .makeMap t none) : SemOK P own o .mkmap := by
  intro α w0 mine N pb gh s a w g dst k r H h
  simp only [sem] at h
  obtain ⟨h1, h2⟩ := newR_ok h
  have h1' : look s.bx (1000 * (dst + 1)) = none := h1
  have h0 := H.bx0 _ h1'
  have hfr : gh.own w.heap.size = none := by
    cases h3 : gh.own w.heap.size with
    | none => rfl
    | some q => have := (H.own _ q h3).2.1; omega
  refine ⟨gh.setB (1000 * (dst + 1)) w.heap.size, _, .mp (1000 * (dst + 1)), .map (some w.heap.size), w.alloc (.map #[] 0), h2, .inl ?_, H.setB (.inl ⟨h0.1, hfr, fun h3 => by have := H.sh _ h3; omega, fun h3 => by have := H.frm.size; omega⟩) ?_ (by simp) (by simp) rfl rfl rfl ⟨#[], by rw [alloc_heap, if_pos rfl], rfl, by simp⟩, .mp _ _ (by simp [Gh.setB])⟩
  · simp [execOp, ho, Instr.makeMap]
  · intro x h1 h2; rw [alloc_heap, if_neg h2]
theorem mget_ok {o : Oper} {t e : TypeId} {m key : Operand} {ok q : Bool} {i : TypeInfo} {z : Value} {zv : V} (ho : o.op = .lookup t m key ok) (hm : isMap P t = some (q, e)) (hi : P.info? e = some i) (hz : i.zero = some z) (hv : vOf1 z = some zv) : SemOK P own o (.mget q zv ok (arOf m) (arOf key)) := by
  intro α w0 mine N pb gh s a w g dst k r H h
  obtain ⟨kt, d, m1, m2, m3⟩ := isMap_inv hm
  simp only [sem] at h
  obtain ⟨M, h1, hM⟩ := get_ok H h
  obtain ⟨K, h2, hK⟩ := get_ok H h1
  split at h2
  · rename_i n
    obtain ⟨b, e1, e2⟩ := hM.mpV
    obtain ⟨es, b', f1, f2, f3, ⟨ms, f4, f5, f6⟩, f7⟩ := rdM_ok H h2
    rw [e1] at f2; injection f2 with f2; subst f2
    obtain ⟨g1, g2⟩ := chk_ok f7
    cases K with
    | sc kv =>
      have hkv := hK.scV.1
      have hrun : ∀ (x : Value) (bb : Bool), ((Instr.findNow d kv ms.toList 0 = some none ∧ x = z ∧ bb = false) ∨ ∃ j, Instr.findNow d kv ms.toList 0 = some (some (j, x)) ∧ bb = true) →
          (execOp a.eval o).run P w = .ok (.value (if ok then .tuple #[x, .bool bb] else x)) w := by
        rintro x bb (⟨q1, rfl, rfl⟩ | ⟨j, q1, rfl⟩)
        · have hfk := MapKept.run_findKey (P := P) (w := w) m2 q1
          simp [execOp, ho, Instr.lookup, run_underlying m1, e2, hkv, MapKept.run_getObj_map f4, run_key m2 m3, hfk, zeroValue, run_info hi, hz]
        · have hfk := MapKept.run_findKey (P := P) (w := w) m2 q1
          simp [execOp, ho, Instr.lookup, run_underlying m1, e2, hkv, MapKept.run_getObj_map f4, run_key m2 m3, hfk]
      have fin : ∀ (x : Value) (xv : V) (bb : Bool), RT gh w.heap xv x → (execOp a.eval o).run P w = .ok (.value (if ok then .tuple #[x, .bool bb] else x)) w → (k (if ok then .tu [xv, bool bb] else xv)).run g s = some r →
          ∃ gh' s1 V v w', (k V).run g s1 = some r ∧ OpVal P o a w v w' ∧ Inv w0 mine N pb gh' s1 a w' ∧ RT gh' w'.heap V v := by
        intro x xv bb hx hr hk
        refine ⟨gh, s, _, _, w, hk, .inl hr, H, ?_⟩
        cases ok with
        | false => exact hx
        | true =>
          refine .tu _ _ rfl ?_
          intro i c v hc hv
          match i with
          | 0 => simp at hc hv; subst hc; subst hv; exact hx
          | 1 => simp at hc hv; subst hc; subst hv; exact .sc _ rfl
          | i + 2 => simp at hc
      have hf : ∀ ro, mfind (.sc kv) es.1 = some ro → mfind (.sc kv) (ms.toList.map entV) = some ro := fun ro h => by rw [show ms.toList.map entV = es.1 from f5]; exact h
      split at g2
      · rename_i rr hfind
        rcases find_now m3 g1 ms.toList 0 _ (hf _ hfind) with ⟨h0, _⟩ | ⟨j, en, q1, q2, q3, _, _, _⟩
        · cases h0
        · injection q2 with q2; subst q2
          exact fin en.val (.sc en.val) true (.sc _ (f6 en (List.mem_of_getElem? q1))) (hrun en.val true (.inr ⟨_, q3, rfl⟩)) g2
      · rename_i hfind
        rcases find_now m3 g1 ms.toList 0 _ (hf _ hfind) with ⟨_, q1⟩ | ⟨j, en, q1, q2, q3, _, _, _⟩
        · exact fin z zv false (vOf1_ok hv gh w.heap) (hrun z false (.inl ⟨q1, rfl, rfl⟩)) g2
        · cases q2
      · exact (run_fail_ g2).elim
    | _ => simp [keyOk] at g1
  · exact (run_fail_ h2).elim
end
theorem keep_key {d : TypeDesc} {q : Bool} (m3 : (q = false ∧ ∃ k, d = .int k) ∨ (q = true ∧ d = .string)) {kv key2 : Value} {bb : Bool} (q4 : Instr.sameNow d kv key2 = some bb) (hb : bb = true) : (Instr.keyThatStays key2 kv).run P w = .ok kv w := by
  subst hb
  have : Instr.sameBits 10000 key2 kv = true := by
    rcases m3 with ⟨_, k', rfl⟩ | ⟨_, rfl⟩
    · cases kv <;> cases key2 <;> simp [Instr.sameNow] at q4
      simp [Instr.sameBits, q4.1, q4.2]
    · cases kv <;> cases key2 <;> simp [Instr.sameNow] at q4
      simp only [Instr.sameBits]
      rw [MapKept.bytes_beq] at q4 ⊢
      exact q4.symm
  simp [Instr.keyThatStays, this]
section
variable [Glb]
/-- the map has turned -/
theorem map_set (H : Inv w0 mine N pb gh s a w) {n b : Nat} {ms ms' : Array MapEntry} {cl cl' : Nat} {l : List ((V × V) × Nat)} (e1 : gh.bi n = some b) (f3 : gh.own b = some (.b n)) (f4 : w.heap[b]? = some (.map ms cl)) (hl : ms'.toList.map entV = l) (h1 : ∀ e ∈ ms'.toList, e.val.oneCell' = true) :
    Inv w0 mine N pb (gh.setB n b) (s.put (.b n) (.m (l, cl'))) a { w with heap := w.heap.setIfInBounds b (.map ms' cl') } := by
  have hbl : b < w.heap.size := (Array.getElem?_eq_some_iff.1 f4).1
  refine H.setB (n := n) (b := b) (.inr ⟨e1, f3⟩) ?_ (by simp) (by simpa using hbl) rfl rfl rfl ⟨ms', by simp [hbl], hl, h1⟩ (.setMap f4)
  intro y hy hne
  simp [Array.getElem?_setIfInBounds_ne (Ne.symm hne)]
end
theorem all_modify {ms : Array MapEntry} (f6 : ∀ e ∈ ms.toList, e.val.oneCell' = true) (j : Nat) {f : MapEntry → MapEntry} (hf : ∀ e, e.val.oneCell' = true → (f e).val.oneCell' = true) : ∀ e ∈ (ms.modify j f).toList, e.val.oneCell' = true := by
  intro e he
  rw [Array.toList_modify] at he
  obtain ⟨i, hi⟩ := List.getElem?_of_mem he
  rw [List.getElem?_modify] at hi
  cases hy : ms.toList[i]? with
  | none => rw [hy] at hi; simp at hi
  | some y =>
    rw [hy] at hi
    have hy1 := f6 y (List.mem_of_getElem? hy)
    split at hi <;> simp at hi <;> rw [← hi]
    · exact hf y hy1
    · exact hy1
theorem all_push {ms : Array MapEntry} (f6 : ∀ e ∈ ms.toList, e.val.oneCell' = true) {x : MapEntry} (hx : x.val.oneCell' = true) : ∀ e ∈ (ms.push x).toList, e.val.oneCell' = true := by
  intro e he
  simp at he
  rcases he with he | rfl
  · exact f6 e (by simpa using he)
  · exact hx
section
variable [Glb]
theorem mset_ok {o : Oper} {t e : TypeId} {m key x : Operand} {q : Bool} (ho : o.op = .mapUpdate t m key x) (hm : isMap P t = some (q, e)) : SemOK P own o (.mset q (arOf m) (arOf key) (arOf x)) := by
  intro α w0 mine N pb gh s a w g dst k r H h
  obtain ⟨kt, d, m1, m2, m3⟩ := isMap_inv hm
  simp only [sem] at h
  obtain ⟨M, h1, hM⟩ := get_ok H h
  obtain ⟨K, h2, hK⟩ := get_ok H h1
  obtain ⟨X, h3, hX⟩ := get_ok H h2
  split at h3
  · rename_i n
    obtain ⟨b, e1, e2⟩ := hM.mpV
    obtain ⟨es, b', f1, f2, f3, ⟨ms, f4, f5, f6⟩, f7⟩ := rdM_ok H h3
    rw [e1] at f2; injection f2 with f2; subst f2
    obtain ⟨g1, g2⟩ := chk_ok f7
    simp only [Bool.and_eq_true] at g1
    have f5' : ms.toList.map entV = es.1 := f5
    cases X with
    | sc xv =>
      obtain ⟨hxv, hx1⟩ := hX.scV
      cases K with
      | sc kv =>
        have hkv := hK.scV.1
        have hf : ∀ ro, mfind (.sc kv) es.1 = some ro → mfind (.sc kv) (ms.toList.map entV) = some ro := fun ro h => by rw [f5']; exact h
        split at g2
        · rename_i rr hfind
          rcases find_now m3 g1.1 ms.toList 0 _ (hf _ hfind) with ⟨h0, _⟩ | ⟨j, en, q1, q2, q3, ⟨bb, q4, q4'⟩, q5, _⟩
          · cases h0
          · have hfk := MapKept.run_findKey (P := P) (w := w) m2 q3
            have hj : ms[j]? = some en := by rw [← Array.getElem?_toList]; exact q1
            have hst := keep_key (P := P) (w := w) m3 q4 q4'
            simp only [Nat.zero_add] at hfk
            refine ⟨_, _, .tu [], undef, _, g2, .inr ⟨rfl, ?_⟩, map_set H (ms' := ms.modify j fun e => { e with key := kv, val := xv }) e1 f3 f4 ?_ (all_modify f6 j fun e _ => hx1), RT.undef⟩
            · simp [execOp, ho, e2, hkv, hxv, Instr.mapUpdate, run_underlying m1, MapKept.run_getObj_map f4, run_key m2 m3, hfk, MapKept.run_setObj_map _ f4, hj, hst]
            · rw [Array.toList_modify, ← f5', q5]
        · rename_i hfind
          rcases find_now m3 g1.1 ms.toList 0 _ (hf _ hfind) with ⟨_, q1⟩ | ⟨j, en, q1, q2, _⟩
          · have hfk := MapKept.run_findKey (P := P) (w := w) m2 q1
            refine ⟨_, _, .tu [], undef, _, g2, .inr ⟨rfl, ?_⟩, map_set H (ms' := ms.push { key := kv, val := xv, born := es.2 }) e1 f3 f4 ?_ (all_push f6 hx1), RT.undef⟩
            · simp [execOp, ho, e2, hkv, hxv, Instr.mapUpdate, run_underlying m1, MapKept.run_getObj_map f4, run_key m2 m3, hfk, MapKept.run_setObj_map _ f4]
            · rw [← f5']; simp [entV]
          · cases q2
        · exact (run_fail_ g2).elim
      | _ => simp [keyOk] at g1
    | _ => simp [flat1] at g1
  · exact (run_fail_ h3).elim
theorem ment_ok {o : Oper} {t e : TypeId} {m key : Operand} {q : Bool} {i : TypeInfo} {z : Value} {zv : V} (ho : o.op = .mapEntry t m key) (hm : isMap P t = some (q, e)) (hi : P.info? e = some i) (hz : i.zero = some z) (hv : vOf1 z = some zv) : SemOK P own o (.ment q zv (arOf m) (arOf key)) := by
  intro α w0 mine N pb gh s a w g dst k r H h
  obtain ⟨kt, d, m1, m2, m3⟩ := isMap_inv hm
  simp only [sem] at h
  obtain ⟨M, h1, hM⟩ := get_ok H h
  obtain ⟨K, h2, hK⟩ := get_ok H h1
  split at h2
  · rename_i n
    obtain ⟨b, e1, e2⟩ := hM.mpV
    obtain ⟨es, b', f1, f2, f3, ⟨ms, f4, f5, f6⟩, f7⟩ := rdM_ok H h2
    rw [e1] at f2; injection f2 with f2; subst f2
    obtain ⟨g1, g2⟩ := chk_ok f7
    simp only [Bool.and_eq_true] at g1
    have f5' : ms.toList.map entV = es.1 := f5
    have two : ∀ {gh' : Gh} {hp : Array Obj} {xv : V} {x : Value} {nb : Nat}, RT gh' hp xv x → RT gh' hp (.tu [xv, int nb]) (.tuple #[x, goInt nb]) := by
      intro gh' hp xv x nb hx
      refine .tu _ _ rfl ?_
      intro i c v hc hv
      match i with
      | 0 => simp at hc hv; subst hc; subst hv; exact hx
      | 1 => simp at hc hv; subst hc; subst hv; exact .sc _ rfl
      | i + 2 => simp at hc
    cases K with
    | sc kv =>
      have hkv := hK.scV.1
      have hf : ∀ ro, mfind (.sc kv) es.1 = some ro → mfind (.sc kv) (ms.toList.map entV) = some ro := fun ro h => by rw [f5']; exact h
      split at g2
      · rename_i rr hfind
        rcases find_now m3 g1.1 ms.toList 0 _ (hf _ hfind) with ⟨h0, _⟩ | ⟨j, en, q1, q2, q3, ⟨bb, q4, q4'⟩, _, q6⟩
        · cases h0
        · injection q2 with q2; subst q2
          have hfk := MapKept.run_findKey (P := P) (w := w) m2 q3
          have hj : ms[j]? = some en := by rw [← Array.getElem?_toList]; exact q1
          have hst := keep_key (P := P) (w := w) m3 q4 q4'
          simp only [Nat.zero_add] at hfk
          refine ⟨_, _, _, .tuple #[en.val, goInt en.born], _, g2, .inl ?_, map_set H (ms' := ms.modify j fun e => { e with key := kv }) e1 f3 f4 ?_ (all_modify f6 j fun e h => h), two (.sc _ (f6 en (List.mem_of_getElem? q1)))⟩
          · simp [execOp, ho, e2, hkv, Instr.mapEntry, run_underlying m1, MapKept.run_getObj_map f4, run_key m2 m3, hfk, MapKept.run_setObj_map _ f4, hj, hst]
          · rw [Array.toList_modify, ← f5', q6]
      · rename_i hfind
        rcases find_now m3 g1.1 ms.toList 0 _ (hf _ hfind) with ⟨_, q1⟩ | ⟨j, en, q1, q2, _⟩
        · have hfk := MapKept.run_findKey (P := P) (w := w) m2 q1
          cases zv with
          | sc zz =>
            have hzz := (vOf1_ok hv gh w.heap).scV
            obtain ⟨rfl, hz1⟩ := hzz
            refine ⟨_, _, _, .tuple #[z, goInt es.2], _, g2, .inl ?_, map_set H (ms' := ms.push { key := kv, val := z, born := es.2 }) e1 f3 f4 ?_ (all_push f6 hz1), two (.sc _ hz1)⟩
            · simp [execOp, ho, e2, hkv, Instr.mapEntry, run_underlying m1, MapKept.run_getObj_map f4, run_key m2 m3, hfk, MapKept.run_setObj_map _ f4, zeroValue, run_info hi, hz]
            · rw [← f5']; simp [entV]
          | _ => simp [flat1] at g1
        · cases q2
      · exact (run_fail_ g2).elim
    | _ => simp [keyOk] at g1
  · exact (run_fail_ h2).elim
theorem mst_ok {o : Oper} {t : TypeId} {m st x : Operand} (ho : o.op = .entryStore t m st x) : SemOK P own o (.mst (arOf m) (arOf st) (arOf x)) := by
  intro α w0 mine N pb gh s a w g dst k r H h
  simp only [sem] at h
  obtain ⟨M, h1, hM⟩ := get_ok H h
  obtain ⟨T, h2, hT⟩ := get_ok H h1
  obtain ⟨X, h3, hX⟩ := get_ok H h2
  split at h3
  · rename_i n
    obtain ⟨b, e1, e2⟩ := hM.mpV
    obtain ⟨es, b', f1, f2, f3, ⟨ms, f4, f5, f6⟩, f7⟩ := rdM_ok H h3
    rw [e1] at f2; injection f2 with f2; subst f2
    obtain ⟨kk, nn, rfl, eT, f8⟩ := asI_ok hT f7
    obtain ⟨g1, g2⟩ := chk_ok f8
    have f5' : ms.toList.map entV = es.1 := f5
    cases X with
    | sc xv =>
      obtain ⟨hxv, hx1⟩ := hX.scV
      split at g2
      · rename_i l hb
        rw [← f5'] at hb
        obtain ⟨j, q1, rfl⟩ := born_now ms.toList l hb
        have q1' : ms.findIdx? (fun e => (e.born : Int) == nn) = some j := by rw [show ms = ms.toList.toArray by simp, List.findIdx?_toArray]; exact q1
        refine ⟨_, _, .tu [], undef, _, g2, .inr ⟨rfl, ?_⟩, map_set H (ms' := ms.modify j fun e => { e with val := xv }) e1 f3 f4 ?_ (all_modify f6 j fun e _ => hx1), RT.undef⟩
        · simp [execOp, ho, e2, eT, hxv, Instr.entryStore, MapKept.run_getObj_map f4, MapKept.run_setObj_map _ f4, asInt, asIntOf, q1']
        · rw [Array.toList_modify]
      · exact (run_fail_ g2).elim
    | _ => simp [flat1] at g1
  · exact (run_fail_ h3).elim
end
end Go.Pv

set_option linter.unusedSimpArgs false
set_option linter.unusedVariables false
namespace Go.Pv
variable {α : Type} {w0 : World} {mine : Mine} {N : Nat} {pb : List Nat} {gh : Gh} {s : St} {a : Act} {w : World} {g : Ora} {r : α × St} {P : Program} {own : Nat → Nat → Mode}

def isCall : IOp → Bool
  | .call .. => true
  | .callv .. => true
  | _ => false
section
variable [Glb]
theorem bad_ok {o : Oper} : SemOK P own o .bad := by
  intro α w0 mine N pb gh s a w g dst k r H h
  exact (run_fail_ h).elim
end
theorem sizeT_inv {t : TypeId} {n : Nat} (h : sizeT P t = some n) : ∃ i, P.info? t = some i ∧ i.size = n := Option.map_eq_some_iff.1 h
theorem elemT_inv {t e : TypeId} (h : elemT P t = some e) : P.underlying t = some (.slice e) := by
  unfold elemT at h
  split at h
  · rename_i h1; injection h with h; subst h; exact h1
  · cases h
theorem isStr_inv {t : TypeId} (h : isStr P t = true) : P.underlying t = some .string := by
  unfold isStr at h
  split at h
  · assumption
  · cases h
theorem fldT_inv {t : TypeId} {f : Nat} {fd : Field} (h : fldT P t f = some fd) : ∃ fs, P.underlying t = some (.struct fs) ∧ fs[f]? = some fd := by
  unfold fldT at h
  split at h
  · exact ⟨_, ‹_›, h⟩
  · cases h
section
variable [Glb]
theorem irOp_ok (o : Oper) (hc : isCall (irOp P o) = false) : SemOK P own o (irOp P o) := by
  cases ho : o.op with
  | move x => simp only [irOp, ho]; exact mv_ok (.inl ho)
  | assign x => simp only [irOp, ho]; exact mv_ok (.inr ho)
  | pick c x y => simp only [irOp, ho]; exact pick_ok ho
  | alloc t =>
    simp only [irOp, ho]
    split
    · exact alloc_ok ho ‹_›
    · exact bad_ok
  | box t x => simp only [irOp, ho]; exact box_ok ho
  | load t x =>
    simp only [irOp, ho]
    split
    · rename_i n g h1 h2
      obtain ⟨i, h3, h4⟩ := sizeT_inv h1
      have h5 := load_ok (own := own) ho h3 h2 (by omega)
      rw [h4] at h5
      exact h5
    · exact bad_ok
  | store t x y =>
    simp only [irOp, ho]
    split
    · rename_i n h1
      obtain ⟨i, h3, rfl⟩ := sizeT_inv h1
      exact store_ok ho h3
    · exact bad_ok
  | nilCheck x => simp only [irOp, ho]; exact nilc_ok ho
  | binOp op t x y t' =>
    simp only [irOp, ho]
    split
    · rename_i h1
      split
      · exact beq_ok (neg := false) ho h1 rfl
      · exact beq_ok (neg := true) ho h1 rfl
      · exact bad_ok
    · exact bin_ok ho
  | unOp op t x => simp only [irOp, ho]; exact un_ok ho
  | convert s d x =>
    simp only [irOp, ho]
    split
    · exact conv_ok ho ‹_› ‹_›
    · split
      · exact b2s_ok ho ‹_› ‹_› ‹_›
      · exact bad_ok
    · exact bad_ok
  | fieldAddr st x f =>
    simp only [irOp, ho]
    split
    · rename_i fd h1
      obtain ⟨fs, h2, h3⟩ := fldT_inv h1
      split
      · rename_i n h4
        obtain ⟨i, h5, h6⟩ := sizeT_inv h4
        exact fld_ok ho h2 h3 h5 (by omega)
      · exact bad_ok
    · exact bad_ok
  | field st x f =>
    simp only [irOp, ho]
    split
    · rename_i fd h1
      obtain ⟨fs, h2, h3⟩ := fldT_inv h1
      split
      · rename_i n g h4 h7
        obtain ⟨i, h5, rfl⟩ := sizeT_inv h4
        exact fget_ok ho h2 h3 h5 h7
      · exact bad_ok
    · exact bad_ok
  | indexAddr t x i =>
    simp only [irOp, ho]
    split
    · rename_i s h1
      obtain ⟨e, h2, h3⟩ := Option.bind_eq_some_iff.1 h1
      obtain ⟨i, h5, rfl⟩ := sizeT_inv h3
      exact idx_ok ho (elemT_inv h2) h5
    · exact bad_ok
  | index t x i =>
    simp only [irOp, ho]
    split
    · exact sidx_ok ho (isStr_inv ‹_›)
    · exact bad_ok
  | slice t x lo hi mx =>
    simp only [irOp, ho]
    split
    · rename_i e h1
      split
      · rename_i s h2
        obtain ⟨i, h5, rfl⟩ := sizeT_inv h2
        split
        · exact bad_ok
        · rename_i h3
          refine slc_ok ho (elemT_inv h1) h5 ?_
          intro h4
          cases hi with
          | none => simp [h4] at h3
          | some _ => rfl
      · exact bad_ok
    · split
      · rename_i h1
        simp only [Bool.and_eq_true] at h1
        cases mx with
        | none => exact sslc_ok ho (isStr_inv h1.1)
        | some _ => simp at h1
      · exact bad_ok
  | build t ps =>
    simp only [irOp, ho]
    split
    · split
      · split
        · exact build_ok ho ‹_› ‹_› ‹_› ‹_›
        · exact bad_ok
      · exact bad_ok
    · exact bad_ok
  | buildSlice t n ps =>
    simp only [irOp, ho]
    split
    · split
      · split
        · rename_i h1 _ _ h2 _ h3
          refine bsl_ok ho (elemT_inv ‹_›) ‹_› h3.1 h3.2.1 ?_
          intro h4
          have := h3.2.2.resolve_left (by omega)
          rw [Array.toList_eq_nil_iff]
          exact Array.eq_empty_of_size_eq_zero this
        · exact bad_ok
      · exact bad_ok
    · exact bad_ok
  | makeSlice t l c =>
    simp only [irOp, ho]
    split
    · split
      · split
        · rename_i h3
          exact mksl_ok ho (elemT_inv ‹_›) ‹_› ‹_› h3.1 h3.2
        · exact bad_ok
      · exact bad_ok
    · exact bad_ok
  | extract x i => simp only [irOp, ho]; exact ext_ok ho
  | makeFunc f fs cs =>
    cases f with
    | func f =>
      simp only [irOp, ho]
      split
      · rename_i h1; exact mkfn_ok ho (by simpa using h1)
      · exact bad_ok
    | _ => simp only [irOp, ho]; exact bad_ok
  | makeMap t rr =>
    cases rr with
    | none => simp only [irOp, ho]; exact mkmap_ok ho
    | some _ => simp only [irOp, ho]; exact bad_ok
  | lookup t m k ok =>
    simp only [irOp, ho]
    split
    · rename_i q e h1
      split
      · rename_i z h2
        obtain ⟨i, h3, h4⟩ := Option.bind_eq_some_iff.1 h2
        split
        · exact mget_ok ho h1 h3 h4 ‹_›
        · exact bad_ok
      · exact bad_ok
    · exact bad_ok
  | mapUpdate t m k x =>
    simp only [irOp, ho]
    split
    · rename_i q e h1; exact mset_ok ho h1
    · exact bad_ok
  | mapEntry t m k =>
    simp only [irOp, ho]
    split
    · rename_i q e h1
      split
      · rename_i z h2
        obtain ⟨i, h3, h4⟩ := Option.bind_eq_some_iff.1 h2
        split
        · exact ment_ok ho h1 h3 h4 ‹_›
        · exact bad_ok
      · exact bad_ok
    · exact bad_ok
  | entryStore t m st x => simp only [irOp, ho]; exact mst_ok ho
  | call c =>
    cases hcl : c.callee with
    | value x =>
      exfalso
      simp only [irOp, ho, hcl] at hc
      split at hc <;> first | (simp [isCall] at hc; done) | (rename_i h9 _; cases h9; done) | (rename_i h9; simp_all)
    | builtin b =>
      cases b with
      | append =>
        simp only [irOp, ho, hcl]
        split
        · rename_i x y t u ha hts
          split
          · rename_i e he
            split
            · rename_i i zs hi hz
              split
              · rename_i hp
                split
                · rename_i hs
                  split
                  · rename_i h1; exact apps_ok ho hcl ha hts (elemT_inv he) (isStr_inv hs) hi hz h1.1 h1.2
                  · exact bad_ok
                · split
                  · rename_i h1; exact app_ok ho hcl ha hts (elemT_inv he) (elemT_inv h1) hi hz hp.1 hp.2
                  · exact bad_ok
              · exact bad_ok
            · exact bad_ok
          · exact bad_ok
        · exact bad_ok
      | len =>
        simp only [irOp, ho, hcl]
        split
        · rename_i x t ts ha hts
          split
          · rename_i h1; exact len_ok ho hcl ha hts (.inl ⟨rfl, _, h1⟩)
          · rename_i h1; exact len_ok ho hcl ha hts (.inr (.inl ⟨rfl, h1⟩))
          · rename_i h1; exact len_ok ho hcl ha hts (.inr (.inr ⟨rfl, _, _, h1⟩))
          · exact bad_ok
        · exact bad_ok
      | clear =>
        simp only [irOp, ho, hcl]
        split
        · rename_i x t ha hts
          split
          · rename_i e he
            split
            · rename_i z hz
              split
              · exact clear_ok ho hcl ha hts (elemT_inv he) hz ‹_›
              · exact bad_ok
            · exact bad_ok
          · exact bad_ok
        · exact bad_ok
      | copy =>
        simp only [irOp, ho, hcl]
        split
        · rename_i x y t u ha hts
          split
          · rename_i e he
            split
            · rename_i i hi
              split
              · rename_i h1; exact copy_ok ho hcl ha hts (elemT_inv he) (elemT_inv h1.2) hi h1.1
              · exact bad_ok
            · exact bad_ok
          · exact bad_ok
        · exact bad_ok
      | max =>
        simp only [irOp, ho, hcl]
        split
        · exact mx_ok ho hcl ‹_›
        · exact bad_ok
      | min =>
        simp only [irOp, ho, hcl]
        split
        · exact mn_ok ho hcl ‹_›
        · exact bad_ok
      | _ => simp only [irOp, ho, hcl]; exact bad_ok
    | _ => simp only [irOp, ho, hcl]; exact bad_ok
  | _ => simp only [irOp, ho]; exact bad_ok
end
end Go.Pv

set_option linter.unusedSimpArgs false
set_option linter.unusedVariables false
namespace Go.Pv
variable {α : Type} {w0 : World} {mine : Mine} {N : Nat} {pb : List Nat} {gh : Gh} {s : St} {a : Act} {w : World} {g : Ora} {r : α × St} {P : Program} {own : Nat → Nat → Mode}

/-- which sets of held blocks will do for what was shown -/
structure ShOk (gh : Gh) (l : List Nat) (Fs : List BSet) (sh2 : BSet) : Prop where
  sh : ∀ x, gh.sh x → sh2 x
  shown : ∀ n ∈ l, ∀ x, gh.own x = some (.a n) → sh2 x
  free : ∀ F ∈ Fs, ∀ x, F x → ¬ sh2 x
/-- a row that is handed over is told as it was -/
def LentX (o : Nat → Mode) (i0 : Nat) (s : St) (l l' : List V) : Prop := ∀ (i : Nat) (c : V), l[i]? = some c → (o (i0 + i)).gives = true → ∃ c', l'[i]? = some c' ∧ ∀ (j a off len : Nat), (cellsOf c)[j]? = some (.rf a off len) → ∃ fz xs, look s.ar a = some (.a fz xs) ∧ (fz = false → (cellsOf c')[j]? = some (.ls true (sub xs off len)))
section
variable [Glb]
theorem expArgs_ok (o : Nat → Mode) : ∀ (l : List V) (i : Nat) (gh : Gh) (s : St) (vs : List Value) (k : List Pv.V → List Nat → M α), Inv w0 mine N pb gh s a w → l.length = vs.length →
    (∀ (i : Nat) (c : V) (v : Value), l[i]? = some c → vs[i]? = some v → RT gh w.heap c v) → (expArgs o i l k).run g s = some r →
    ∃ gh' s' l' sh Fs, (k l' sh).run g s' = some r ∧ Inv w0 mine N pb gh' s' a w ∧ Step gh s gh' s' Fs ∧ l'.length = l.length ∧ LentX o i s l l' ∧
      ∀ sh2 : BSet, ShOk gh sh Fs sh2 → XRL sh2 w.heap gh.bi l' vs Fs
  | [], i, gh, s, vs, k, H, hl, hv, h => by
    cases vs with
    | nil => exact ⟨gh, s, [], [], [], h, H, .refl gh s, rfl, (fun i c h => by simp at h), fun _ _ => .nil⟩
    | cons v vs => simp at hl
  | V :: l, i, gh, s, vs, k, H, hl, hv, h => by
    cases vs with
    | nil => simp at hl
    | cons v vs =>
      obtain ⟨gh1, s1, V1, n1, Fs1, e1, e2, e3, e4, eX, e5, e6⟩ := exp_ok (o i).gives V α gh s r v _ H (hv 0 V v rfl rfl) h
      obtain ⟨gh2, s2, l2, n2, Fs2, f1, f2, f3, f4, f5, f6⟩ := expArgs_ok o l (i + 1) gh1 s1 vs _ e2 (by simpa using hl)
        (fun i c v hc hw => (hv (i + 1) c v (by simpa using hc) (by simpa using hw)).congr e3.sh e3.ai e3.bi) e1
      refine ⟨gh2, s2, V1 :: l2, n1 ++ n2, Fs1 ++ Fs2, f1, f2, e3.trans f3, by simp [f4], ?_, ?_⟩
      · intro i' c hj hg
        cases i' with
        | zero =>
          simp at hj hg
          subst hj
          refine ⟨V1, rfl, ?_⟩
          intro j a off len hc
          cases V with
          | ag cs =>
            obtain ⟨cs', rfl, h1⟩ := (eX hg).2 cs rfl
            exact h1 j a off len hc
          | rf a1 o1 l1 =>
            cases j with
            | succ j => simp [cellsOf] at hc
            | zero =>
              simp [cellsOf] at hc
              obtain ⟨rfl, rfl, rfl⟩ := hc
              obtain ⟨fz, xs, h1, h2⟩ := (eX hg).1 _ _ _ rfl
              exact ⟨fz, xs, h1, fun hf => by rw [h2 hf]; rfl⟩
          | _ =>
            cases j with
            | succ j => simp [cellsOf] at hc
            | zero => simp [cellsOf] at hc
        | succ j =>
          obtain ⟨c', h0, h1⟩ := f5 j c (by simpa using hj) (by rw [show i + 1 + j = i + (j + 1) by omega]; exact hg)
          refine ⟨c', by simpa using h0, fun j' a off len hc => ?_⟩
          obtain ⟨fz, xs, h2, h3⟩ := h1 j' a off len hc
          exact ⟨fz, xs, (e3.live a fz xs h2).1, h3⟩
      intro sh2 hs
      refine XRL.cons V1 l2 v vs Fs1 Fs2 (e6 sh2 hs.sh (fun n hn => hs.shown n (List.mem_append_left _ hn)) (fun F hF => hs.free F (List.mem_append_left _ hF))) ?_
      have := f6 sh2 ⟨by rw [e3.sh]; exact hs.sh, fun n hn x hx => hs.shown n (List.mem_append_right _ hn) x (e3.sub x _ hx), fun F hF => hs.free F (List.mem_append_right _ hF)⟩
      rw [e3.bi] at this
      exact this
end
/-- what a variable in memory hands over -/
def BoxX (sh : BSet) (h : Array Obj) (bi : Nat → Option Nat) (b : Nat) : Cell → List BSet → Prop
  | .b vs, Gs => ∃ vals t, h[b]? = some (.cells vals t (0, 0)) ∧ XRL sh h bi vs vals.toList Gs
  | .m es, Gs => MapOk h b es ∧ Gs = []
  | _, _ => False
def cellBs : Cell → List Nat
  | .b vs => bxsOfL vs
  | _ => []
section
variable [Glb]
/-- the name's box is no more looked at -/
theorem Step.deadB (H : Inv w0 mine N pb gh s a w) {n : Nat} {c : Cell} (h : look s.bx n = some c) : Step gh s gh (s.put (.b n) .dead) [] :=
  { Step.refl gh s with
    bxd := fun m hm => by
      simp only [St.put, look_setA]
      split
      · rfl
      · exact hm
    bx0 := fun m => by
      simp only [St.put, look_setA]
      split
      · rename_i e; subst e; simp [h]
      · exact Iff.rfl }
theorem Inv.deadB (H : Inv w0 mine N pb gh s a w) {n : Nat} {c : Cell} (h : look s.bx n = some c) : Inv w0 mine N pb gh (s.put (.b n) .dead) a w := by
  have hbx : ∀ m, look (s.put (.b n) .dead).bx m = if n = m then some .dead else look s.bx m := by
    intro m; simp only [St.put, look_setA]
  exact { H with
    bx := fun m c' hm => by
      rw [hbx] at hm
      split at hm
      · rename_i e; subst e
        injection hm with hm; subst hm
        obtain ⟨b, h1, h2, _⟩ := H.bx _ _ h
        exact ⟨b, h1, h2, trivial⟩
      · exact H.bx m c' hm
    bx0 := fun m hm => by
      rw [hbx] at hm
      split at hm
      · cases hm
      · exact H.bx0 m hm }
theorem coll_ok : ∀ (n : Nat) (todo done : List Nat) (cs : List Cell) (gh : Gh) (s : St) (k : List Nat → List Cell → M α), Inv w0 mine N pb gh s a w → done.Nodup → (∀ b ∈ done, look s.bx b = some .dead) → (coll n todo done cs k).run g s = some r →
    ∃ gh' s' D1 C1, ∃ Gs : List (List BSet), (k (done ++ D1) (cs ++ C1)).run g s' = some r ∧ Inv w0 mine N pb gh' s' a w ∧ Step gh s gh' s' Gs.flatten ∧ D1.length = C1.length ∧ C1.length = Gs.length ∧ (done ++ D1).Nodup ∧
      (∀ b ∈ done ++ D1, look s'.bx b = some .dead) ∧ (∀ l rest, todo = l ++ rest → (done ++ l).Nodup → ∃ D2, D1 = l ++ D2) ∧ (∀ b ∈ todo, b ∈ done ++ D1) ∧ (∀ c ∈ C1, ∀ b ∈ cellBs c, b ∈ done ++ D1) ∧
      ∀ sh2 : BSet, ShOk gh [] Gs.flatten sh2 → ∀ (j b : Nat) (c : Cell) (G : List BSet), D1[j]? = some b → C1[j]? = some c → Gs[j]? = some G → ∃ bb, gh.bi b = some bb ∧ gh.own bb = some (.b b) ∧ BoxX sh2 w.heap gh.bi bb c G
  | 0, todo, done, cs, gh, s, k, H, hd, hdd, h => (run_fail_ h).elim
  | n + 1, [], done, cs, gh, s, k, H, hd, hdd, h => by
    refine ⟨gh, s, [], [], [], by simpa [coll] using h, H, .refl gh s, rfl, rfl, by simpa using hd, by simpa using hdd, (fun l rest hl _ => by obtain ⟨rfl, _⟩ := List.append_eq_nil_iff.1 hl.symm; exact ⟨[], rfl⟩), by simp, by simp, ?_⟩
    intro sh2 _ j b c G h1
    simp at h1
  | n + 1, b :: todo, done, cs, gh, s, k, H, hd, hdd, h => by
    rw [coll] at h
    split at h
    · rename_i hc
      obtain ⟨gh', s', D1, C1, Gs, h1, h2, h3, h4, h5, h6, h7, hpre, h8, h9, h10⟩ := coll_ok n todo done cs gh s k H hd hdd h
      refine ⟨gh', s', D1, C1, Gs, h1, h2, h3, h4, h5, h6, h7, ?_, ?_, h9, h10⟩
      · intro l rest hl hnd
        cases l with
        | nil => exact ⟨D1, rfl⟩
        | cons y l =>
          injection hl with hl1 hl2
          subst hl1
          exfalso
          rw [List.nodup_append] at hnd
          exact hnd.2.2 b (by simpa using hc) b List.mem_cons_self rfl
      intro x hx
      rcases List.mem_cons.1 hx with rfl | hx
      · exact List.mem_append_left _ (by simpa using hc)
      · exact h8 x hx
    · rename_i hc
      have hnb : b ∉ done := by simpa using hc
      simp only [M.run, St.get] at h
      split at h
      · rename_i vs hl
        obtain ⟨bb, q1, q2, vals, t, q3, q4, q5⟩ := H.bx b _ hl
        obtain ⟨gh1, s1, vs', nn, Fs1, e1, e2, e3, e4, _, e5, e6⟩ := expL_ok true vs α gh s r vals.toList _ H (by simpa using q4) (fun i c v hc hv => q5 i c v hc (by simpa using hv)) h
        have hb1 : ∃ c, look s1.bx b = some c := by
          cases hz : look s1.bx b with
          | none => rw [(e3.bx0 b).1 hz] at hl; cases hl
          | some c => exact ⟨c, rfl⟩
        obtain ⟨c1, hc1⟩ := hb1
        have H2 := e2.deadB hc1
        have S2 := Step.deadB e2 hc1
        obtain ⟨gh', s', D1, C1, Gs, h1, h2, h3, h4, h5, h6, h7, hpre, h8, h9, h10⟩ := coll_ok n (todo ++ bxsOfL vs') (done ++ [b]) (cs ++ [Cell.b vs']) gh1 (s1.put (.b b) .dead) k H2 (by
            rw [List.nodup_append]
            exact ⟨hd, by simp, by intro x hx y hy; simp at hy; subst hy; rintro rfl; exact hnb hx⟩) (by
            intro x hx
            simp only [St.put, look_setA]
            split
            · rfl
            · rename_i hne
              rcases List.mem_append.1 hx with hx | hx
              · exact e3.bxd x (hdd x hx)
              · simp at hx; exact absurd hx.symm hne) (by simpa only [M.run] using e1)
        have hS : Step gh s gh' s' (Fs1 ++ Gs.flatten) := by
          have := (e3.trans S2).trans h3
          simpa using this
        refine ⟨gh', s', b :: D1, .b vs' :: C1, Fs1 :: Gs, by simpa using h1, h2, by simpa using hS, by simp [h4], by simp [h5], by simpa using h6, by simpa using h7, ?_, ?_, ?_, ?_⟩
        · intro l rest hl hnd
          cases l with
          | nil => exact ⟨b :: D1, rfl⟩
          | cons y l =>
            injection hl with hl1 hl2
            subst hl1
            obtain ⟨D2, hD2⟩ := hpre l (rest ++ bxsOfL vs') (by rw [hl2]; simp) (by simpa using hnd)
            exact ⟨D2, by rw [hD2]; rfl⟩
        · intro x hx
          rcases List.mem_cons.1 hx with rfl | hx
          · simp
          · have := h8 x (List.mem_append_left _ hx); simpa using this
        · intro c hc x hx
          rcases List.mem_cons.1 hc with rfl | hc
          · have := h8 x (List.mem_append_right _ hx); simpa using this
          · have := h9 c hc x hx; simpa using this
        · intro sh2 hs j b' c G hj hcj hGj
          simp only [List.flatten_cons] at hs
          cases j with
          | zero =>
            simp at hj hcj hGj
            subst hj; subst hcj; subst hGj
            refine ⟨bb, q1, q2, vals, t, q3, ?_⟩
            exact e6 sh2 hs.sh (by rw [e4 rfl]; simp) fun F hF => hs.free F (List.mem_append_left _ hF)
          | succ j =>
            obtain ⟨bb', z1, z2, z3⟩ := h10 sh2 ⟨by rw [e3.sh]; exact hs.sh, by simp, fun F hF => hs.free F (List.mem_append_right _ hF)⟩ j b' c G (by simpa using hj) (by simpa using hcj) (by simpa using hGj)
            rw [e3.bi] at z1 z3
            exact ⟨bb', z1, e3.sub _ _ z2, z3⟩
      · rename_i es hl
        obtain ⟨bb, q1, q2, q3⟩ := H.bx b _ hl
        have H2 := H.deadB hl
        have S2 := Step.deadB H hl
        obtain ⟨gh', s', D1, C1, Gs, h1, h2, h3, h4, h5, h6, h7, hpre, h8, h9, h10⟩ := coll_ok n todo (done ++ [b]) (cs ++ [Cell.m es]) gh (s.put (.b b) .dead) k H2 (by
            rw [List.nodup_append]
            exact ⟨hd, by simp, by intro x hx y hy; simp at hy; subst hy; rintro rfl; exact hnb hx⟩) (by
            intro x hx
            simp only [St.put, look_setA]
            split
            · rfl
            · rename_i hne
              rcases List.mem_append.1 hx with hx | hx
              · exact hdd x hx
              · simp at hx; exact absurd hx.symm hne) (by simpa only [M.run] using h)
        refine ⟨gh', s', b :: D1, .m es :: C1, [] :: Gs, by simpa using h1, h2, by simpa using S2.trans h3, by simp [h4], by simp [h5], by simpa using h6, by simpa using h7, ?_, ?_, ?_, ?_⟩
        · intro l rest hl hnd
          cases l with
          | nil => exact ⟨b :: D1, rfl⟩
          | cons y l =>
            injection hl with hl1 hl2
            subst hl1
            obtain ⟨D2, hD2⟩ := hpre l (rest) (by rw [hl2]; rfl) (by simpa using hnd)
            exact ⟨D2, by rw [hD2]; rfl⟩
        · intro x hx
          rcases List.mem_cons.1 hx with rfl | hx
          · simp
          · have := h8 x hx; simpa using this
        · intro c hc x hx
          rcases List.mem_cons.1 hc with rfl | hc
          · simp [cellBs] at hx
          · have := h9 c hc x hx; simpa using this
        · intro sh2 hs j b' c G hj hcj hGj
          cases j with
          | zero =>
            simp at hj hcj hGj
            subst hj; subst hcj; subst hGj
            exact ⟨bb, q1, q2, q3, rfl⟩
          | succ j =>
            exact h10 sh2 (by simpa using hs) j b' c G (by simpa using hj) (by simpa using hcj) (by simpa using hGj)
      · exact (run_fail_ h).elim
theorem seeA_ok (H : Inv w0 mine N pb gh s a w) : ∀ {l : List Nat} {k : M α}, (seeA l k).run g s = some r → k.run g s = some r ∧ ∀ n ∈ l, ∃ fz xs, look s.ar n = some (.a fz xs)
  | [], k, h => ⟨h, by simp⟩
  | n :: l, k, h => by
    obtain ⟨fz, xs, ai, e1, e2, e3, e4⟩ := rdA_ok H h
    obtain ⟨f1, f2⟩ := seeA_ok H e4
    refine ⟨f1, ?_⟩
    intro m hm
    rcases List.mem_cons.1 hm with rfl | hm
    · exact ⟨fz, xs, e1⟩
    · exact f2 m hm
end
end Go.Pv
