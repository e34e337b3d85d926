/- Proof: the operations tell the truth, first part. No condition. -/
import Derived.Test.YtaadneenebhnoaaPvB
import Derived.Laws.CopyRow
import Derived.Laws.AppendOwn
import Derived.Laws.MakeOwn
set_option autoImplicit true
set_option relaxedAutoImplicit true
set_option linter.unusedSimpArgs false
set_option linter.unusedVariables false
set_option linter.unusedSimpArgs false
set_option linter.unusedVariables false
namespace Go.Pv
variable {α : Type} {w0 : World} {mine : Mine} {N : Nat} {pb : List Nat} {gh : Gh} {s : St} {a : Act} {w : World} {g : Ora} {r : α × St} {P : Program} {own : Nat → Nat → Mode}

theorem allLen_get {s : Nat} {xs : List (List V)} (h : allLen s xs = true) {i : Nat} {cs : List V} (hi : xs[i]? = some cs) : cs.length = s := by
  have := List.all_eq_true.1 h cs (List.mem_of_getElem? hi)
  simpa using this
/-- the row's own number of cells an element -/
theorem RowOk.elems {n : Nat} {ai : AI} {fz : Bool} {xs : List (List V)} {h : Array Obj} (H : RowOk gh h n ai fz xs) {s : Nat} (ha : allLen s xs = true) (hne : xs ≠ []) : ai.s = s := by
  have hi : xs[0]? = some (xs[0]'(List.length_pos_iff.2 hne)) := List.getElem?_eq_getElem _
  rw [← (H.at hi).1, allLen_get ha hi]
theorem sliceBound_run {k : IntKind} {n : Int} {y : Nat} {code : BoundsCode} (h0 : 0 ≤ n) (h1 : n ≤ y) : (Instr.sliceBound (.int k n) y code).run P w = .ok n.toNat w := by
  simp [Instr.sliceBound, asIntOf, h0, h1]
section
variable [Glb]
theorem optN_ok (H : Inv w0 mine N pb gh s a w) {y : Option Operand} {d : Nat} {k : Nat → M α} (h : (optN (y.map arOf) d k).run g s = some r) :
    ∃ n, (k n).run g s = some r ∧ ((y = none ∧ n = d) ∨ ∃ z q m, y = some z ∧ a.eval z = .int q m ∧ 0 ≤ m ∧ m.toNat = n) := by
  cases y with
  | none => exact ⟨d, h, .inl ⟨rfl, rfl⟩⟩
  | some z =>
    obtain ⟨V, h1, h2⟩ := get_ok H h
    obtain ⟨q, m, rfl, h3, h4⟩ := asI_ok h2 h1
    split at h4
    · exact ⟨_, h4, .inr ⟨z, q, m, rfl, h3, ‹_›, rfl⟩⟩
    · exact (run_fail_ h4).elim
end
/-- the bounds of a cut -/
theorem bounds_run {lo hi mx : Option Operand} {len cap l h m : Nat} (hl : (lo = none ∧ l = 0) ∨ ∃ z q n, lo = some z ∧ a.eval z = .int q n ∧ 0 ≤ n ∧ n.toNat = l)
    (hh : (hi = none ∧ h = len) ∨ ∃ z q n, hi = some z ∧ a.eval z = .int q n ∧ 0 ≤ n ∧ n.toNat = h) (hm : (mx = none ∧ m = h) ∨ ∃ z q n, mx = some z ∧ a.eval z = .int q n ∧ 0 ≤ n ∧ n.toNat = m)
    (b : Bool) (hmh : mx.isSome → hi.isSome) (h1 : l ≤ h) (h2 : h ≤ m) (h3 : m ≤ len) (h4 : len ≤ cap) :
    (Instr.sliceBounds b len cap (lo.map a.eval) (hi.map a.eval) (mx.map a.eval)).run P w = .ok (l, h, if mx.isSome then m else cap) w := by
  rcases hm with ⟨rfl, rfl⟩ | ⟨zm, qm, nm, rfl, em, pm, tm⟩
  · rcases hh with ⟨rfl, rfl⟩ | ⟨zh, qh, nh, rfl, eh, ph, th⟩
    · rcases hl with ⟨rfl, rfl⟩ | ⟨zl, ql, nl, rfl, el, pl, tl⟩
      · simp [Instr.sliceBounds]
      · have := sliceBound_run (P := P) (w := w) (k := ql) (y := m) (code := .sliceB) pl (by omega)
        simp [Instr.sliceBounds, el, this, tl]
    · have e1 := fun c => sliceBound_run (P := P) (w := w) (k := qh) (code := c) ph (show nh ≤ (cap : Nat) by omega)
      rcases hl with ⟨rfl, rfl⟩ | ⟨zl, ql, nl, rfl, el, pl, tl⟩
      · simp [Instr.sliceBounds, eh, e1, th]
      · have e2 := sliceBound_run (P := P) (w := w) (k := ql) (y := m) (code := .sliceB) pl (by omega)
        simp [Instr.sliceBounds, eh, e1, th, el, e2, tl]
  · rcases hh with ⟨rfl, rfl⟩ | ⟨zh, qh, nh, rfl, eh, ph, th⟩
    · simp at hmh
    · have e0 := fun c => sliceBound_run (P := P) (w := w) (k := qm) (code := c) pm (show nm ≤ (cap : Nat) by omega)
      have e1 := fun c => sliceBound_run (P := P) (w := w) (k := qh) (code := c) ph (show nh ≤ (m : Nat) by omega)
      rcases hl with ⟨rfl, rfl⟩ | ⟨zl, ql, nl, rfl, el, pl, tl⟩
      · simp [Instr.sliceBounds, em, e0, tm, eh, e1, th]
      · have e2 := fun c => sliceBound_run (P := P) (w := w) (k := ql) (code := c) pl (show nl ≤ (h : Nat) by omega)
        simp [Instr.sliceBounds, em, e0, tm, eh, e1, th, el, e2, tl]
section
variable [Glb]
theorem rdX_ok (H : Inv w0 mine N pb gh s a w) {n : Nat} {k : List (List V) → M α} (h : (rdX n k).run g s = some r) :
    ∃ xs ai, gh.ai n = some ai ∧ (∀ sz, allLen sz xs = true → xs ≠ [] → ai.s = sz) ∧ (k xs).run g s = some r := by
  simp only [rdX, M.run, St.get] at h
  split at h
  · rename_i fz xs hl
    obtain ⟨ai, h1, h2⟩ := H.ar n _ hl
    exact ⟨xs, ai, h1, fun sz q hne => RowOk.elems h2 q hne, h⟩
  · rename_i xs hl
    obtain ⟨ai, h1, c, t, f, Fs, R⟩ := H.ar n _ hl
    refine ⟨xs, ai, h1, fun sz q hne => ?_, h⟩
    have hi := List.getElem?_eq_getElem (l := xs) (i := 0) (List.length_pos_iff.2 hne)
    rw [← R.len _ _ hi, allLen_get q hi]
  · exact (run_fail_ h).elim
theorem idx_ok {o : Oper} {t e : TypeId} {x y : Operand} {i : TypeInfo} (ho : o.op = .indexAddr t x y) (ht : P.underlying t = some (.slice e)) (hi : P.info? e = some i) : SemOK P own o (.idx i.size (arOf x) (arOf y)) := by
  intro α w0 mine N pb gh s a w g dst k r H h
  obtain ⟨V, h1, h2⟩ := get_ok H h
  obtain ⟨W, h3, h4⟩ := get_ok H h1
  obtain ⟨q, n, rfl, h5, h6⟩ := asI_ok h4 h3
  have hex : execOp a.eval o = (do pure (Next.value (← Instr.indexAt t (a.eval x) (a.eval y)))) := by simp [execOp, ho]
  have key : ∀ b base len cap, a.eval x = .slice (some ⟨b, base, none⟩) len cap → 0 ≤ n → n < (len : Nat) → (Instr.indexAt t (a.eval x) (a.eval y)).run P w = .ok (.pointer (some ⟨b, base + n.toNat * i.size, none⟩)) w := by
    intro b base len cap e1 e2 e3
    rw [e1, h5]
    simp [Instr.indexAt, asIntOf, run_underlying ht, run_size hi, e2, e3, add_mk]
  split at h6
  · rename_i m off len
    obtain ⟨ai, A, c, e1, e2, e3, e4, e5⟩ := h2.rfV
    obtain ⟨xs, ai', e7, e8, e9⟩ := rdX_ok H h6
    rw [e1] at e7; injection e7 with e7; subst e7
    split at e9
    · rename_i hn
      obtain ⟨hc, e9⟩ := chk_ok e9
      simp at hc
      obtain ⟨hc1, hc2⟩ := hc
      have hne : xs ≠ [] := by intro e; subst e; simp at hc1; omega
      have hs := e8 _ hc2 hne
      have hA : A = some ⟨ai.b, ai.base + off * ai.s, none⟩ := e4.resolve_left (by omega)
      subst hA
      refine quiet_ok H e9 (eval_v hex (key _ _ _ _ e5 hn.1 hn.2)) ?_
      have := RT.ep (gh := gh) (h := w.heap) m (off + n.toNat) 0 ai e1
      rw [← hs, show ai.base + off * ai.s + n.toNat * ai.s = ai.base + (off + n.toNat) * ai.s + 0 by rw [Nat.add_mul]; omega]
      exact this
    · exact (run_fail_ e9).elim
  · rename_i ow xs
    split at h6
    · rename_i hn
      obtain ⟨hc, e9⟩ := chk_ok h6
      rcases h2.lsV with ⟨rfl, hf⟩ | ⟨rfl, rfl, A, hA⟩
      · have hlt : n.toNat < xs.length := by omega
        have hx := hf
        generalize hX : a.eval x = X at hx
        cases hx with
        | nil _ A cap => simp at hlt
        | ls _ _ b base s' cap c f hb hcc hl e1 e2 e3 =>
          refine quiet_ok H e9 (eval_v hex (key _ _ _ _ hX hn.1 hn.2)) ?_
          have hs : s' = i.size := by rw [← e1 _ _ (List.getElem?_eq_getElem hlt), allLen_get hc (List.getElem?_eq_getElem hlt)]
          have := RT.fp (gh := gh) (h := w.heap) xs n.toNat 0 b base s' cap (by rw [hX] at hf; exact hf) hlt e1
          rw [hs] at this
          exact this
      · simp at hn
        omega
    · exact (run_fail_ h6).elim
  · exact (run_fail_ h6).elim
theorem slc_ok {o : Oper} {t e : TypeId} {x : Operand} {lo hi mx : Option Operand} {i : TypeInfo} (ho : o.op = .slice t x lo hi mx) (ht : P.underlying t = some (.slice e)) (hi' : P.info? e = some i) (hmx : mx.isSome → hi.isSome) :
    SemOK P own o (.slc i.size (arOf x) (lo.map arOf) (hi.map arOf) (mx.map arOf)) := by
  intro α w0 mine N pb gh s a w g dst k r H h
  obtain ⟨V, h1, h2⟩ := get_ok H h
  have hex : execOp a.eval o = (do pure (Next.value (← Instr.sliceAt t (a.eval x) (lo.map a.eval) (hi.map a.eval) (mx.map a.eval)))) := by simp [execOp, ho]
  have key : ∀ A len cap l h m, a.eval x = .slice A len cap → (Instr.sliceBounds true len cap (lo.map a.eval) (hi.map a.eval) (mx.map a.eval)).run P w = .ok (l, h, m) w →
      (Instr.sliceAt t (a.eval x) (lo.map a.eval) (hi.map a.eval) (mx.map a.eval)).run P w = .ok (.slice (if m = l then A else A.map (·.add (l * i.size))) (h - l) (m - l)) w := by
    intro A len cap l h m e1 e2
    rw [e1]
    simp [Instr.sliceAt, Instr.slice, run_underlying ht, e2, run_size hi']
  split at h1
  · rename_i n off len
    obtain ⟨ai, A, c, e1, e2, e3, e4, e5⟩ := h2.rfV
    obtain ⟨fz, xs, ai', e6, e7, e8, e9⟩ := rdA_ok H h1
    rw [e1] at e7; injection e7 with e7; subst e7
    obtain ⟨l, e10, hl⟩ := optN_ok H e9
    obtain ⟨hh, e11, hh'⟩ := optN_ok H e10
    obtain ⟨m, e12, hm⟩ := optN_ok H e11
    split at e12
    · rename_i hc
      obtain ⟨c1, c2, c3⟩ := hc
      obtain ⟨hc, e13⟩ := chk_ok e12
      simp at hc
      obtain ⟨hc1, hc2⟩ := hc
      have hb := bounds_run (P := P) (w := w) (cap := c) hl hh' hm true hmx c1 c2 c3 e2
      refine quiet_ok H e13 (eval_v hex (key _ _ _ _ _ _ e5 hb)) ?_
      refine .rf n (off + l) (hh - l) ai _ _ e1 ?_ ?_ ?_
      · split <;> omega
      · split <;> omega
      · by_cases hz : (if mx.isSome then m else c) = l
        · left; omega
        · right
          rw [if_neg hz]
          have hc0 : c ≠ 0 := by intro h0; apply hz; split <;> omega
          rw [e4.resolve_left hc0]
          by_cases hl0 : l = 0
          · subst hl0
            simp [Addr.add]
          · have hne : xs ≠ [] := by intro e; subst e; simp at hc1; omega
            rw [← RowOk.elems e8 hc2 hne]
            simp [add_mk, Nat.add_mul, Nat.add_assoc]
    · exact (run_fail_ e12).elim
  · rename_i ow xs
    obtain ⟨l, e10, hl⟩ := optN_ok H h1
    obtain ⟨hh, e11, hh'⟩ := optN_ok H e10
    obtain ⟨m, e12, hm⟩ := optN_ok H e11
    split at e12
    · rename_i hc
      obtain ⟨c1, c2, c3⟩ := hc
      rcases h2.lsV with ⟨rfl, hf⟩ | ⟨rfl, rfl, A, hA⟩
      · obtain ⟨hc, e13⟩ := chk_ok e12
        obtain ⟨A, cap, e5, e2⟩ := hf.lsV
        have hb := bounds_run (P := P) (w := w) (cap := cap) hl hh' hm true hmx c1 c2 c3 e2
        refine quiet_ok H e13 (eval_v hex (key _ _ _ _ _ _ e5 hb)) (.fz _ _ ?_)
        by_cases h0 : hh - l = 0
        · rw [h0]
          have : sub xs l 0 = [] := by simp [sub]
          rw [this]
          exact .nil false _ _
        · rw [e5] at hf
          generalize hX : Value.slice A xs.length cap = X at hf
          cases hf with
          | nil _ A cap => simp at c3; omega
          | ls _ _ b base s' cap' c f hb' hcc hl' f1 f2 f3 =>
            injection hX with q1 q2 q3
            subst q1 q3
            have hz : ¬ (if mx.isSome then m else cap) = l := by split <;> omega
            rw [if_neg hz]
            have hlen : (sub xs l (hh - l)).length = hh - l := by simp [sub]; omega
            have hget : ∀ (i : Nat) (cs : List Pv.V), (sub xs l (hh - l))[i]? = some cs → xs[l + i]? = some cs := by
              intro i cs hi
              simp only [sub, List.getElem?_take] at hi
              split at hi
              · simpa using hi
              · cases hi
            have hs : s' = i.size := by
              have hi0 : xs[l]? = some (xs[l]'(by omega)) := List.getElem?_eq_getElem _
              rw [← f1 _ _ hi0, allLen_get hc hi0]
            have := FR.ls (sh := gh.sh) (h := w.heap) false (sub xs l (hh - l)) b (base + l * s') s' ((if mx.isSome then m else cap) - l) c (fun i j => f (l + i) j) hb' hcc (by rw [hlen]; split <;> omega)
              (fun i cs hi => f1 _ cs (hget i cs hi))
              (fun i cs j v hi hj => by rw [show base + l * s' + i * s' + j = base + (l + i) * s' + j by rw [Nat.add_mul]; omega]; exact f2 _ cs j v (hget i cs hi) hj)
              (fun i cs j v hi hj => f3 _ cs j v (hget i cs hi) hj)
            rw [hlen] at this
            simp only [Option.map_some, add_mk, ← hs]
            exact this
      · simp at c3
        have hl0 : l = 0 := by omega
        have hh0 : hh = 0 := by omega
        subst hl0 hh0 c3
        have hb := bounds_run (P := P) (w := w) (cap := 0) hl hh' hm true hmx (Nat.le_refl _) (Nat.le_refl _) (Nat.le_refl _) (Nat.le_refl _)
        refine quiet_ok H e12 (eval_v hex (key _ _ _ _ _ _ hA hb)) ?_
        simp
        exact .nil _
    · exact (run_fail_ e12).elim
  · exact (run_fail_ h1).elim
theorem sidx_ok {o : Oper} {t : TypeId} {x y : Operand} (ho : o.op = .index t x y) (ht : P.underlying t = some .string) : SemOK P own o (.sidx (arOf x) (arOf y)) := by
  intro α w0 mine N pb gh s a w g dst k r H h
  obtain ⟨V, h1, h2⟩ := get_ok H h
  obtain ⟨W, h3, h4⟩ := get_ok H h1
  obtain ⟨t', rfl, h5, h6⟩ := asS_ok h2 h3
  obtain ⟨q, n, rfl, h7, h8⟩ := asI_ok h4 h6
  have hex : execOp a.eval o = (do pure (Next.value (← Instr.index t (a.eval x) (a.eval y)))) := by simp [execOp, ho]
  split at h8
  · rename_i hn
    split at h8
    · rename_i b hb
      refine quiet_ok H h8 (v := .int .u8 b.toNat) (eval_v hex ?_) (.sc _ rfl)
      rw [h5, h7]
      simp [Instr.index, asIntOf, run_underlying ht, hn, hb]
    · exact (run_fail_ h8).elim
  · exact (run_fail_ h8).elim
theorem sslc_ok {o : Oper} {t : TypeId} {x : Operand} {lo hi : Option Operand} (ho : o.op = .slice t x lo hi none) (ht : P.underlying t = some .string) : SemOK P own o (.sslc (arOf x) (lo.map arOf) (hi.map arOf)) := by
  intro α w0 mine N pb gh s a w g dst k r H h
  obtain ⟨V, h1, h2⟩ := get_ok H h
  obtain ⟨t', rfl, h5, h6⟩ := asS_ok h2 h1
  have hex : execOp a.eval o = (do pure (Next.value (← Instr.sliceAt t (a.eval x) (lo.map a.eval) (hi.map a.eval) none))) := by simp [execOp, ho]
  obtain ⟨l, e10, hl⟩ := optN_ok H h6
  obtain ⟨hh, e11, hh'⟩ := optN_ok H e10
  split at e11
  · rename_i hc
    have hb := bounds_run (P := P) (w := w) (cap := t'.size) (mx := none) hl hh' (.inl ⟨rfl, rfl⟩) false (by simp) hc.1 (Nat.le_refl _) hc.2 (Nat.le_refl _)
    refine quiet_ok H e11 (v := .string (t'.extract l hh)) (eval_v hex ?_) (.sc _ rfl)
    rw [h5]
    simp at hb
    simp [Instr.sliceAt, Instr.slice, run_underlying ht, hb]
  · exact (run_fail_ e11).elim
theorem len_ok {o : Oper} {c : Call} {x : Operand} {t : TypeId} {ts : List TypeId} {q : Nat} (ho : o.op = .call c) (hc : c.callee = .builtin .len) (ha : c.args.toList = [x]) (hts : c.argTypes.toList = t :: ts)
    (ht : (q = 0 ∧ ∃ e, P.underlying t = some (.slice e)) ∨ (q = 1 ∧ P.underlying t = some .string) ∨ (q = 2 ∧ ∃ u v, P.underlying t = some (.map u v))) : SemOK P own o (.len q (arOf x)) := by
  intro α w0 mine N pb gh s a w g dst k r H h
  obtain ⟨V, h1, h2⟩ := get_ok H h
  have ha' : c.args = #[x] := by rw [← Array.toList_inj, ha]
  have hts' : c.argTypes[0]? = some t := by rw [← Array.getElem?_toList, hts]; rfl
  have hex : execOp a.eval o = (do pure (Next.value (← Builtin.len_ c.argTypes o.type #[a.eval x]))) := by simp [execOp, ho, resolve, hc, invoke, builtin, ha']
  split at h1
  · rcases ht with ⟨_, e, ht⟩ | ⟨h0, _⟩ | ⟨h0, _⟩
    · obtain ⟨ai, A, c', e1, e2, e3, e4, e5⟩ := h2.rfV
      refine quiet_ok H h1 (eval_v hex ?_) (.sc _ rfl)
      rw [e5]
      simp [Builtin.len_, hts', run_underlying ht, goInt]
    · cases h0
    · cases h0
  · rename_i xs
    rcases ht with ⟨_, e, ht⟩ | ⟨h0, _⟩ | ⟨h0, _⟩
    · have : ∃ A c', a.eval x = .slice A xs.length c' := by
        rcases h2.lsV with ⟨rfl, hf⟩ | ⟨rfl, rfl, A, hA⟩
        · obtain ⟨A, cap, e5, _⟩ := hf.lsV
          exact ⟨A, cap, e5⟩
        · exact ⟨A, 0, hA⟩
      obtain ⟨A, c', e5⟩ := this
      refine quiet_ok H h1 (eval_v hex ?_) (.sc _ rfl)
      rw [e5]
      simp [Builtin.len_, hts', run_underlying ht, goInt]
    · cases h0
    · cases h0
  · rcases ht with ⟨h0, _⟩ | ⟨_, ht⟩ | ⟨h0, _⟩
    · cases h0
    · refine quiet_ok H h1 (eval_v hex ?_) (.sc _ rfl)
      rw [h2.scV.1]
      simp [Builtin.len_, hts', run_underlying ht, goInt]
    · cases h0
  · rcases ht with ⟨h0, _⟩ | ⟨h0, _⟩ | ⟨_, u, v, ht⟩
    · cases h0
    · cases h0
    · obtain ⟨es, b, e1, e2, e3, ⟨ms, e4, e5, _⟩, e6⟩ := rdM_ok H h1
      obtain ⟨b', e7, e8⟩ := h2.mpV
      rw [e7] at e2; injection e2 with e2; subst e2
      refine quiet_ok H e6 (eval_v hex ?_) (.sc _ rfl)
      rw [e8]
      have : es.1.length = ms.size := by rw [← e5]; simp
      simp [Builtin.len_, hts', run_underlying ht, goInt, run_getObj_map w b' ms es.2 e4, this]
  · exact (run_fail_ h1).elim
end
end Go.Pv

set_option linter.unusedSimpArgs false
set_option linter.unusedVariables false
namespace Go.Pv
variable {α : Type} {w0 : World} {mine : Mine} {N : Nat} {pb : List Nat} {gh : Gh} {s : St} {a : Act} {w : World} {g : Ora} {r : α × St} {P : Program} {own : Nat → Nat → Mode}

open Classical in
/-- the row 'n' lies in the blocks F now -/
noncomputable def Gh.setA (gh : Gh) (n : Nat) (ai : AI) (F : BSet) : Gh :=
  { gh with ai := fun m => if m = n then some ai else gh.ai m, own := fun x => if F x then some (.a n) else if gh.own x = some (.a n) then none else gh.own x }
section
variable [Glb]
theorem Inv.setA (H : Inv w0 mine N pb gh s a w) {n : Nat} {ai : AI} {F : BSet} {xs : List (List V)} {w' : World}
    (hai : gh.ai n = none ∨ gh.ai n = some ai)
    (hF : ∀ x, F x → (gh.own x = none ∨ gh.own x = some (.a n)) ∧ ¬ gh.sh x ∧ x < w'.heap.size ∧ (x < w0.heap.size → mine x))
    (hheap : ∀ x, x < w.heap.size → ¬ F x → w'.heap[x]? = w.heap[x]?) (hsz : w.heap.size ≤ w'.heap.size)
    (hos : w'.os = w.os) (htape : w'.tape = w.tape) (hout : w'.output = w.output)
    (hrow : (xs = [] ∧ ai.cap = 0 ∧ ∀ x, ¬ F x) ∨
      OR gh.sh w'.heap (.ls true xs) (.slice (some ⟨ai.b, ai.base, none⟩) xs.length ai.cap) F ∧ (∀ cs : List V, cs ∈ xs → cs.length = ai.s) ∧ F ai.b ∧ (∃ c t, w'.heap[ai.b]? = some (.cells c t (0, 0)) ∧ ai.base + ai.cap * ai.s ≤ c.size))  (hss : SameSz w.heap w'.heap := by first | exact SameSz.refl _ | exact SameSz.alloc _ _) :
    Inv w0 mine N pb (gh.setA n ai F) (s.put (.a n) (.a false xs)) a w' := by
  have hown : ∀ x, (gh.setA n ai F).own x = some (.a n) ↔ F x := by
    intro x
    simp only [Gh.setA]
    split
    · simp [*]
    · rename_i hx
      simp only [hx, iff_false]
      split
      · simp
      · assumption
  have howne : ∀ q, q ≠ Res.a n → ∀ x, (gh.setA n ai F).own x = some q ↔ gh.own x = some q := by
    intro q hq x
    simp only [Gh.setA]
    split
    · rename_i hx
      constructor
      · intro e; injection e with e; exact absurd e.symm hq
      · intro e
        rcases (hF x hx).1 with h1 | h1
        · rw [h1] at e; cases e
        · rw [h1] at e; injection e with e; exact absurd e.symm hq
    · split
      · rename_i h1
        constructor
        · intro e; cases e
        · intro e; rw [h1] at e; injection e with e; exact absurd e.symm hq
      · exact Iff.rfl
  have hlt : ∀ x q, gh.own x = some q → q ≠ Res.a n → ¬ F x := by
    intro x q e1 e2 e3
    rcases (hF x e3).1 with h1 | h1
    · rw [h1] at e1; cases e1
    · rw [h1] at e1; injection e1 with e1; exact e2 e1.symm
  refine H.step (gh' := gh.setA n ai F) (w' := w') (fun q => q = .a n) (fun _ h => h) ?_ (fun _ _ h => h) ?_ (fun q hq x => howne q hq x) rfl rfl ?_ (fun _ _ => rfl) ?_ (fun _ _ => rfl) ?_ (fun m hm => by cases hm) ?_ (fun x m hm => by cases hm) ?_ ?_ ?_
  · intro m x hm
    simp only [Gh.setA]
    split
    · rename_i e; subst e
      rcases hai with h1 | h1
      · rw [h1] at hm; cases hm
      · rw [h1] at hm; injection hm with hm; rw [hm]
    · exact hm
  · intro x hx
    refine hheap x ?_ ?_
    · rcases hx with hx | ⟨q, hx, _⟩
      · exact H.sh x hx
      · exact (H.own x q hx).2.1
    · rcases hx with hx | ⟨q, hx, hq⟩
      · intro hf; exact (hF x hf).2.1 hx
      · exact hlt x q hx hq
  · intro m hm
    simp only [St.put, look_setA]
    rw [if_neg]
    intro e; apply hm; rw [e]
  · intro m hm
    simp only [Gh.setA]
    rw [if_neg]
    intro e; apply hm; rw [e]
  · intro m hm
    injection hm with hm
    subst hm
    refine ⟨.a false xs, ai, by simp [St.put, look_setA], by simp [Gh.setA], ?_⟩
    have hFe : (fun x => (gh.setA m ai F).own x = some (.a m)) = F := funext fun x => propext (hown x)
    simp only [CellA, RowOk]
    rcases hrow with ⟨e1, e2, e3⟩ | ⟨e1, e2, e3, e4⟩
    · exact .inl ⟨e1, e2, fun x hx => e3 x ((hown x).1 hx)⟩
    · refine .inr ⟨?_, e2, (hown _).2 e3, e4⟩
      rw [hFe]
      exact e1
  · intro x q hx
    by_cases hq : q = .a n
    · subst hq
      have := hF x ((hown x).1 hx)
      exact ⟨this.2.1, this.2.2⟩
    · have h1 := H.own x q ((howne q hq x).1 hx)
      exact ⟨h1.1, Nat.lt_of_lt_of_le h1.2.1 hsz, h1.2.2⟩
  · intro x m hx
    have := (howne (.t m) (by intro e; cases e) x).1 hx
    exact H.ownt x m this
  · intro x hx; exact Nat.lt_of_lt_of_le (H.sh x hx) hsz
  · refine ⟨Nat.le_trans H.frm.size hsz, ?_, by rw [hos]; exact H.frm.os, by rw [htape]; exact H.frm.tape, by rw [hout]; exact H.frm.output, H.frm.szs.trans hss⟩
    intro x hx hm
    rw [hheap x (Nat.lt_of_lt_of_le hx H.frm.size) (fun hf => hm ((hF x hf).2.2.2 hx))]
    exact H.frm.keep x hx hm

end
theorem Gh.setA_own {n : Nat} {ai : AI} {F : BSet} (x : Nat) : (gh.setA n ai F).own x = some (.a n) ↔ F x := by
  simp only [Gh.setA]
  split
  · simp [*]
  · rename_i hx
    simp only [hx, iff_false]
    split
    · simp
    · assumption
section
variable [Glb]
theorem Inv.setC (H : Inv w0 mine N pb gh s a w) {n : Nat} {ai : AI} {F : BSet} {cc : Cell} {w' : World}
    (hai : gh.ai n = none ∨ gh.ai n = some ai)
    (hF : ∀ x, F x → (gh.own x = none ∨ gh.own x = some (.a n)) ∧ ¬ gh.sh x ∧ x < w'.heap.size ∧ (x < w0.heap.size → mine x))
    (hheap : ∀ x, x < w.heap.size → ¬ F x → w'.heap[x]? = w.heap[x]?) (hsz : w.heap.size ≤ w'.heap.size)
    (hos : w'.os = w.os) (htape : w'.tape = w.tape) (hout : w'.output = w.output)
    (hrow : CellA (gh.setA n ai F) w'.heap n ai cc)  (hss : SameSz w.heap w'.heap := by first | exact SameSz.refl _ | exact SameSz.alloc _ _) :
    Inv w0 mine N pb (gh.setA n ai F) (s.put (.a n) cc) a w' := by
  have hput : (s.put (.a n) cc) = { s with ar := Go.Pv.setA s.ar n cc } := rfl
  rw [hput]
  have hown : ∀ x, (gh.setA n ai F).own x = some (.a n) ↔ F x := by
    intro x
    simp only [Gh.setA]
    split
    · simp [*]
    · rename_i hx
      simp only [hx, iff_false]
      split
      · simp
      · assumption
  have howne : ∀ q, q ≠ Res.a n → ∀ x, (gh.setA n ai F).own x = some q ↔ gh.own x = some q := by
    intro q hq x
    simp only [Gh.setA]
    split
    · rename_i hx
      constructor
      · intro e; injection e with e; exact absurd e.symm hq
      · intro e
        rcases (hF x hx).1 with h1 | h1
        · rw [h1] at e; cases e
        · rw [h1] at e; injection e with e; exact absurd e.symm hq
    · split
      · rename_i h1
        constructor
        · intro e; cases e
        · intro e; rw [h1] at e; injection e with e; exact absurd e.symm hq
      · exact Iff.rfl
  have hlt : ∀ x q, gh.own x = some q → q ≠ Res.a n → ¬ F x := by
    intro x q e1 e2 e3
    rcases (hF x e3).1 with h1 | h1
    · rw [h1] at e1; cases e1
    · rw [h1] at e1; injection e1 with e1; exact e2 e1.symm
  refine H.step (gh' := gh.setA n ai F) (w' := w') (fun q => q = .a n) (fun _ h => h) ?_ (fun _ _ h => h) ?_ (fun q hq x => howne q hq x) rfl rfl ?_ (fun _ _ => rfl) ?_ (fun _ _ => rfl) ?_ (fun m hm => by cases hm) ?_ (fun x m hm => by cases hm) ?_ ?_ ?_
  · intro m x hm
    simp only [Gh.setA]
    split
    · rename_i e; subst e
      rcases hai with h1 | h1
      · rw [h1] at hm; cases hm
      · rw [h1] at hm; injection hm with hm; rw [hm]
    · exact hm
  · intro x hx
    refine hheap x ?_ ?_
    · rcases hx with hx | ⟨q, hx, _⟩
      · exact H.sh x hx
      · exact (H.own x q hx).2.1
    · rcases hx with hx | ⟨q, hx, hq⟩
      · intro hf; exact (hF x hf).2.1 hx
      · exact hlt x q hx hq
  · intro m hm
    simp only [look_setA]
    rw [if_neg]
    intro e; apply hm; rw [e]
  · intro m hm
    simp only [Gh.setA]
    rw [if_neg]
    intro e; apply hm; rw [e]
  · intro m hm
    injection hm with hm
    subst hm
    exact ⟨cc, ai, by simp [look_setA], by simp [Gh.setA], hrow⟩
  · intro x q hx
    by_cases hq : q = .a n
    · subst hq
      have := hF x ((hown x).1 hx)
      exact ⟨this.2.1, this.2.2⟩
    · have h1 := H.own x q ((howne q hq x).1 hx)
      exact ⟨h1.1, Nat.lt_of_lt_of_le h1.2.1 hsz, h1.2.2⟩
  · intro x m hx
    have := (howne (.t m) (by intro e; cases e) x).1 hx
    exact H.ownt x m this
  · intro x hx; exact Nat.lt_of_lt_of_le (H.sh x hx) hsz
  · refine ⟨Nat.le_trans H.frm.size hsz, ?_, by rw [hos]; exact H.frm.os, by rw [htape]; exact H.frm.tape, by rw [hout]; exact H.frm.output, H.frm.szs.trans hss⟩
    intro x hx hm
    rw [hheap x (Nat.lt_of_lt_of_le hx H.frm.size) (fun hf => hm ((hF x hf).2.2.2 hx))]
    exact H.frm.keep x hx hm

end
open Classical in
noncomputable def Gh.kill (gh : Gh) (n : Nat) : Gh := { gh with own := fun x => if gh.own x = some (.a n) then none else gh.own x }
section
variable [Glb]
theorem Inv.kill (H : Inv w0 mine N pb gh s a w) {n : Nat} {ai : AI} (hn : gh.ai n = some ai) : Inv w0 mine N pb (gh.kill n) (s.put (.a n) .dead) a w := by
  have howne : ∀ q, q ≠ Res.a n → ∀ x, (gh.kill n).own x = some q ↔ gh.own x = some q := by
    intro q hq x
    simp only [Gh.kill]
    split
    · rename_i h1
      constructor
      · intro e; cases e
      · intro e; rw [h1] at e; injection e with e; exact absurd e.symm hq
    · exact Iff.rfl
  refine H.step (gh' := gh.kill n) (w' := w) (fun q => q = .a n) (fun _ h => h) (fun _ _ h => h) (fun _ _ h => h) (fun _ _ => rfl) (fun q hq x => howne q hq x) rfl rfl ?_ (fun _ _ => rfl) (fun _ _ => rfl) (fun _ _ => rfl) ?_ (fun m hm => by cases hm) ?_ (fun x m hm => by cases hm) ?_ H.sh H.frm
  · intro m hm
    simp only [St.put, look_setA]
    rw [if_neg]
    intro e; apply hm; rw [e]
  · intro m hm
    injection hm with hm
    subst hm
    refine ⟨.dead, ai, by simp [St.put, look_setA], hn, ?_⟩
    intro x
    simp only [Gh.kill]
    split
    · simp
    · assumption
  · intro x q hx
    by_cases hq : q = .a n
    · subst hq
      simp only [Gh.kill] at hx
      split at hx
      · cases hx
      · exact absurd hx ‹_›
    · exact H.own x q ((howne q hq x).1 hx)
  · intro x m hx
    exact H.ownt x m ((howne (.t m) (by intro e; cases e) x).1 hx)

end
open Classical in
/-- a variable in memory: new, or turned -/
noncomputable def Gh.setB (gh : Gh) (n b : Nat) : Gh :=
  { gh with bi := fun m => if m = n then some b else gh.bi m, own := fun x => if x = b then some (.b n) else gh.own x }
section
variable [Glb]
theorem Inv.setB (H : Inv w0 mine N pb gh s a w) {n b : Nat} {c : Cell} {w' : World}
    (hb : (gh.bi n = none ∧ gh.own b = none ∧ ¬ gh.sh b ∧ (b < w0.heap.size → mine b)) ∨ (gh.bi n = some b ∧ gh.own b = some (.b n)))
    (hheap : ∀ x, x < w.heap.size → x ≠ b → w'.heap[x]? = w.heap[x]?) (hsz : w.heap.size ≤ w'.heap.size) (hlt : b < w'.heap.size)
    (hos : w'.os = w.os) (htape : w'.tape = w.tape) (hout : w'.output = w.output)
    (hc : CellB (gh.setB n b) w'.heap b c)  (hss : SameSz w.heap w'.heap := by first | exact SameSz.refl _ | exact SameSz.alloc _ _):
    Inv w0 mine N pb (gh.setB n b) (s.put (.b n) c) a w' := by
  have hnew : gh.own b = none ∨ gh.own b = some (.b n) := by
    rcases hb with ⟨h1, h2⟩ | ⟨h1, h2⟩
    · exact .inl h2.1
    · exact .inr h2
  have hnsh : ¬ gh.sh b := by
    rcases hb with ⟨h1, h2⟩ | ⟨h1, h2⟩
    · exact h2.2.1
    · exact (H.own b _ h2).1
  have howne : ∀ q, q ≠ Res.b n → ∀ x, (gh.setB n b).own x = some q ↔ gh.own x = some q := by
    intro q hq x
    simp only [Gh.setB]
    split
    · rename_i e
      subst e
      constructor
      · intro e; injection e with e; exact absurd e.symm hq
      · intro e
        rcases hnew with h1 | h1
        · rw [h1] at e; cases e
        · rw [h1] at e; injection e with e; exact absurd e.symm hq
    · exact Iff.rfl
  refine H.step (gh' := gh.setB n b) (w' := w') (fun q => q = .b n) (fun _ h => h) (fun _ _ h => h) ?_ ?_ (fun q hq x => howne q hq x) ?_ ?_ ?_ ?_ (fun _ _ => rfl) ?_ (fun m hm => by cases hm) ?_ ?_ ?_ ?_ ?_ ?_
  · intro m x hm
    simp only [Gh.setB]
    split
    · rename_i e; subst e
      rcases hb with ⟨h1, _⟩ | ⟨h1, _⟩
      · rw [h1] at hm; cases hm
      · rw [h1] at hm; injection hm with hm; rw [hm]
    · exact hm
  · intro x hx
    refine hheap x ?_ ?_
    · rcases hx with hx | ⟨q, hx, _⟩
      · exact H.sh x hx
      · exact (H.own x q hx).2.1
    · rintro rfl
      rcases hx with hx | ⟨q, hx, hq⟩
      · exact hnsh hx
      · rcases hnew with h1 | h1
        · rw [h1] at hx; cases hx
        · rw [h1] at hx; injection hx with hx; exact hq hx.symm
  · simp [St.put]
  · simp [St.put]
  · intro m _; simp [St.put]
  · intro m hm
    simp only [St.put, look_setA]
    rw [if_neg]
    intro e; apply hm; rw [e]
  · intro m hm
    simp only [Gh.setB]
    rw [if_neg]
    intro e; apply hm; rw [e]
  · intro m hm
    injection hm with hm
    subst hm
    exact ⟨c, b, by simp [St.put, look_setA], by simp [Gh.setB], by simp [Gh.setB], hc⟩
  · intro x q hx
    by_cases hq : q = .b n
    · subst hq
      simp only [Gh.setB] at hx
      split at hx
      · rename_i e; subst e
        refine ⟨hnsh, hlt, ?_⟩
        intro h3
        rcases hb with ⟨h1, h2⟩ | ⟨h1, h2⟩
        · exact h2.2.2 h3
        · exact (H.own _ _ h2).2.2 h3
      · have h1 := H.own x _ hx
        exact ⟨h1.1, Nat.lt_of_lt_of_le h1.2.1 hsz, h1.2.2⟩
    · have h1 := H.own x q ((howne q hq x).1 hx)
      exact ⟨h1.1, Nat.lt_of_lt_of_le h1.2.1 hsz, h1.2.2⟩
  · intro x m hm hx
    injection hm with hm
    subst hm
    simp only [Gh.setB] at hx ⊢
    split at hx
    · rename_i e; simp [e]
    · have h1 := H.ownb x m hx
      rcases hb with ⟨h2, _⟩ | ⟨h2, _⟩
      · rw [h2] at h1; cases h1
      · rw [h2] at h1; simp; injection h1
  · intro x m hx
    exact H.ownt x m ((howne (.t m) (by intro e; cases e) x).1 hx)
  · intro x hx; exact Nat.lt_of_lt_of_le (H.sh x hx) hsz
  · refine ⟨Nat.le_trans H.frm.size hsz, ?_, by rw [hos]; exact H.frm.os, by rw [htape]; exact H.frm.tape, by rw [hout]; exact H.frm.output, H.frm.szs.trans hss⟩
    intro x hx hm
    rw [hheap x (Nat.lt_of_lt_of_le hx H.frm.size) ?_]
    · exact H.frm.keep x hx hm
    · rintro rfl
      rcases hb with ⟨h1, h2⟩ | ⟨h1, h2⟩
      · exact hm (h2.2.2 hx)
      · exact hm ((H.own _ _ h2).2.2 hx)
end
end Go.Pv

set_option linter.unusedSimpArgs false
set_option linter.unusedVariables false
namespace Go.Pv
variable {α : Type} {w0 : World} {mine : Mine} {N : Nat} {pb : List Nat} {gh : Gh} {s : St} {a : Act} {w : World} {g : Ora} {r : α × St} {P : Program} {own : Nat → Nat → Mode}

theorem newR_ok {q : Res} {k : M α} (h : (newR q k).run g s = some r) : s.get q = none ∧ k.run g s = some r := by
  simp only [newR, M.run] at h
  split at h
  · exact ⟨‹_›, h⟩
  · exact (run_fail_ h).elim
theorem alloc_heap (w : World) (o : Obj) (x : Nat) : (w.alloc o).heap[x]? = if x = w.heap.size then some o else w.heap[x]? := by
  simp only [World.alloc, Array.getElem?_push]
theorem RT.oneCell {gh : Gh} {h : Array Obj} {V : V} {v : Value} (H : RT gh h V v) (h1 : one1 V = true) : v.oneCell' = true := by
  cases H <;> first | assumption | rfl | (simp [one1] at h1) | skip
  case fz hf => obtain ⟨A, cap, rfl, _⟩ := hf.lsV; rfl
/-- a value, cell by cell -/
theorem cells_ok {gh : Gh} {h : Array Obj} {V : V} {v : Value} (H : RT gh h V v) : (cellsOf V).length = v.cells.size ∧ ∀ (i : Nat) (c : Pv.V) (x : Value), (cellsOf V)[i]? = some c → v.cells[i]? = some x → RT gh h c x := by
  cases V with
  | ag cs =>
    obtain ⟨vs, rfl, h1, h2⟩ := H.agV
    exact ⟨h1, h2⟩
  | _ =>
    have hc : v.cells = #[v] := by
      cases H <;> first
        | rfl
        | (cases v <;> first | rfl | (simp_all [Value.oneCell']; done))
        | (obtain ⟨A, cap, e, _⟩ := FR.lsV ‹FR _ _ _ _›; subst e; rfl)
    rw [hc]
    refine ⟨rfl, ?_⟩
    intro i c x h1 h2
    cases i with
    | zero => simp [cellsOf] at h1 h2; subst h1; subst h2; exact H
    | succ i => simp [cellsOf] at h1
theorem setB_mono {n b : Nat} (hb : gh.bi n = none ∨ gh.bi n = some b) {h h' : Array Obj} (hh : ∀ x, gh.sh x → h'[x]? = h[x]?) {V : V} {v : Value} (H : RT gh h V v) : RT (gh.setB n b) h' V v := by
  refine RT.mono (gh := gh) (gh' := gh.setB n b) (fun _ h => h) hh (fun _ _ h => h) ?_ H
  intro m x hm
  simp only [Gh.setB]
  split
  · rename_i e; subst e
    rcases hb with h1 | h1
    · rw [h1] at hm; cases hm
    · rw [h1] at hm; injection hm with hm; rw [hm]
  · exact hm
section
variable [Glb]
/-- a new variable in memory -/
theorem box_new (H : Inv w0 mine N pb gh s a w) {d : Nat} (hd : look s.bx d = none) {cs : List V} {vs : Array Value} (hl : cs.length = vs.size) (hr : ∀ (i : Nat) (c : V) (v : Value), cs[i]? = some c → vs[i]? = some v → RT gh w.heap c v) (t : TypeId) :
    Inv w0 mine N pb (gh.setB d w.heap.size) (s.put (.b d) (.b cs)) a (w.alloc (.cells vs t)) ∧ RT (gh.setB d w.heap.size) (w.alloc (.cells vs t)).heap (.bx d 0) (.pointer (some ⟨w.heap.size, 0, none⟩)) := by
  have h0 := H.bx0 d hd
  have hfr : gh.own w.heap.size = none := by
    cases h3 : gh.own w.heap.size with
    | none => rfl
    | some q => have := (H.own _ q h3).2.1; omega
  refine ⟨H.setB (.inl ⟨h0.1, hfr, fun h3 => by have := H.sh _ h3; omega, fun h3 => by have := H.frm.size; omega⟩) ?_ (by simp) (by simp) rfl rfl rfl ?_, .bx d 0 _ (by simp [Gh.setB])⟩
  · intro x h1 h2; rw [alloc_heap, if_neg h2]
  · refine ⟨vs, t, by rw [alloc_heap, if_pos rfl], hl, ?_⟩
    intro i c v h1 h2
    refine setB_mono (.inl h0.1) ?_ (hr i c v h1 h2)
    intro x hx
    have := H.sh x hx
    rw [alloc_heap, if_neg (by omega)]
theorem alloc_ok {o : Oper} {t : TypeId} {zs : List V} (ho : o.op = .alloc t) (hz : zeroT P t = some zs) : SemOK P own o (.alloc zs) := by
  intro α w0 mine N pb gh s a w g dst k r H h
  obtain ⟨h1, h2⟩ := newR_ok h
  obtain ⟨i, hi, h3⟩ := Option.bind_eq_some_iff.1 hz
  obtain ⟨z, hzz, h4⟩ := Option.bind_eq_some_iff.1 h3
  obtain ⟨l, h5, h6⟩ := Option.bind_eq_some_iff.1 h4
  split at h6
  · rename_i hl
    injection h6 with h6; subst h6
    have h7 := allSome_get h5
    have hlen : l.length = z.cells.size := by have := congrArg List.length h7; simpa using this.symm
    have hb := box_new H h1 (cs := l) (vs := z.cells) hlen (fun j c v hc hv => by
      refine vOf1_ok ?_ gh w.heap
      have := congrArg (·[j]?) h7
      simp [hc, hv] at this
      exact this) t
    refine ⟨_, _, _, _, _, h2, .inl ?_, hb.1, hb.2⟩
    simp [execOp, ho, Instr.alloc, zeroValue, run_info hi, hzz, newVar, newRow]
  · cases h6
theorem box_ok {o : Oper} {t : TypeId} {x : Operand} (ho : o.op = .box t x) : SemOK P own o (.box (arOf x)) := by
  intro α w0 mine N pb gh s a w g dst k r H h
  obtain ⟨V, h1, h2⟩ := get_ok H h
  obtain ⟨h3, h4⟩ := newR_ok h1
  obtain ⟨h5, h6⟩ := cells_ok h2
  have hb := box_new H h3 h5 h6 t
  refine ⟨_, _, _, _, _, h4, .inl ?_, hb.1, hb.2⟩
  simp [execOp, ho, Instr.box, newVar, newRow]
end
theorem setAt_get {β : Type} : ∀ (l ys : List β) (n i : Nat), (setAt l n ys)[i]? = if n ≤ i ∧ i < n + ys.length ∧ i < l.length then ys[i - n]? else l[i]?
  | [], ys, n, i => by cases ys <;> simp [setAt]
  | x :: l, [], n, i => by simp [setAt]; intro h1 h2; omega
  | x :: l, y :: ys, 0, i => by
    cases i with
    | zero => simp [setAt]
    | succ i => simp [setAt, setAt_get l ys 0 i]
  | x :: l, y :: ys, n + 1, i => by
    cases i with
    | zero => simp [setAt]
    | succ i => simp [setAt, setAt_get l (y :: ys) n i]; congr 1; simp; omega
theorem setAt_length {β : Type} : ∀ (l ys : List β) (n : Nat), (setAt l n ys).length = l.length
  | [], ys, n => by cases ys <;> simp [setAt]
  | x :: l, [], n => by simp [setAt]
  | x :: l, y :: ys, 0 => by simp [setAt, setAt_length l ys 0]
  | x :: l, y :: ys, n + 1 => by simp [setAt, setAt_length l (y :: ys) n]
theorem seg_get {β : Type} (l ys : List β) (n i : Nat) (h : n + ys.length ≤ l.length) : (l.take n ++ ys ++ l.drop (n + ys.length))[i]? = if n ≤ i ∧ i < n + ys.length then ys[i - n]? else l[i]? := by
  rw [List.append_assoc, List.getElem?_append]
  have hl : (l.take n).length = n := by simp; omega
  rw [hl]
  split
  · rename_i h1
    rw [if_neg (by omega), List.getElem?_take, if_pos h1]
  · rename_i h1
    rw [List.getElem?_append]
    split
    · rename_i h2
      rw [if_pos (by omega)]
    · rename_i h2
      rw [if_neg (by omega), List.getElem?_drop]
      congr 1
      omega
/-- cells are written side by side -/
theorem store_run {t : TypeId} {i : TypeInfo} (hi : P.info? t = some i) {b off : Nat} {c : Array Value} {ty : TypeId} (hb : w.heap[b]? = some (.cells c ty (0, 0))) {v : Value} (hs : v.cells.size = i.size) (hle : off + i.size ≤ c.size) (h1 : ∀ x ∈ v.cells.toList, x.oneCell' = true) :
    (Instr.storeAt t (.pointer (some ⟨b, off, none⟩)) v).run P w = .ok () (w.setRow b (c.toList.take off ++ v.cells.toList ++ c.toList.drop (off + v.cells.size)).toArray) := by
  have := run_storeCells_at (P := P) b off ty v.cells.toList 0 c w hb (by simp; omega) h1
  simp at this
  simp [Instr.storeAt, Instr.sureAddr, storeVar, run_size hi, hs, this]
section
variable [Glb]
theorem store_bx {o : Oper} {t : TypeId} {x y : Operand} {i : TypeInfo} (ho : o.op = .store t x y) (hi : P.info? t = some i) (H : Inv w0 mine N pb gh s a w) {n off : Nat} {V : V} (hx : RT gh w.heap (.bx n off) (a.eval x)) (hy : RT gh w.heap V (a.eval y))
    (hl : (cellsOf V).length = i.size) (h1 : (cellsOf V).all one1 = true) {k : Pv.V → M α} (h : (rdB n fun cs => if off + i.size ≤ cs.length then .wr (.b n) (.b (setAt cs off (cellsOf V))) (k (.tu [])) else .fail).run g s = some r) :
    ∃ gh' s1 V v w', (k V).run g s1 = some r ∧ OpVal P o a w v w' ∧ Inv w0 mine N pb gh' s1 a w' ∧ RT gh' w'.heap V v := by
  obtain ⟨cs, b, e1, e2, e3, ⟨vs, ty, e4, e5, e6⟩, e7⟩ := rdB_ok H h
  obtain ⟨b', e8, e9⟩ := hx.bxV
  rw [e8] at e2; injection e2 with e2; subst e2
  split at e7
  · rename_i hle
    obtain ⟨c1, c2⟩ := cells_ok hy
    have hs : (a.eval y).cells.size = i.size := by rw [← c1, hl]
    have hone : ∀ u ∈ (a.eval y).cells.toList, u.oneCell' = true := by
      intro u hu
      obtain ⟨j, hj, rfl⟩ := List.mem_iff_getElem.1 hu
      have hj' : j < (cellsOf V).length := by rw [c1]; simpa using hj
      have hr := c2 j _ ((a.eval y).cells.toList[j]) (List.getElem?_eq_getElem hj') (by rw [← Array.getElem?_toList]; exact List.getElem?_eq_getElem hj)
      exact hr.oneCell (List.all_eq_true.1 h1 _ (List.getElem_mem hj'))
    have hrun := store_run (P := P) (w := w) hi e4 hs (show off + i.size ≤ vs.size by omega) hone
    refine ⟨_, _, .tu [], undef, w.setRow b' (vs.toList.take off ++ (a.eval y).cells.toList ++ vs.toList.drop (off + (a.eval y).cells.size)).toArray, e7, .inr ⟨rfl, ?_⟩, H.setB (n := n) (b := b') (.inr ⟨e8, e3⟩) (fun z _ hz => setRow_other w b' z _ hz) (by simp) (by simp [(H.own _ _ e3).2.1]) rfl rfl rfl ?_ (.setRow e4 (by simp [hs]; omega)), RT.undef⟩
    · simp [execOp, ho, e9, hrun]
    · refine ⟨_, ty, setRow_heap w b' vs _ ty (0, 0) e4, by simp [setAt_length, hs]; omega, ?_⟩
      intro j c v hc hv
      refine setB_mono (.inr e8) (h := w.heap) ?_ ?_
      · intro z hz
        exact setRow_other w b' z _ (fun e => (H.own _ _ e3).1 (e ▸ hz))
      · rw [setAt_get] at hc
        simp only [List.getElem?_toArray] at hv
        rw [show (a.eval y).cells.size = (a.eval y).cells.toList.length by simp, seg_get _ _ _ _ (by simp; omega)] at hv
        simp only [Array.length_toList] at hv
        split at hc
        · rename_i hin
          rw [if_pos (by omega)] at hv
          exact c2 _ c v hc (by simpa using hv)
        · rename_i hin
          rw [if_neg (by intro hh; apply hin; rw [hl]; refine ⟨hh.1, by omega, by omega⟩)] at hv
          exact e6 j c v hc (by simpa using hv)
  · exact (run_fail_ e7).elim
end
end Go.Pv

set_option linter.unusedSimpArgs false
set_option linter.unusedVariables false
namespace Go.Pv
variable {α : Type} {w0 : World} {mine : Mine} {N : Nat} {pb : List Nat} {gh : Gh} {s : St} {a : Act} {w : World} {g : Ora} {r : α × St} {P : Program} {own : Nat → Nat → Mode}

mutual
/-- a value that goes from one to the other: rows written out; 'Fs': where the rows lie that are handed over, in order -/
inductive XR (sh : BSet) (h : Array Obj) (bi : Nat → Option Nat) : V → Value → List BSet → Prop where
  | sc (v : Value) : v.oneCell' = true → XR sh h bi (.sc v) v []
  | fz (xs : List (List V)) (x : Value) : FR sh h (.ls false xs) x → XR sh h bi (.ls false xs) x []
  | own (xs : List (List V)) (x : Value) (F : BSet) : OR sh h (.ls true xs) x F → XR sh h bi (.ls true xs) x [F]
  | ag (cs : List V) (vs : Array Value) (Fs : List BSet) : XRL sh h bi cs vs.toList Fs → XR sh h bi (.ag cs) (.agg vs) Fs
  | tu (cs : List V) (vs : Array Value) (Fs : List BSet) : XRL sh h bi cs vs.toList Fs → XR sh h bi (.tu cs) (.tuple vs) Fs
  | bx (n off b : Nat) : bi n = some b → XR sh h bi (.bx n off) (.pointer (some ⟨b, off, none⟩)) []
  | fn (f : Nat) (cs : List V) (vs : Array Value) : cs.all cap1 = true → XRL sh h bi cs vs.toList [] → XR sh h bi (.fn f cs) (.func (.func f) #[] vs) []
  | mp (n b : Nat) : bi n = some b → XR sh h bi (.mp n) (.map (some b)) []
inductive XRL (sh : BSet) (h : Array Obj) (bi : Nat → Option Nat) : List V → List Value → List BSet → Prop where
  | nil : XRL sh h bi [] [] []
  | cons (v : V) (l : List V) (x : Value) (xs : List Value) (Fs Gs : List BSet) : XR sh h bi v x Fs → XRL sh h bi l xs Gs → XRL sh h bi (v :: l) (x :: xs) (Fs ++ Gs)
end
def Disj (F G : BSet) : Prop := ∀ x, F x → ¬ G x
/-- what the handing over of rows has done -/
structure Step (gh : Gh) (s : St) (gh' : Gh) (s' : St) (Fs : List BSet) : Prop where
  sh : gh'.sh = gh.sh
  ai : gh'.ai = gh.ai
  bi : gh'.bi = gh.bi
  sub : ∀ x q, gh'.own x = some q → gh.own x = some q
  bown : ∀ x n, gh.own x = some (.b n) → gh'.own x = some (.b n)
  live : ∀ n fz xs, look s'.ar n = some (.a fz xs) → look s.ar n = some (.a fz xs) ∧ ∀ x, gh.own x = some (.a n) → gh'.own x = some (.a n)
  free : ∀ F, F ∈ Fs → ∀ x, F x → gh'.own x = none ∧ ∃ n, gh.own x = some (.a n)
  disj : Fs.Pairwise Disj
  tm : s'.tm = s.tm
  np : s'.np = s.np
  bxd : ∀ n, look s.bx n = some .dead → look s'.bx n = some .dead
  bx0 : ∀ n, look s'.bx n = none ↔ look s.bx n = none
  ar0 : ∀ n, look s'.ar n = none ↔ look s.ar n = none
theorem Step.refl (gh : Gh) (s : St) : Step gh s gh s [] :=
  { sh := rfl, ai := rfl, bi := rfl, sub := fun _ _ h => h, bown := fun _ _ h => h, live := fun _ _ _ h => ⟨h, fun _ h => h⟩, free := fun F hF => absurd hF (by simp), disj := List.Pairwise.nil, tm := rfl, np := rfl, bxd := fun _ h => h, bx0 := fun _ => Iff.rfl, ar0 := fun _ => Iff.rfl }
theorem Step.trans {gh gh1 gh2 : Gh} {s s1 s2 : St} {Fs Gs : List BSet} (h1 : Step gh s gh1 s1 Fs) (h2 : Step gh1 s1 gh2 s2 Gs) : Step gh s gh2 s2 (Fs ++ Gs) where
  sh := h2.sh.trans h1.sh
  ai := h2.ai.trans h1.ai
  bi := h2.bi.trans h1.bi
  sub := fun x q h => h1.sub x q (h2.sub x q h)
  bown := fun x n h => h2.bown x n (h1.bown x n h)
  live := fun n fz xs h => by
    obtain ⟨e1, e2⟩ := h2.live n fz xs h
    obtain ⟨e3, e4⟩ := h1.live n fz xs e1
    exact ⟨e3, fun x hx => e2 x (e4 x hx)⟩
  free := fun F hF x hx => by
    rcases List.mem_append.1 hF with h | h
    · obtain ⟨e1, e2⟩ := h1.free F h x hx
      refine ⟨?_, e2⟩
      cases h3 : gh2.own x with
      | none => rfl
      | some q => rw [h2.sub x q h3] at e1; cases e1
    · obtain ⟨e1, n, e2⟩ := h2.free F h x hx
      exact ⟨e1, n, h1.sub x _ e2⟩
  disj := by
    refine List.pairwise_append.2 ⟨h1.disj, h2.disj, ?_⟩
    intro F hF G hG x hx hy
    obtain ⟨e1, _⟩ := h1.free F hF x hx
    obtain ⟨_, n, e2⟩ := h2.free G hG x hy
    rw [e1] at e2; cases e2
  tm := h2.tm.trans h1.tm
  np := h2.np.trans h1.np
  bxd := fun n h => h2.bxd n (h1.bxd n h)
  bx0 := fun n => (h2.bx0 n).trans (h1.bx0 n)
  ar0 := fun n => (h2.ar0 n).trans (h1.ar0 n)
theorem RT.congr {gh gh' : Gh} (h1 : gh'.sh = gh.sh) (h2 : gh'.ai = gh.ai) (h3 : gh'.bi = gh.bi) {h : Array Obj} {V : V} {v : Value} (H : RT gh h V v) : RT gh' h V v :=
  H.mono (by rw [h1]; exact fun _ h => h) (fun _ _ => rfl) (by rw [h2]; exact fun _ _ h => h) (by rw [h3]; exact fun _ _ h => h)
theorem sub_get {xs : List (List V)} {off len i : Nat} {cs : List V} (h : (sub xs off len)[i]? = some cs) : xs[off + i]? = some cs ∧ i < len := by
  simp only [sub, List.getElem?_take] at h
  split at h
  · exact ⟨by simpa using h, ‹_›⟩
  · cases h
theorem sub_length {xs : List (List V)} {off len : Nat} (h : off + len ≤ xs.length) : (sub xs off len).length = len := by simp [sub]; omega
/-- a part of a row of one's own -/
theorem RowOk.subO {n : Nat} {ai : AI} {xs : List (List V)} {h : Array Obj} (H : RowOk gh h n ai false xs) {off len c : Nat} {A : Option Addr} (hlen : off + len ≤ xs.length) (h1 : len ≤ c) (h2 : off + c ≤ ai.cap) (h3 : c = 0 ∨ A = some ⟨ai.b, ai.base + off * ai.s, none⟩) (hne : (off = 0 ∧ len = xs.length) ∨ 0 < len) :
    ∃ F, OR gh.sh h (.ls true (sub xs off len)) (.slice A len c) F ∧ (∀ x, F x → gh.own x = some (.a n)) ∧ (∀ cs : List V, cs ∈ sub xs off len → cs.length = ai.s) ∧
      (c ≠ 0 → F ai.b ∧ ∃ cl t, h[ai.b]? = some (.cells cl t (0, 0)) ∧ ai.base + off * ai.s + c * ai.s ≤ cl.size) := by
  rcases H with ⟨rfl, hc, hx⟩ | ⟨e1, e2, e3, cl, ty, e4, e5⟩
  · simp at hlen
    obtain ⟨rfl, rfl⟩ := hlen
    have hc0 : c = 0 := by omega
    subst hc0
    exact ⟨noB, by simpa [sub] using OR.nil A noB (fun _ h => h), fun x h => h.elim, by simp [sub], fun h => absurd rfl h⟩
  · by_cases hc0 : c = 0
    · subst hc0
      have hl0 : len = 0 := by omega
      subst hl0
      exact ⟨noB, by simpa [sub] using OR.nil A noB (fun _ h => h), fun x h => h.elim, by simp [sub], fun h => absurd rfl h⟩
    · have hA := h3.resolve_left hc0
      subst hA
      have hsl := sub_length hlen
      have hmem : ∀ cs : List V, cs ∈ sub xs off len → cs.length = ai.s := by
        intro cs hcs
        obtain ⟨i, hi⟩ := List.getElem?_of_mem hcs
        exact e2 cs (List.mem_of_getElem? (sub_get hi).1)
      generalize hF : (fun x => gh.own x = some (Res.a n)) = F at e1
      generalize hX : Value.slice (some ⟨ai.b, ai.base, none⟩) xs.length ai.cap = X at e1
      cases e1 with
      | nil A _ e =>
        injection hX with q1 q2 q3
        omega
      | own _ b' base' s' cap' cl' t f Fs _ f0 f1 f2 f3 f4 f5 f6 f7 f8 f9 f10 f11 =>
        injection hX with q1 q2 q3
        injection q1 with q1
        injection q1 with q1 q4 q5
        subst q1 q4 q3
        rw [f1] at e4; injection e4 with e4; injection e4 with e4 e6; subst e4 e6
        have hs : s' = ai.s ∨ xs = [] := by
          cases xs with
          | nil => exact .inr rfl
          | cons y ys => left; rw [← f4 0 y rfl, e2 y (by simp)]
        refine ⟨fun x => x = ai.b ∨ ∃ i j, i < len ∧ j < ai.s ∧ Fs (off + i) j x, ?_, ?_, hmem, fun _ => ⟨.inl rfl, cl', t, f1, ?_⟩⟩
        · have := OR.own (sh := gh.sh) (h := h) (sub xs off len) ai.b (ai.base + off * ai.s) ai.s c cl' t (fun i j => f (off + i) j) (fun i j => Fs (off + i) j) (fun x => x = ai.b ∨ ∃ i j, i < len ∧ j < ai.s ∧ Fs (off + i) j x) (by intro e; have := congrArg List.length e; rw [hsl] at this; simp at this; subst this; rcases hne with ⟨_, h0⟩ | h0; exact f0 (List.eq_nil_of_length_eq_zero h0.symm); omega) f1 (by omega) ?_ ?_ ?_ ?_ f7 (.inl rfl) ?_ ?_ ?_
          · rw [hsl] at this; exact this
          · calc ai.base + off * ai.s + c * ai.s = ai.base + (off + c) * ai.s := by rw [Nat.add_mul]; omega
              _ ≤ ai.base + ai.cap * ai.s := Nat.add_le_add_left (Nat.mul_le_mul_right _ h2) _
              _ ≤ cl'.size := e5
          · intro i cs hi; exact hmem cs (List.mem_of_getElem? hi)
          · intro i cs j v hi hj
            have hi' := (sub_get hi).1
            have hs' : s' = ai.s := hs.resolve_right (by rintro rfl; simp at hi')
            rw [show ai.base + off * ai.s + i * ai.s + j = ai.base + (off + i) * ai.s + j by rw [Nat.add_mul]; omega, ← hs']
            exact f5 _ cs j v hi' hj
          · intro i cs j v hi hj; exact f6 _ cs j v (sub_get hi).1 hj
          · intro i j x hi hj hx
            rw [hsl] at hi
            refine ⟨.inr ⟨i, j, hi, hj, hx⟩, ?_⟩
            have hs' : s' = ai.s := hs.resolve_right (by rintro rfl; simp at hlen; omega)
            exact (f9 (off + i) j x (by omega) (by omega) hx).2
          · intro i j i' j' x hi hj hi' hj' hx hx'
            rw [hsl] at hi hi'
            have hs' : s' = ai.s := hs.resolve_right (by rintro rfl; simp at hlen; omega)
            have := f10 (off + i) j (off + i') j' x (by omega) (by omega) (by omega) (by omega) hx hx'
            omega
          · intro x hx
            rcases hx with rfl | ⟨i, j, hi, hj, hx⟩
            · exact .inl rfl
            · exact .inr ⟨i, j, by omega, hj, hx⟩
        · intro x hx
          have hFx : ∀ x, F x → gh.own x = some (.a n) := fun x h => by rw [← hF] at h; exact h
          rcases hx with rfl | ⟨i, j, hi, hj, hx⟩
          · exact hFx _ f8
          · have hs' : s' = ai.s := hs.resolve_right (by rintro rfl; simp at hlen; omega)
            exact hFx _ (f9 (off + i) j x (by omega) (by omega) hx).1
        · calc ai.base + off * ai.s + c * ai.s = ai.base + (off + c) * ai.s := by rw [Nat.add_mul]; omega
            _ ≤ ai.base + ai.cap * ai.s := Nat.add_le_add_left (Nat.mul_le_mul_right _ h2) _
            _ ≤ cl'.size := e5
/-- a part of a row that is held -/
theorem RowOk.subF {n : Nat} {ai : AI} {xs : List (List V)} {h : Array Obj} (H : RowOk gh h n ai true xs) {off len c : Nat} {A : Option Addr} (hlen : off + len ≤ xs.length) (h1 : len ≤ c) (h2 : off + c ≤ ai.cap) (h3 : c = 0 ∨ A = some ⟨ai.b, ai.base + off * ai.s, none⟩) (o : Bool) :
    FR gh.sh h (.ls o (sub xs off len)) (.slice A len c) := by
  obtain ⟨e1, e2⟩ := H
  by_cases hl0 : len = 0
  · subst hl0
    have : sub xs off 0 = [] := by simp [sub]
    rw [this]
    exact .nil o A c
  · have hA := h3.resolve_left (by omega)
    subst hA
    have hsl := sub_length hlen
    generalize hX : Value.slice (some ⟨ai.b, ai.base, none⟩) xs.length ai.cap = X at e1
    cases e1 with
    | nil _ A cap => simp at hlen; omega
    | ls _ _ b base s' cap' cl f hb hcc hl' f1 f2 f3 =>
      injection hX with q1 q2 q3
      injection q1 with q1
      injection q1 with q1 q4 q5
      subst q1 q4 q3
      have hi0 : xs[off]? = some (xs[off]'(by omega)) := List.getElem?_eq_getElem _
      have hs : s' = ai.s := by rw [← f1 _ _ hi0, e2 _ (List.mem_of_getElem? hi0)]
      subst hs
      have := FR.ls (sh := gh.sh) (h := h) o (sub xs off len) ai.b (ai.base + off * ai.s) ai.s c cl (fun i j => f (off + i) j) hb hcc (by omega)
        (fun i cs hi => f1 _ cs (sub_get hi).1)
        (fun i cs j v hi hj => by rw [show ai.base + off * ai.s + i * ai.s + j = ai.base + (off + i) * ai.s + j by rw [Nat.add_mul]; omega]; exact f2 _ cs j v (sub_get hi).1 hj)
        (fun i cs j v hi hj => f3 _ cs j v (sub_get hi).1 hj)
      rw [hsl] at this
      exact this
/-- what one's own part is to whoever only looks -/
theorem RowOk.subS {n : Nat} {ai : AI} {xs : List (List V)} {h : Array Obj} (H : RowOk gh h n ai false xs) {off len c : Nat} {A : Option Addr} (hlen : off + len ≤ xs.length) (h1 : len ≤ c) (h2 : off + c ≤ ai.cap) (h3 : c = 0 ∨ A = some ⟨ai.b, ai.base + off * ai.s, none⟩)
    {sh2 : BSet} (hs : ∀ x, gh.sh x → sh2 x) (ho : ∀ x, gh.own x = some (.a n) → sh2 x) : FR sh2 h (.ls false (frzR (sub xs off len))) (.slice A len c) := by
  by_cases hl : 0 < len
  · obtain ⟨F, e1, e2, _⟩ := H.subO hlen h1 h2 h3 (.inr hl)
    exact (e1.toFR hs fun b hb => ho b (e2 b hb)).frz
  · have : len = 0 := by omega
    subst this
    have : sub xs off 0 = [] := by simp [sub]
    rw [this]
    exact .nil false A c
section
variable [Glb]
theorem rdS_ok (H : Inv w0 mine N pb gh s a w) {n off len : Nat} {k : Bool → List (List V) → M α} (h : (rdS n off len k).run g s = some r) :
    ∃ fz xs ai, look s.ar n = some (.a fz xs) ∧ gh.ai n = some ai ∧ RowOk gh w.heap n ai fz xs ∧ off + len ≤ xs.length ∧ (k fz (sub xs off len)).run g s = some r := by
  obtain ⟨fz, xs, ai, e1, e2, e3, e4⟩ := rdA_ok H h
  obtain ⟨e5, e6⟩ := chk_ok e4
  exact ⟨fz, xs, ai, e1, e2, e3, by simpa using e5, e6⟩
/-- a row's name is given up -/
theorem Step.kill (H : Inv w0 mine N pb gh s a w) {n : Nat} {fz : Bool} {xs : List (List V)} (hl : look s.ar n = some (.a fz xs)) {F : BSet} (hF : ∀ x, F x → gh.own x = some (.a n)) : Step gh s (gh.kill n) (s.put (.a n) .dead) [F] where
  sh := rfl
  ai := rfl
  bi := rfl
  sub := fun x q hx => by
    simp only [Gh.kill] at hx
    split at hx
    · cases hx
    · exact hx
  bown := fun x m hx => by simp [Gh.kill, hx]
  live := fun m fz' xs' hm => by
    simp only [St.put, look_setA] at hm
    split at hm
    · cases hm
    · rename_i hne
      refine ⟨hm, fun x hx => ?_⟩
      simp only [Gh.kill]
      rw [if_neg]
      · exact hx
      · rw [hx]; intro e; injection e with e; injection e with e; exact hne e.symm
  free := fun G hG x hx => by
    simp at hG; subst hG
    exact ⟨by simp [Gh.kill, hF x hx], n, hF x hx⟩
  disj := List.pairwise_singleton _ _
  tm := rfl
  np := rfl
  bxd := fun _ h => h
  bx0 := fun _ => Iff.rfl
  ar0 := fun m => by
    simp only [St.put, look_setA]
    split
    · rename_i e; subst e; simp [hl]
    · exact Iff.rfl
end
/-- what is told of the rows that are handed over -/
def ExpX (o : Bool) (s : St) (U U' : V) : Prop := o = true → (∀ a off len, U = .rf a off len → ∃ fz xs, look s.ar a = some (.a fz xs) ∧ (fz = false → U' = .ls true (sub xs off len))) ∧
  (∀ cs, U = .ag cs → ∃ cs', U' = .ag cs' ∧ ∀ (j a off len : Nat), cs[j]? = some (.rf a off len) → ∃ fz xs, look s.ar a = some (.a fz xs) ∧ (fz = false → cs'[j]? = some (.ls true (sub xs off len))))
theorem ExpX.no {o : Bool} {s : St} {U U' : V} (h : ∀ a off len, U ≠ .rf a off len) (h2 : ∀ cs, U ≠ .ag cs) : ExpX o s U U' :=
  fun _ => ⟨fun a off len e => absurd e (h a off len), fun cs e => absurd e (h2 cs)⟩
theorem ExpX.sh {o : Bool} {s : St} {U U' : V} (h : o = false) : ExpX o s U U' := fun ho => by rw [h] at ho; cases ho
theorem ExpX.fz {o : Bool} {s : St} {U U' : V} (a off len : Nat) (xs : List (List V)) (h : look s.ar a = some (.a true xs)) (hU : U = .rf a off len) : ExpX o s U U' := by
  subst hU
  exact fun _ => ⟨(fun a' off' len' e => by injection e with e1 e2 e3; subst e1; exact ⟨true, xs, h, (fun h => by cases h)⟩), (fun cs e => by cases e)⟩
theorem ExpX.yes {o : Bool} {s : St} {U U' : V} (a off len : Nat) (xs : List (List V)) (h : look s.ar a = some (.a false xs)) (hU : U = .rf a off len) (hU' : U' = .ls true (sub xs off len)) : ExpX o s U U' := by
  subst hU; subst hU'
  exact fun _ => ⟨(fun a' off' len' e => by injection e with e1 e2 e3; subst e1; subst e2; subst e3; exact ⟨false, xs, h, fun _ => rfl⟩), (fun cs e => by cases e)⟩
section
variable [Glb]
mutual
theorem exp_ok (o : Bool) : ∀ (V : V) (α : Type) (gh : Gh) (s : St) (r : α × St) (v : Value) (k : Pv.V → List Nat → M α), Inv w0 mine N pb gh s a w → RT gh w.heap V v → (exp o V k).run g s = some r →
    ∃ gh' s' V' l Fs, (k V' l).run g s' = some r ∧ Inv w0 mine N pb gh' s' a w ∧ Step gh s gh' s' Fs ∧ (o = true → l = []) ∧ ExpX o s V V' ∧ (l = [] ∨ ∀ n ∈ l, ∃ c, look s.ar n = some c) ∧
      ∀ sh2 : BSet, (∀ x, gh.sh x → sh2 x) → (∀ n ∈ l, ∀ x, gh.own x = some (.a n) → sh2 x) → (∀ F ∈ Fs, ∀ x, F x → ¬ sh2 x) → XR sh2 w.heap gh.bi V' v Fs
  | .sc x, α, gh, s, r, v, k, H, hv, h => ⟨gh, s, .sc x, [], [], h, H, .refl gh s, fun _ => rfl, .no (by intro a off len h; cases h) (by intro cs h; cases h), .inl rfl, fun sh2 _ _ _ => by rw [hv.scV.1]; exact .sc x hv.scV.2⟩
  | .ls ow xs, α, gh, s, r, v, k, H, hv, h => by
    refine ⟨gh, s, .ls ow xs, [], if ow then [noB] else [], h, H, ?_, fun _ => rfl, .no (by intro a off len h; cases h) (by intro cs h; cases h), .inl rfl, ?_⟩
    · cases ow with
      | false => exact .refl gh s
      | true => exact { Step.refl gh s with free := fun F hF x hx => by simp at hF; subst hF; exact hx.elim, disj := List.pairwise_singleton _ _ }
    · intro sh2 h1 h2 h3
      rcases hv.lsV with ⟨rfl, hf⟩ | ⟨rfl, rfl, A, rfl⟩
      · exact .fz xs v (hf.mono h1 fun _ _ => rfl)
      · exact .own [] _ noB (.nil A noB fun _ h => h)
  | .rf n off len, α, gh, s, r, v, k, H, hv, h => by
    obtain ⟨ai, A, c, e1, e2, e3, e4, rfl⟩ := hv.rfV
    simp only [exp] at h
    obtain ⟨fz, xs, ai', e6, e7, e8, e9, e10⟩ := rdS_ok H h
    rw [e1] at e7; injection e7 with e7; subst e7
    split at e10
    · rename_i hc
      simp at hc
      obtain ⟨rfl, rfl⟩ := hc
      obtain ⟨fz', xs', ai', g1, g2, g3, g4⟩ := rdA_ok H e10
      obtain ⟨g5, e10⟩ := chk_ok g4
      rw [e6] at g1; injection g1 with g1; injection g1 with g1 g6; subst g6
      obtain ⟨F, f1, f2, f3, f4⟩ := e8.subO e9 e2 e3 e4 (by simpa using g5)
      refine ⟨_, _, _, _, [F], e10, H.kill e1, Step.kill H e6 f2, fun _ => rfl, .yes n off len xs e6 rfl rfl, .inl rfl, ?_⟩
      intro sh2 h1 h2 h3
      exact .own _ _ F (f1.mono h1 (fun _ _ => rfl) fun b hb => ⟨rfl, h3 F (by simp) b hb⟩)
    · rename_i hc
      cases fz with
      | true =>
        refine ⟨gh, s, _, _, [], e10, H, .refl gh s, fun _ => rfl, .fz n off len xs e6 rfl, .inl rfl, ?_⟩
        intro sh2 h1 h2 h3
        exact .fz _ _ ((e8.subF e9 e2 e3 e4 false).mono h1 fun _ _ => rfl).frz
      | false =>
        refine ⟨gh, s, _, _, [], e10, H, .refl gh s, fun ho => absurd (by simp [ho]) hc, .sh (by cases o with | false => rfl | true => exact absurd (by simp) hc), .inr fun m hm => ?_, ?_⟩
        · simp at hm; subst hm; exact ⟨_, e6⟩
        · intro sh2 h1 h2 h3
          exact .fz _ _ (e8.subS e9 e2 e3 e4 h1 (h2 n (by simp)))
  | .ag cs, α, gh, s, r, v, k, H, hv, h => by
    obtain ⟨vs, rfl, h1, h2⟩ := hv.agV
    obtain ⟨gh', s', V', l, Fs, e1, e2, e3, e4, eL, e5, e6⟩ := expL_ok o cs α gh s r vs.toList (fun r l => k (.ag r) l) H (by simpa using h1) (fun i c v hc hv => h2 i c v hc (by simpa using hv)) h
    exact ⟨gh', s', .ag V', l, Fs, e1, e2, e3, e4, (fun ho => ⟨(fun a off len e => by cases e), (fun cs' e => by injection e with e; subst e; exact ⟨V', rfl, eL ho⟩)⟩), e5, fun sh2 f1 f2 f3 => .ag _ _ _ (e6 sh2 f1 f2 f3)⟩
  | .tu cs, α, gh, s, r, v, k, H, hv, h => by
    obtain ⟨vs, rfl, h1, h2⟩ := hv.tuV
    obtain ⟨gh', s', V', l, Fs, e1, e2, e3, e4, eL, e5, e6⟩ := expL_ok o cs α gh s r vs.toList (fun r l => k (.tu r) l) H (by simpa using h1) (fun i c v hc hv => h2 i c v hc (by simpa using hv)) h
    exact ⟨gh', s', .tu V', l, Fs, e1, e2, e3, e4, .no (by intro a off len h; cases h) (by intro cs h; cases h), e5, fun sh2 f1 f2 f3 => .tu _ _ _ (e6 sh2 f1 f2 f3)⟩
  | .bx n off, α, gh, s, r, v, k, H, hv, h => ⟨gh, s, .bx n off, [], [], h, H, .refl gh s, fun _ => rfl, .no (by intro a off len h; cases h) (by intro cs h; cases h), .inl rfl, fun sh2 _ _ _ => by obtain ⟨b, h1, rfl⟩ := hv.bxV; exact .bx n off b h1⟩
  | .ep _ _ _, α, gh, s, r, v, k, H, hv, h => (run_fail_ h).elim
  | .fp _ _ _, α, gh, s, r, v, k, H, hv, h => (run_fail_ h).elim
  | .fn f cs, α, gh, s, r, v, k, H, hv, h => by
    obtain ⟨vs, rfl, h1, h2⟩ := hv.fnV
    obtain ⟨h3, h4⟩ := chk_ok h
    refine ⟨gh, s, .fn f cs, [], [], h4, H, .refl gh s, fun _ => rfl, .no (by intro a off len h; cases h) (by intro cs h; cases h), .inl rfl, fun sh2 _ _ _ => .fn f cs vs h3 ?_⟩
    have h2' : ∀ (i : Nat) (c : Pv.V) (v : Value), cs[i]? = some c → vs.toList[i]? = some v → RT gh w.heap c v := fun i c v hc hv => h2 i c v hc (by simpa using hv)
    have h1' : cs.length = vs.toList.length := by simpa using h1
    clear h h4 h1 h2 hv
    generalize vs.toList = us at h1' h2'
    induction cs generalizing us with
    | nil =>
      cases us with
      | nil => exact .nil
      | cons u us => simp at h1'
    | cons c cs ih =>
      cases us with
      | nil => simp at h1'
      | cons u us =>
        simp at h3
        have hc := h2' 0 c u rfl rfl
        refine XRL.cons c cs u us [] [] ?_ (ih (by simpa using h3.2) us (by simpa using h1') (fun i c v hc hv => h2' (i + 1) c v (by simpa using hc) (by simpa using hv)))
        cases c <;> simp [cap1] at h3
        case sc x => rw [hc.scV.1]; exact .sc x hc.scV.2
        case bx n off => obtain ⟨b, e1, rfl⟩ := hc.bxV; exact .bx n off b e1
        case mp n => obtain ⟨b, e1, rfl⟩ := hc.mpV; exact .mp n b e1
  | .mp n, α, gh, s, r, v, k, H, hv, h => ⟨gh, s, .mp n, [], [], h, H, .refl gh s, fun _ => rfl, .no (by intro a off len h; cases h) (by intro cs h; cases h), .inl rfl, fun sh2 _ _ _ => by obtain ⟨b, h1, rfl⟩ := hv.mpV; exact .mp n b h1⟩
theorem expL_ok (o : Bool) : ∀ (l : List V) (α : Type) (gh : Gh) (s : St) (r : α × St) (vs : List Value) (k : List Pv.V → List Nat → M α), Inv w0 mine N pb gh s a w → l.length = vs.length →
    (∀ (i : Nat) (c : V) (v : Value), l[i]? = some c → vs[i]? = some v → RT gh w.heap c v) → (expL o l k).run g s = some r →
    ∃ gh' s' l' sh Fs, (k l' sh).run g s' = some r ∧ Inv w0 mine N pb gh' s' a w ∧ Step gh s gh' s' Fs ∧ (o = true → sh = []) ∧ (o = true → ∀ (j a off len : Nat), l[j]? = some (.rf a off len) → ∃ fz xs, look s.ar a = some (.a fz xs) ∧ (fz = false → l'[j]? = some (.ls true (sub xs off len)))) ∧ (sh = [] ∨ ∀ n ∈ sh, ∃ c, look s.ar n = some c) ∧
      ∀ sh2 : BSet, (∀ x, gh.sh x → sh2 x) → (∀ n ∈ sh, ∀ x, gh.own x = some (.a n) → sh2 x) → (∀ F ∈ Fs, ∀ x, F x → ¬ sh2 x) → XRL sh2 w.heap gh.bi l' vs Fs
  | [], α, gh, s, r, vs, k, H, hl, hv, h => by
    cases vs with
    | nil => exact ⟨gh, s, [], [], [], h, H, .refl gh s, fun _ => rfl, (fun _ j a off len hj => by simp at hj), .inl rfl, fun _ _ _ _ => .nil⟩
    | cons v vs => simp at hl
  | V :: l, α, gh, s, r, vs, k, H, hl, hv, h => by
    cases vs with
    | nil => simp at hl
    | cons v vs =>
      obtain ⟨gh1, s1, V1, n1, Fs1, e1, e2, e3, e4, eX, e5, e6⟩ := exp_ok o V α gh s r v _ H (hv 0 V v rfl rfl) h
      obtain ⟨gh2, s2, l2, n2, Fs2, f1, f2, f3, f4, fL, f5, f6⟩ := expL_ok o l α gh1 s1 r vs _ e2 (by simpa using hl)
        (fun i c v hc hw => (hv (i + 1) c v (by simpa using hc) (by simpa using hw)).congr e3.sh e3.ai e3.bi) e1
      refine ⟨gh2, s2, V1 :: l2, n1 ++ n2, Fs1 ++ Fs2, f1, f2, e3.trans f3, fun ho => by rw [e4 ho, f4 ho]; rfl, ?_, .inr ?_, ?_⟩
      · intro ho j a off len hj
        cases j with
        | zero =>
          simp at hj
          subst hj
          obtain ⟨fz, xs, h1, h2⟩ := (eX ho).1 a off len rfl
          exact ⟨fz, xs, h1, fun hf => by rw [h2 hf]; rfl⟩
        | succ j =>
          obtain ⟨fz, xs, h1, h2⟩ := fL ho j a off len (by simpa using hj)
          exact ⟨fz, xs, (e3.live a fz xs h1).1, fun hf => by simpa using h2 hf⟩
      · intro n hn
        rcases List.mem_append.1 hn with hn | hn
        · rcases e5 with h0 | h0
          · rw [h0] at hn; cases hn
          · exact h0 n hn
        · rcases f5 with h0 | h0
          · rw [h0] at hn; cases hn
          · obtain ⟨c, hc⟩ := h0 n hn
            cases hz : look s.ar n with
            | none => rw [(e3.ar0 n).2 hz] at hc; cases hc
            | some c' => exact ⟨c', rfl⟩
      · intro sh2 g1 g2 g3
        refine XRL.cons V1 l2 v vs Fs1 Fs2 (e6 sh2 g1 (fun n hn => g2 n (List.mem_append_left _ hn)) (fun F hF => g3 F (List.mem_append_left _ hF))) ?_
        have := f6 sh2 (by rw [e3.sh]; exact g1) (fun n hn x hx => g2 n (List.mem_append_right _ hn) x (e3.sub x _ hx)) (fun F hF => g3 F (List.mem_append_right _ hF))
        rw [e3.bi] at this
        exact this
end
end
end Go.Pv

set_option linter.unusedSimpArgs false
set_option linter.unusedVariables false
namespace Go.Pv
variable {α : Type} {w0 : World} {mine : Mine} {N : Nat} {pb : List Nat} {gh : Gh} {s : St} {a : Act} {w : World} {g : Ora} {r : α × St} {P : Program} {own : Nat → Nat → Mode}

/-- a row of one's own that is not empty, with all that is known of it -/
structure ORow (sh : BSet) (h : Array Obj) (xs : List (List V)) (b base s cap : Nat) (c : Array Value) (t : TypeId) (f : Nat → Nat → Value) (Fs : Nat → Nat → BSet) (F : BSet) : Prop where
  ne : xs ≠ []
  blk : h[b]? = some (.cells c t (0, 0))
  le : xs.length ≤ cap
  room : base + cap * s ≤ c.size
  len : ∀ (i : Nat) (cs : List V), xs[i]? = some cs → cs.length = s
  cell : ∀ (i : Nat) (cs : List V) (j : Nat) (v : V), xs[i]? = some cs → cs[j]? = some v → c[base + i * s + j]? = some (f i j)
  el : ∀ (i : Nat) (cs : List V) (j : Nat) (v : V), xs[i]? = some cs → cs[j]? = some v → OR sh h v (f i j) (Fs i j)
  nsh : ¬ sh b
  fb : F b
  sub : ∀ i j x, i < xs.length → j < s → Fs i j x → F x ∧ x ≠ b
  inj : ∀ i j i' j' x, i < xs.length → j < s → i' < xs.length → j' < s → Fs i j x → Fs i' j' x → i = i' ∧ j = j'
  cov : ∀ x, F x → x = b ∨ ∃ i j, i < xs.length ∧ j < s ∧ Fs i j x
theorem ORow.or {sh : BSet} {h : Array Obj} {xs : List (List V)} {b base s cap : Nat} {c : Array Value} {t : TypeId} {f : Nat → Nat → Value} {Fs : Nat → Nat → BSet} {F : BSet} (H : ORow sh h xs b base s cap c t f Fs F) :
    OR sh h (.ls true xs) (.slice (some ⟨b, base, none⟩) xs.length cap) F := .own xs b base s cap c t f Fs F H.ne H.blk H.le H.room H.len H.cell H.el H.nsh H.fb H.sub H.inj H.cov
theorem OR.row {sh : BSet} {h : Array Obj} {xs : List (List V)} {A : Option Addr} {n cap : Nat} {F : BSet} (H : OR sh h (.ls true xs) (.slice A n cap) F) (hne : xs ≠ []) : n = xs.length ∧ ∃ b base s c t f Fs, A = some ⟨b, base, none⟩ ∧ ORow sh h xs b base s cap c t f Fs F := by
  generalize hX : Value.slice A n cap = X at H
  cases H with
  | nil A' _ e => exact absurd rfl hne
  | own _ b base s cap' c t f Fs _ h0 h1 h2 h3 h4 h5 h6 h7 h8 h9 h10 h11 =>
    injection hX with q1 q2 q3
    subst q3
    exact ⟨q2, b, base, s, c, t, f, Fs, q1, ⟨h0, h1, h2, h3, h4, h5, h6, h7, h8, h9, h10, h11⟩⟩
theorem FR.toOR {sh : BSet} {h : Array Obj} {v : V} {x : Value} (H : FR sh h v x) : OR sh h (Go.Pv.frz v) x noB := by
  have := H.frz
  cases H with
  | sc _ ho => exact .sc _ noB ho fun _ h => h
  | nil o A cap => exact .fz _ _ noB this fun _ h => h
  | ls o xs b base s cap c f hb hc hl h1 h2 h3 => exact .fz _ _ noB this fun _ h => h
/-- elements, wherever they lie -/
structure Els (sh : BSet) (h : Array Obj) (ys : List (List V)) (A : Option Addr) (s : Nat) (f : Nat → Nat → Value) (G : Nat → Nat → BSet) : Prop where
  cell : ys ≠ [] → ∃ b base cl t z, A = some ⟨b, base, none⟩ ∧ h[b]? = some (.cells cl t z) ∧ ∀ (i : Nat) (cs : List V) (j : Nat) (v : V), ys[i]? = some cs → cs[j]? = some v → cl[base + i * s + j]? = some (f i j)
  len : ∀ (i : Nat) (cs : List V), ys[i]? = some cs → cs.length = s
  el : ∀ (i : Nat) (cs : List V) (j : Nat) (v : V), ys[i]? = some cs → cs[j]? = some v → OR sh h v (f i j) (G i j)
  inj : ∀ i j i' j' x, G i j x → G i' j' x → i = i' ∧ j = j'
/-- the footprints are what was freed -/
def FreeG (gh gh' : Gh) (G : Nat → Nat → BSet) : Prop := ∀ i j x, G i j x → gh'.own x = none ∧ ∃ n, gh.own x = some (.a n)

theorem FR.els {sh : BSet} {h : Array Obj} {o : Bool} {xs : List (List V)} {A : Option Addr} {n cap s : Nat} (H : FR sh h (.ls o xs) (.slice A n cap)) (hs : allLen s xs = true) : n = xs.length ∧ ∃ f, Els sh h (frzR xs) A s f (fun _ _ => noB) := by
  generalize hX : Value.slice A n cap = X at H
  cases H with
  | nil _ A' cap' =>
    injection hX with q1 q2 q3
    exact ⟨q2, fun _ _ => undef, ⟨fun hne => absurd rfl hne, by simp [frzR], by simp [frzR], fun _ _ _ _ _ h => h.elim⟩⟩
  | ls _ _ b base s' cap' c f hb hc hl h1 h2 h3 =>
    injection hX with q1 q2 q3
    have hg : ∀ (i : Nat) (cs : List V), (frzR xs)[i]? = some cs → ∃ y, xs[i]? = some y ∧ frzL y = cs := fun i cs hi => by
      rw [frzR_get] at hi
      exact Option.map_eq_some_iff.1 hi
    have hs' : ∀ (i : Nat) (cs : List V), xs[i]? = some cs → s' = s := fun i cs hi => by rw [← h1 i cs hi, allLen_get hs hi]
    obtain ⟨t, z, hc⟩ := hc
    refine ⟨q2, f, ⟨fun _ => ⟨b, base, c, t, z, q1, hc, ?_⟩, ?_, ?_, fun _ _ _ _ _ h => h.elim⟩⟩
    · intro i cs j v hi hj
      obtain ⟨y, hy, rfl⟩ := hg i cs hi
      rw [frzL_get] at hj
      obtain ⟨u, hu, rfl⟩ := Option.map_eq_some_iff.1 hj
      rw [← hs' i y hy]
      exact h2 i y j u hy hu
    · intro i cs hi
      obtain ⟨y, hy, rfl⟩ := hg i cs hi
      rw [frzL_length]; exact allLen_get hs hy
    · intro i cs j v hi hj
      obtain ⟨y, hy, rfl⟩ := hg i cs hi
      rw [frzL_get] at hj
      obtain ⟨u, hu, rfl⟩ := Option.map_eq_some_iff.1 hj
      exact (h3 i y j u hy hu).toOR
theorem RT.slV {gh : Gh} {h : Array Obj} {V : V} {v : Value} (H : RT gh h V v) (hV : (∃ o xs, V = .ls o xs) ∨ ∃ n o l, V = .rf n o l) : ∃ A n c, v = .slice A n c := by
  rcases hV with ⟨o, xs, rfl⟩ | ⟨n, o, l, rfl⟩
  · rcases H.lsV with ⟨_, hf⟩ | ⟨_, _, A, rfl⟩
    · obtain ⟨A, cap, rfl, _⟩ := hf.lsV; exact ⟨_, _, _, rfl⟩
    · exact ⟨_, _, _, rfl⟩
  · obtain ⟨ai, A, c, _, _, _, _, rfl⟩ := H.rfV; exact ⟨_, _, _, rfl⟩
theorem frzR_allLen {s : Nat} {xs : List (List V)} (h : allLen s (frzR xs) = true) : allLen s xs = true := by
  induction xs with
  | nil => rfl
  | cons x xs ih =>
    simp [allLen, frzR] at h ih ⊢
    exact ⟨by rw [← h.1, frzL_length], ih h.2⟩
section
variable [Glb]
/-- the elements that are copied out of a row -/
theorem rowY_ok (H : Inv w0 mine N pb gh s a w) {ptr : Bool} {V : V} {v : Value} (hv : RT gh w.heap V v) {k : List (List Pv.V) → M α} (h : (rowY ptr V k).run g s = some r) :
    ∃ gh' s' ys A c, v = .slice A ys.length c ∧ (k ys).run g s' = some r ∧ Inv w0 mine N pb gh' s' a w ∧ (∃ Fs, Step gh s gh' s' Fs) ∧
      ∀ sz, allLen sz ys = true → ∃ f G, Els gh.sh w.heap ys A sz f G ∧ FreeG gh gh' G := by
  unfold rowY at h
  split at h
  · rename_i o xs
    rcases hv.lsV with ⟨rfl, hf⟩ | ⟨rfl, rfl, A, rfl⟩
    · obtain ⟨A, cap, rfl, hle⟩ := hf.lsV
      refine ⟨gh, s, frzR xs, A, cap, by rw [frzR_length], h, H, ⟨[], .refl gh s⟩, ?_⟩
      intro sz hsz
      obtain ⟨_, f, hf'⟩ := hf.els (frzR_allLen hsz)
      exact ⟨f, _, hf', fun _ _ _ h => h.elim⟩
    · refine ⟨gh, s, [], A, 0, rfl, h, H, ⟨[], .refl gh s⟩, ?_⟩
      intro sz _
      exact ⟨fun _ _ => undef, fun _ _ => noB, ⟨fun hne => absurd rfl hne, by simp, by simp, fun _ _ _ _ _ h => h.elim⟩, fun _ _ _ h => h.elim⟩
  · rename_i n off len
    obtain ⟨ai, A, c, e1, e2, e3, e4, rfl⟩ := hv.rfV
    obtain ⟨fz, xs, ai', e6, e7, e8, e9, e10⟩ := rdS_ok H h
    rw [e1] at e7; injection e7 with e7; subst e7
    have hsl := sub_length e9
    split at e10
    · rename_i hfz
      subst hfz
      have hf := e8.subF e9 e2 e3 e4 false
      refine ⟨gh, s, frzR (sub xs off len), A, c, by rw [frzR_length, hsl], e10, H, ⟨[], .refl gh s⟩, ?_⟩
      intro sz hsz
      obtain ⟨_, f, hf'⟩ := hf.els (frzR_allLen hsz)
      exact ⟨f, _, hf', fun _ _ _ h => h.elim⟩
    · rename_i hfz
      simp at hfz
      subst hfz
      have key : ∀ sz, allLen sz (sub xs off len) = true → ∃ f G, Els gh.sh w.heap (sub xs off len) A sz f G ∧ ∀ i j x, G i j x → gh.own x = some (.a n) := by
        intro sz hsz
        by_cases hne : sub xs off len = []
        · rw [hne]
          exact ⟨fun _ _ => undef, fun _ _ => noB, ⟨fun hne => absurd rfl hne, by simp, by simp, fun _ _ _ _ _ h => h.elim⟩, fun _ _ _ h => h.elim⟩
        · have hl0 : 0 < len := by rw [← hsl]; exact List.length_pos_iff.2 hne
          obtain ⟨F, f1, f2, f3, f4⟩ := e8.subO e9 e2 e3 e4 (.inr hl0)
          obtain ⟨_, b, base, s', cl, t, f, Fs, rfl, R⟩ := f1.row hne
          have hs : s' = sz := by
            have hi := List.getElem?_eq_getElem (l := sub xs off len) (i := 0) (by omega)
            rw [← R.len _ _ hi, allLen_get hsz hi]
          subst hs
          refine ⟨f, fun i j x => i < len ∧ j < s' ∧ Fs i j x, ⟨fun _ => ⟨b, base, cl, t, (0, 0), rfl, R.blk, R.cell⟩, R.len, ?_, ?_⟩, ?_⟩
          · intro i cs j v hi hj
            have h1 : i < (sub xs off len).length := (List.getElem?_eq_some_iff.1 hi).1
            have h2 : j < s' := by rw [← R.len i cs hi]; exact (List.getElem?_eq_some_iff.1 hj).1
            have : (fun x => i < len ∧ j < s' ∧ Fs i j x) = Fs i j := by funext x; exact propext ⟨fun h => h.2.2, fun h => ⟨by omega, h2, h⟩⟩
            rw [this]
            exact R.el i cs j v hi hj
          · intro i j i' j' x hx hx'
            exact R.inj i j i' j' x (by omega) hx.2.1 (by omega) hx'.2.1 hx.2.2 hx'.2.2
          · intro i j x hx
            exact f2 x (R.sub i j x (by omega) hx.2.1 hx.2.2).1
      split at e10
      · refine ⟨_, _, sub xs off len, A, c, by rw [hsl], e10, H.kill e1, ⟨[fun x => gh.own x = some (.a n)], Step.kill H e6 fun x hx => hx⟩, ?_⟩
        intro sz hsz
        obtain ⟨f, G, h1, h2⟩ := key sz hsz
        exact ⟨f, G, h1, fun i j x hx => ⟨by simp [Gh.kill, h2 i j x hx], n, h2 i j x hx⟩⟩
      · obtain ⟨hfl, e11⟩ := chk_ok e10
        refine ⟨gh, s, sub xs off len, A, c, by rw [hsl], e11, H, ⟨[], .refl gh s⟩, ?_⟩
        intro sz hsz
        obtain ⟨f, G, h1, h2⟩ := key sz hsz
        refine ⟨f, fun _ _ => noB, ⟨h1.cell, h1.len, ?_, fun _ _ _ _ _ h => h.elim⟩, fun _ _ _ h => h.elim⟩
        intro i cs j v hi hj
        have hfl1 := List.all_eq_true.1 hfl cs (List.mem_of_getElem? hi)
        have hfl2 := List.all_eq_true.1 hfl1 v (List.mem_of_getElem? hj)
        have hor := h1.el i cs j v hi hj
        cases v <;> simp [flat1] at hfl2
        generalize hy : f i j = y at hor
        cases hor with
        | sc _ F ho e => exact .sc _ noB ho fun _ h => h
  · exact (run_fail_ h).elim
/-- the row that is appended to -/
theorem rowX_ok (H : Inv w0 mine N pb gh s a w) {sz : Nat} {ne : Bool} {V : V} {v : Value} (hv : RT gh w.heap V v) {k : List (List Pv.V) → M α} (h : (rowX sz ne V k).run g s = some r) :
    ∃ gh' s' xs A c F, v = .slice A xs.length c ∧ (k xs).run g s' = some r ∧ Inv w0 mine N pb gh' s' a w ∧ (∃ Fs, Step gh s gh' s' Fs) ∧
      (∀ x, F x → gh'.own x = none ∧ ∃ n, gh.own x = some (.a n)) ∧ (xs = [] → ne = false → c = 0) ∧
      (c ≠ 0 → ∃ b base cl t, A = some ⟨b, base, none⟩ ∧ w.heap[b]? = some (.cells cl t (0, 0)) ∧ base + c * sz ≤ cl.size ∧ F b ∧ ¬ gh.sh b) ∧
      (xs ≠ [] → ∃ b base cl t f Fs, A = some ⟨b, base, none⟩ ∧ ORow gh.sh w.heap xs b base sz c cl t f Fs F) := by
  unfold rowX at h
  split at h
  · rcases hv.lsV with ⟨h1, hf⟩ | ⟨_, _, A, rfl⟩
    · cases h1
    · exact ⟨gh, s, [], A, 0, noB, rfl, h, H, ⟨[], .refl gh s⟩, fun x h => h.elim, fun _ _ => rfl, fun h => absurd rfl h, fun h => absurd rfl h⟩
  · rename_i n off len
    obtain ⟨ai, A, c, e1, e2, e3, e4, rfl⟩ := hv.rfV
    obtain ⟨fz, xs, ai', e6, e7, e8, e9⟩ := rdA_ok H h
    rw [e1] at e7; injection e7 with e7; subst e7
    split at e9
    · exact (run_fail_ e9).elim
    · rename_i hfz
      simp at hfz
      subst hfz
      obtain ⟨hc, e10⟩ := chk_ok e9
      simp at hc
      obtain ⟨⟨c1, c2⟩, c3⟩ := hc
      have hsl := sub_length c1
      have hs : c ≠ 0 → ai.s = sz := by
        intro hc0
        refine RowOk.elems e8 c2 ?_
        rintro rfl
        rcases e8 with ⟨_, h0, _⟩ | ⟨h1, _⟩
        · omega
        · generalize hX : Value.slice (some ⟨ai.b, ai.base, none⟩) ([] : List (List Pv.V)).length ai.cap = X at h1
          cases h1 with
          | nil A' _ e => injection hX with q1 q2 q3; omega
          | own _ b base s cap' c t f Fs _ h0 => exact absurd rfl h0
      have hkill := H.kill e1
      have hfree : ∀ x, gh.own x = some (.a n) → (gh.kill n).own x = none ∧ ∃ m, gh.own x = some (.a m) := fun x hx => ⟨by simp [Gh.kill, hx], n, hx⟩
      by_cases hw : (off = 0 ∧ len = xs.length) ∨ 0 < len
      · obtain ⟨F, f1, f2, f3, f4⟩ := e8.subO c1 e2 e3 e4 hw
        refine ⟨_, _, sub xs off len, A, c, F, by rw [hsl], e10, hkill, ⟨[F], Step.kill H e6 f2⟩, fun x hx => hfree x (f2 x hx), ?_, ?_, ?_⟩
        · intro he hne
          have hl0 : len = 0 := by rw [← hsl, he]; rfl
          rcases hw with ⟨h1, h2⟩ | h2
          · have hx0 : xs = [] := List.eq_nil_of_length_eq_zero (by omega)
            by_cases hc0 : c = 0
            · exact hc0
            · exfalso
              subst hx0
              rcases e8 with ⟨_, h0, _⟩ | ⟨h1, _⟩
              · omega
              · generalize hX : Value.slice (some ⟨ai.b, ai.base, none⟩) ([] : List (List Pv.V)).length ai.cap = X at h1
                cases h1 with
                | nil A' _ e => injection hX with q1 q2 q3; omega
                | own _ b base s cap' c t f Fs _ h0 => exact absurd rfl h0
          · omega
        · intro hc0
          obtain ⟨g1, cl, t, g2, g3⟩ := f4 hc0
          rw [hs hc0] at g3
          refine ⟨ai.b, _, cl, t, e4.resolve_left hc0, g2, ?_, g1, (H.own _ _ (f2 _ g1)).1⟩
          rw [hs hc0]; exact g3
        · intro hne
          obtain ⟨_, b, base, s', cl, t, f, Fs, hA, R⟩ := f1.row hne
          have hc0 : c ≠ 0 := by
            intro h0; have := R.le; rw [h0, hsl] at this
            have : (sub xs off len).length = 0 := by omega
            exact hne (List.eq_nil_of_length_eq_zero this)
          have hs' : s' = sz := by
            have hi := List.getElem?_eq_getElem (l := sub xs off len) (i := 0) (List.length_pos_iff.2 hne)
            rw [← R.len _ _ hi, f3 _ (List.mem_of_getElem? hi), hs hc0]
          subst hs'
          exact ⟨b, base, cl, t, f, Fs, hA, R⟩
      · have hl0 : len = 0 := by omega
        subst hl0
        have hsub : sub xs off 0 = [] := by simp [sub]
        have hne : ne = true := by
          rcases c3 with h1 | h1 | h1
          · exact absurd (.inl h1) hw
          · exact h1
          · exact absurd h1 (by omega)
        by_cases hc0 : c = 0
        · refine ⟨_, _, sub xs off 0, A, c, noB, by rw [hsl], e10, hkill, ⟨[noB], Step.kill H e6 fun x h => h.elim⟩, fun x h => h.elim, fun _ _ => hc0, fun h => absurd hc0 h, fun h => absurd hsub h⟩
        · have hxs : xs ≠ [] := by rintro rfl; apply hw; left; simp at c1; exact ⟨c1, rfl⟩
          rcases e8 with ⟨h0, _, _⟩ | ⟨h1, h2, h3, cl, t, h4, h5⟩
          · exact absurd h0 hxs
          · refine ⟨_, _, sub xs off 0, A, c, fun x => x = ai.b, by rw [hsl], e10, hkill, ⟨[fun x => x = ai.b], Step.kill H e6 fun x hx => by rw [hx]; exact h3⟩, fun x hx => by rw [hx]; exact hfree _ h3, fun _ h => absurd h (by simp [hne]), ?_, fun h => absurd hsub h⟩
            intro _
            refine ⟨ai.b, _, cl, t, e4.resolve_left hc0, h4, ?_, rfl, (H.own _ _ h3).1⟩
            rw [← hs hc0]
            calc ai.base + off * ai.s + c * ai.s = ai.base + (off + c) * ai.s := by rw [Nat.add_mul]; omega
              _ ≤ ai.base + ai.cap * ai.s := Nat.add_le_add_left (Nat.mul_le_mul_right _ e3) _
              _ ≤ cl.size := h5
  · exact (run_fail_ h).elim
end
end Go.Pv

set_option linter.unusedSimpArgs false
set_option linter.unusedVariables false
set_option linter.unusedSectionVars false
namespace Go.Pv
variable {α : Type} {w0 : World} {mine : Mine} {N : Nat} {pb : List Nat} {gh : Gh} {s : St} {a : Act} {w : World} {g : Ora} {r : α × St} {P : Program} {own : Nat → Nat → Mode}

section
variable {t u ty e : TypeId} {i : TypeInfo} {z : Value} (ht : P.underlying t = some (.slice e)) (hi : P.info? e = some i) (hz : i.zero = some z) {d : TypeDesc} (hu : P.underlying u = some d) (hd : (∃ e', d = .slice e') ∨ d = .string)
  {A : Option Addr} {sLen sCap n : Nat} {Y : Value} {olds news : List Value} (hY : ∀ w', (Builtin.lenOf Y).run P w' = .ok n w') (hN : ∀ w', w'.heap = w.heap → (Builtin.firstCells i.size n Y).run P w' = .ok news.toArray w')
  (hO : ∀ w', w'.heap = w.heap → (Builtin.firstCells i.size sLen (.slice A sLen sCap)).run P w' = .ok olds.toArray w')
include ht hi hz hu hd hY hN
section
variable [Glb]
theorem app_room {b base : Nat} {cl : Array Value} {tt : TypeId} (hA : A = some ⟨b, base, none⟩) (hb : w.heap[b]? = some (.cells cl tt (0, 0))) (hroom : sLen + n ≤ sCap) (hfit : base + sLen * i.size + news.length ≤ cl.size) (h1 : ∀ x ∈ news, x.oneCell' = true) :
    (Builtin.append_ #[t, u] ty #[.slice A sLen sCap, Y]).run P w = .ok (.slice A (sLen + n) sCap) (w.setRow b (cl.toList.take (base + sLen * i.size) ++ news ++ cl.toList.drop (base + sLen * i.size + news.length)).toArray) := by
  subst hA
  have hst := run_storeCells_at (P := P) b (base + sLen * i.size) tt news 0 cl w hb (by simpa using hfit) h1
  simp only [Nat.add_zero] at hst
  simp only [Builtin.append_]
  rcases hd with ⟨e', rfl⟩ | rfl
  · simp [run_underlying ht, run_underlying hu, run_size hi, hY, hN w rfl, hroom, add_mk, hst]
  · simp [run_underlying ht, run_underlying hu, run_size hi, hY, hN w rfl, hroom, add_mk, hst]
theorem app_none (hA : A = none) (hroom : sLen + n ≤ sCap) :
    (Builtin.append_ #[t, u] ty #[.slice A sLen sCap, Y]).run P w = .ok (.slice A (sLen + n) sCap) w := by
  subst hA
  simp only [Builtin.append_]
  rcases hd with ⟨e', rfl⟩ | rfl
  · simp [run_underlying ht, run_underlying hu, run_size hi, hY, hN w rfl, hroom]
  · simp [run_underlying ht, run_underlying hu, run_size hi, hY, hN w rfl, hroom]
theorem app_zero (hroom : sLen + n ≤ sCap) (h0 : news = []) :
    (Builtin.append_ #[t, u] ty #[.slice A sLen sCap, Y]).run P w = .ok (.slice A (sLen + n) sCap) w := by
  subst h0
  simp only [Builtin.append_]
  cases A with
  | none =>
    rcases hd with ⟨e', rfl⟩ | rfl
    · simp [run_underlying ht, run_underlying hu, run_size hi, hY, hN w rfl, hroom]
    · simp [run_underlying ht, run_underlying hu, run_size hi, hY, hN w rfl, hroom]
  | some ad =>
    rcases hd with ⟨e', rfl⟩ | rfl
    · simp [run_underlying ht, run_underlying hu, run_size hi, hY, hN w rfl, hroom, storeCells]
    · simp [run_underlying ht, run_underlying hu, run_size hi, hY, hN w rfl, hroom, storeCells]
include hO in
theorem app_grow (hg : sCap < sLen + n) (hb : 0 < i.bytes) (hfit : (sLen + n) * i.bytes ≤ 140737488355328) :
    (Builtin.append_ #[t, u] ty #[.slice A sLen sCap, Y]).run P w = .ok (.slice (some ⟨w.heap.size, 0, none⟩) (sLen + n) (grownCap w (sLen + n) sCap e))
        (w.drew.alloc (.cells (olds.toArray ++ news.toArray ++ Builtin.zeroCells z.cells (grownCap w (sLen + n) sCap e - (sLen + n))) e)) := by
  have hn : ¬ (sLen + n ≤ sCap) := by omega
  have hle : sLen + n ≤ (sLen + n) * i.bytes := Nat.le_mul_of_pos_right _ hb
  have h63' : ¬ (9223372036854775807 < ((sLen : Int) + (n : Int))) := by omega
  have h48' : ¬ (281474976710656 < Builtin.nextslicecap (sLen + n) sCap * i.bytes) := by have := growslice_fits hg hfit; omega
  have hN' := hN w.drew rfl
  have hO' := hO w.drew rfl
  simp only [Builtin.append_]
  rcases hd with ⟨e', rfl⟩ | rfl
  · simp [run_underlying ht, run_underlying hu, run_size hi, run_info hi, zeroValue, hz, hY, hn, h63', h48', Question.forced, hN', hO', newRow, grownCap]
    congr 2; apply Array.ext'; simp [List.append_assoc]
  · simp [run_underlying ht, run_underlying hu, run_size hi, run_info hi, zeroValue, hz, hY, hn, h63', h48', Question.forced, hN', hO', newRow, grownCap]
    congr 2; apply Array.ext'; simp [List.append_assoc]
end
end
section
variable [Glb]
theorem OR.one {sh : BSet} {h : Array Obj} {v : V} {x : Value} {F : BSet} (H : OR sh h v x F) : x.oneCell' = true := by
  cases H with
  | sc v F ho e => exact ho
  | fz xs x F hf e => obtain ⟨A, cap, rfl, _⟩ := hf.lsV; rfl
  | nil A F e => rfl
  | own => rfl
end
/-- the cells of elements, side by side -/
def flatE (n s : Nat) (f : Nat → Nat → Value) : List Value := (List.range (n * s)).map fun q => f (q / s) (q % s)
section
variable [Glb]
theorem flatE_get (n s : Nat) (f : Nat → Nat → Value) (hs : 0 < s) {i j : Nat} (hi : i < n) (hj : j < s) : (flatE n s f)[i * s + j]? = some (f i j) := by
  have h1 : i * s + j < n * s := by
    calc i * s + j < i * s + s := by omega
      _ = (i + 1) * s := by rw [Nat.add_mul]; omega
      _ ≤ n * s := Nat.mul_le_mul_right _ hi
  have h2 : (i * s + j) / s = i := by rw [Nat.mul_comm, Nat.mul_add_div hs, Nat.div_eq_of_lt hj]; omega
  have h3 : (i * s + j) % s = j := by rw [Nat.mul_comm, Nat.mul_add_mod, Nat.mod_eq_of_lt hj]
  simp [flatE, h1, h2, h3]
theorem flatE_inv {n s : Nat} {f : Nat → Nat → Value} (hs : 0 < s) {q : Nat} {x : Value} (h : (flatE n s f)[q]? = some x) : ∃ i j, i < n ∧ j < s ∧ q = i * s + j ∧ x = f i j := by
  obtain ⟨h0, h1⟩ := List.getElem?_eq_some_iff.1 h
  simp [flatE] at h0 h1
  subst h1
  have h1 := h0
  refine ⟨q / s, q % s, ?_, Nat.mod_lt _ hs, ?_, rfl⟩
  · exact Nat.div_lt_of_lt_mul (by rw [Nat.mul_comm]; exact h1)
  · rw [Nat.mul_comm]; exact (Nat.div_add_mod q s).symm
theorem flatE_length (n s : Nat) (f : Nat → Nat → Value) : (flatE n s f).length = n * s := by simp [flatE]
theorem Els.first {sh : BSet} {ys : List (List V)} {A : Option Addr} {sz c : Nat} {f : Nat → Nat → Value} {G : Nat → Nat → BSet} (E : Els sh w.heap ys A sz f G) (hs : 0 < sz) {w' : World} (hw : w'.heap = w.heap) :
    (Builtin.firstCells sz ys.length (.slice A ys.length c)).run P w' = .ok (flatE ys.length sz f).toArray w' := by
  by_cases hne : ys = []
  · subst hne
    cases A with
    | none => simp [Builtin.firstCells, flatE]
    | some ad => simp [Builtin.firstCells, flatE, loadCells, loadCellsFrom]
  · obtain ⟨b, base, cl, t, z, rfl, hb, hc⟩ := E.cell hne
    refine run_firstCells_some w' sz ys.length _ _ _ _ (flatE_length _ _ _) ?_
    intro q x hq
    obtain ⟨i, j, hi, hj, rfl, rfl⟩ := flatE_inv hs hq
    have hi' := List.getElem?_eq_getElem hi
    have hl := E.len i _ hi'
    have hj' := List.getElem?_eq_getElem (l := ys[i]) (i := j) (by omega)
    have := hc i _ j _ hi' hj'
    rw [add_mk, cell_at (by rw [hw]; exact hb)]
    rw [← Nat.add_assoc]
    exact this
end
end Go.Pv

set_option linter.unusedSimpArgs false
set_option linter.unusedVariables false
namespace Go.Pv
variable {α : Type} {w0 : World} {mine : Mine} {N : Nat} {pb : List Nat} {gh : Gh} {s : St} {a : Act} {w : World} {g : Ora} {r : α × St} {P : Program} {own : Nat → Nat → Mode}

/-- two rows of elements, one behind the other, in a block of one's own -/
theorem join_row {sh : BSet} {h h' : Array Obj} {xs ys : List (List V)} {b base sz cap : Nat} {cl : Array Value} {t : TypeId} {fx fy : Nat → Nat → Value} {Fx Gy : Nat → Nat → BSet} {F : BSet} (hs : 0 < sz)
    (hne : xs ++ ys ≠ []) (hb : h'[b]? = some (.cells cl t (0, 0))) (hle : (xs ++ ys).length ≤ cap) (hroom : base + cap * sz ≤ cl.size)
    (hxl : ∀ (i : Nat) (cs : List V), xs[i]? = some cs → cs.length = sz) (hyl : ∀ (i : Nat) (cs : List V), ys[i]? = some cs → cs.length = sz)
    (hxc : ∀ (i : Nat) (cs : List V) (j : Nat) (v : V), xs[i]? = some cs → cs[j]? = some v → cl[base + i * sz + j]? = some (fx i j))
    (hyc : ∀ (i : Nat) (cs : List V) (j : Nat) (v : V), ys[i]? = some cs → cs[j]? = some v → cl[base + (xs.length + i) * sz + j]? = some (fy i j))
    (hxe : ∀ (i : Nat) (cs : List V) (j : Nat) (v : V), xs[i]? = some cs → cs[j]? = some v → OR sh h' v (fx i j) (Fx i j))
    (hye : ∀ (i : Nat) (cs : List V) (j : Nat) (v : V), ys[i]? = some cs → cs[j]? = some v → OR sh h' v (fy i j) (Gy i j))
    (hnsh : ¬ sh b) (hxb : ∀ i j, i < xs.length → j < sz → ¬ Fx i j b) (hyb : ∀ i j, i < ys.length → j < sz → ¬ Gy i j b)
    (hxi : ∀ i j i' j' x, i < xs.length → j < sz → i' < xs.length → j' < sz → Fx i j x → Fx i' j' x → i = i' ∧ j = j')
    (hyi : ∀ i j i' j' x, i < ys.length → j < sz → i' < ys.length → j' < sz → Gy i j x → Gy i' j' x → i = i' ∧ j = j')
    (hxy : ∀ i j i' j' x, i < xs.length → j < sz → i' < ys.length → j' < sz → Fx i j x → ¬ Gy i' j' x)
    (hF : ∀ x, F x ↔ x = b ∨ (∃ i j, i < xs.length ∧ j < sz ∧ Fx i j x) ∨ ∃ i j, i < ys.length ∧ j < sz ∧ Gy i j x) :
    ORow sh h' (xs ++ ys) b base sz cap cl t (fun i j => if i < xs.length then fx i j else fy (i - xs.length) j) (fun i j => if i < xs.length then Fx i j else Gy (i - xs.length) j) F where
  ne := hne
  blk := hb
  le := hle
  room := hroom
  len := by
    intro i cs hi
    rw [List.getElem?_append] at hi
    split at hi
    · exact hxl i cs hi
    · exact hyl _ cs hi
  cell := by
    intro i cs j v hi hj
    rw [List.getElem?_append] at hi
    split at hi
    · rename_i h1; rw [if_pos h1]; exact hxc i cs j v hi hj
    · rename_i h1
      rw [if_neg h1]
      have := hyc _ cs j v hi hj
      rw [show xs.length + (i - xs.length) = i by omega] at this
      exact this
  el := by
    intro i cs j v hi hj
    rw [List.getElem?_append] at hi
    split at hi
    · rename_i h1; rw [if_pos h1, if_pos h1]; exact hxe i cs j v hi hj
    · rename_i h1; rw [if_neg h1, if_neg h1]; exact hye _ cs j v hi hj
  nsh := hnsh
  fb := (hF b).2 (.inl rfl)
  sub := by
    intro i j x hi hj hx
    simp only [List.length_append] at hi
    split at hx
    · rename_i h1
      exact ⟨(hF x).2 (.inr (.inl ⟨i, j, h1, hj, hx⟩)), fun e => hxb i j h1 hj (e ▸ hx)⟩
    · rename_i h1
      exact ⟨(hF x).2 (.inr (.inr ⟨_, j, by omega, hj, hx⟩)), fun e => hyb _ j (by omega) hj (e ▸ hx)⟩
  inj := by
    intro i j i' j' x hi hj hi' hj' hx hx'
    simp only [List.length_append] at hi hi'
    split at hx
    · rename_i h1
      split at hx'
      · rename_i h2; exact hxi i j i' j' x h1 hj h2 hj' hx hx'
      · rename_i h2; exact absurd hx' (hxy i j _ j' x h1 hj (by omega) hj' hx)
    · rename_i h1
      split at hx'
      · rename_i h2; exact absurd hx (hxy i' j' _ j x h2 hj' (by omega) hj hx')
      · rename_i h2
        have := hyi _ j _ j' x (by omega) hj (by omega) hj' hx hx'
        omega
  cov := by
    intro x hx
    rcases (hF x).1 hx with h1 | ⟨i, j, h1, h2, h3⟩ | ⟨i, j, h1, h2, h3⟩
    · exact .inl h1
    · exact .inr ⟨i, j, by simp; omega, h2, by rw [if_pos h1]; exact h3⟩
    · exact .inr ⟨xs.length + i, j, by simp; omega, h2, by rw [if_neg (by omega), show xs.length + i - xs.length = i by omega]; exact h3⟩
theorem ORow.rowOk {xs : List (List V)} {b base sz cap : Nat} {c : Array Value} {t : TypeId} {f : Nat → Nat → Value} {Fs : Nat → Nat → BSet} {F : BSet} {h : Array Obj} {sh : BSet} (R : ORow sh h xs b base sz cap c t f Fs F) :
    OR sh h (.ls true xs) (.slice (some ⟨b, base, none⟩) xs.length cap) F ∧ (∀ cs : List V, cs ∈ xs → cs.length = sz) ∧ F b ∧ (∃ c t, h[b]? = some (.cells c t (0, 0)) ∧ base + cap * sz ≤ c.size) :=
  ⟨R.or, fun cs hcs => by obtain ⟨i, hi⟩ := List.getElem?_of_mem hcs; exact R.len i cs hi, R.fb, c, t, R.blk, R.room⟩
/-- elements, without the place -/
structure ElV (sh : BSet) (h : Array Obj) (ys : List (List V)) (s : Nat) (f : Nat → Nat → Value) (G : Nat → Nat → BSet) : Prop where
  len : ∀ (i : Nat) (cs : List V), ys[i]? = some cs → cs.length = s
  el : ∀ (i : Nat) (cs : List V) (j : Nat) (v : V), ys[i]? = some cs → cs[j]? = some v → OR sh h v (f i j) (G i j)
  inj : ∀ i j i' j' x, G i j x → G i' j' x → i = i' ∧ j = j'
theorem Els.v {sh : BSet} {h : Array Obj} {ys : List (List V)} {A : Option Addr} {s : Nat} {f : Nat → Nat → Value} {G : Nat → Nat → BSet} (E : Els sh h ys A s f G) : ElV sh h ys s f G := ⟨E.len, E.el, E.inj⟩
theorem ORow.els {sh : BSet} {h : Array Obj} {xs : List (List V)} {b base sz cap : Nat} {c : Array Value} {t : TypeId} {f : Nat → Nat → Value} {Fs : Nat → Nat → BSet} {F : BSet} (R : ORow sh h xs b base sz cap c t f Fs F) :
    Els sh h xs (some ⟨b, base, none⟩) sz f (fun i j x => i < xs.length ∧ j < sz ∧ Fs i j x) where
  cell := fun _ => ⟨b, base, c, t, (0, 0), rfl, R.blk, R.cell⟩
  len := R.len
  el := by
    intro i cs j v hi hj
    have h1 : i < xs.length := (List.getElem?_eq_some_iff.1 hi).1
    have h2 : j < sz := by rw [← R.len i cs hi]; exact (List.getElem?_eq_some_iff.1 hj).1
    have : (fun x => i < xs.length ∧ j < sz ∧ Fs i j x) = Fs i j := by funext x; exact propext ⟨fun h => h.2.2, fun h => ⟨h1, h2, h⟩⟩
    rw [this]
    exact R.el i cs j v hi hj
  inj := fun i j i' j' x hx hx' => R.inj i j i' j' x hx.1 hx.2.1 hx'.1 hx'.2.1 hx.2.2 hx'.2.2
theorem Els.nil {sh : BSet} {h : Array Obj} {A : Option Addr} {sz : Nat} {f : Nat → Nat → Value} : Els sh h [] A sz f (fun _ _ => noB) := ⟨fun hne => absurd rfl hne, by simp, by simp, fun _ _ _ _ _ h => h.elim⟩
section
variable [Glb]
/-- the joined row stands in block b -/
theorem append_fin (H : Inv w0 mine N pb gh s a w) {d' : Nat} (hd : gh.ai d' = none) {w' : World} {xs ys : List (List V)} {b base sz cap : Nat} {cl : Array Value} {t : TypeId} {fx fy : Nat → Nat → Value} {Gx Gy : Nat → Nat → BSet}
    (hs : 0 < sz) (hne : xs ++ ys ≠ []) (hheap : ∀ x, x ≠ b → x < w.heap.size → w'.heap[x]? = w.heap[x]?) (hsz : w.heap.size ≤ w'.heap.size) (ho : w'.os = w.os) (ht : w'.tape = w.tape) (hp : w'.output = w.output)
    (hb : w'.heap[b]? = some (.cells cl t (0, 0))) (hle : xs.length + ys.length ≤ cap) (hroom : base + cap * sz ≤ cl.size)
    (Ex : ElV gh.sh w.heap xs sz fx Gx) (Ey : ElV gh.sh w.heap ys sz fy Gy)
    (hxc : ∀ i j, i < xs.length → j < sz → cl[base + i * sz + j]? = some (fx i j)) (hyc : ∀ i j, i < ys.length → j < sz → cl[base + (xs.length + i) * sz + j]? = some (fy i j))
    (hbo : gh.own b = none ∧ ¬ gh.sh b ∧ (b < w0.heap.size → mine b))
    (hGx : ∀ i j x, Gx i j x → x ≠ b ∧ gh.own x = none ∧ (x < w0.heap.size → mine x)) (hGy : ∀ i j x, Gy i j x → x ≠ b ∧ gh.own x = none ∧ (x < w0.heap.size → mine x))
    (hxy : ∀ i j i' j' x, Gx i j x → ¬ Gy i' j' x) {c : Nat} (hc : xs.length + ys.length ≤ c) (hcc : c = cap) (hss : SameSz w.heap w'.heap := by first | exact SameSz.refl _ | exact SameSz.alloc _ _) :
    ∃ gh', Inv w0 mine N pb gh' (s.put (.a d') (.a false (xs ++ ys))) a w' ∧ RT gh' w'.heap (.rf d' 0 (xs.length + ys.length)) (.slice (some ⟨b, base, none⟩) (xs.length + ys.length) c) := by
  subst hcc
  have hbl : b < w'.heap.size := (Array.getElem?_eq_some_iff.1 hb).1
  have two : ∀ {zs : List (List V)} {f : Nat → Nat → Value} {G : Nat → Nat → BSet}, ElV gh.sh w.heap zs sz f G → (∀ i j x, G i j x → x ≠ b ∧ gh.own x = none ∧ (x < w0.heap.size → mine x)) →
      (∀ (i : Nat) (cs : List V) (j : Nat) (v : V), zs[i]? = some cs → cs[j]? = some v → OR gh.sh w'.heap v (f i j) (G i j)) ∧ ∀ i j x, i < zs.length → j < sz → G i j x → x < w.heap.size ∧ ¬ gh.sh x := by
    intro zs f G E hG
    constructor
    · intro i cs j v hi hj
      have h0 := E.el i cs j v hi hj
      refine h0.mono (fun _ h => h) ?_ ?_
      · intro x hx
        exact hheap x (fun e => hbo.2.1 (e ▸ hx)) (H.sh x hx)
      · intro x hx
        exact ⟨hheap x (hG i j x hx).1 (h0.blk x hx).1, (h0.blk x hx).2⟩
    · intro i j x hi hj hx
      have h1 := List.getElem?_eq_getElem hi
      have h2 := E.len i _ h1
      exact (E.el i _ j _ h1 (List.getElem?_eq_getElem (by omega))).blk x hx
  obtain ⟨x1, x2⟩ := two Ex hGx
  obtain ⟨y1, y2⟩ := two Ey hGy
  have lenX : ∀ {i : Nat} {cs : List V} {j : Nat} {v : V}, xs[i]? = some cs → cs[j]? = some v → i < xs.length ∧ j < sz := fun hi hj => ⟨(List.getElem?_eq_some_iff.1 hi).1, by rw [← Ex.len _ _ hi]; exact (List.getElem?_eq_some_iff.1 hj).1⟩
  have lenY : ∀ {i : Nat} {cs : List V} {j : Nat} {v : V}, ys[i]? = some cs → cs[j]? = some v → i < ys.length ∧ j < sz := fun hi hj => ⟨(List.getElem?_eq_some_iff.1 hi).1, by rw [← Ey.len _ _ hi]; exact (List.getElem?_eq_some_iff.1 hj).1⟩
  have J := join_row (sh := gh.sh) (h := w.heap) (h' := w'.heap) (xs := xs) (ys := ys) (b := b) (base := base) (sz := sz) (cap := c) (cl := cl) (t := t) (fx := fx) (fy := fy) (Fx := Gx) (Gy := Gy)
    (F := fun x => x = b ∨ (∃ i j, i < xs.length ∧ j < sz ∧ Gx i j x) ∨ ∃ i j, i < ys.length ∧ j < sz ∧ Gy i j x) hs hne hb (by simpa using hle) hroom Ex.len Ey.len
    (fun i cs j v hi hj => hxc i j (lenX hi hj).1 (lenX hi hj).2) (fun i cs j v hi hj => hyc i j (lenY hi hj).1 (lenY hi hj).2) x1 y1 hbo.2.1
    (fun i j _ _ hx => (hGx i j b hx).1 rfl) (fun i j _ _ hx => (hGy i j b hx).1 rfl)
    (fun i j i' j' x _ _ _ _ h1 h2 => Ex.inj i j i' j' x h1 h2) (fun i j i' j' x _ _ _ _ h1 h2 => Ey.inj i j i' j' x h1 h2) (fun i j i' j' x _ _ _ _ h1 => hxy i j i' j' x h1) (fun x => Iff.rfl)
  refine ⟨_, H.setA (n := d') (ai := ⟨b, base, sz, c⟩) (F := fun x => x = b ∨ (∃ i j, i < xs.length ∧ j < sz ∧ Gx i j x) ∨ ∃ i j, i < ys.length ∧ j < sz ∧ Gy i j x) (xs := xs ++ ys) (.inl hd) ?_ ?_ hsz ho ht hp (.inr J.rowOk) hss, ?_⟩
  · intro x hx
    rcases hx with rfl | ⟨i, j, h1, h2, h3⟩ | ⟨i, j, h1, h2, h3⟩
    · exact ⟨.inl hbo.1, hbo.2.1, hbl, hbo.2.2⟩
    · exact ⟨.inl (hGx i j x h3).2.1, (x2 i j x h1 h2 h3).2, Nat.lt_of_lt_of_le (x2 i j x h1 h2 h3).1 hsz, (hGx i j x h3).2.2⟩
    · exact ⟨.inl (hGy i j x h3).2.1, (y2 i j x h1 h2 h3).2, Nat.lt_of_lt_of_le (y2 i j x h1 h2 h3).1 hsz, (hGy i j x h3).2.2⟩
  · intro x hx hf
    exact hheap x (fun e => hf (.inl e)) hx
  · exact .rf d' 0 _ ⟨b, base, sz, c⟩ _ c (by simp [Gh.setA]) hc (by simp) (.inr (by simp))
/-- **append**: whatever is appended -/
theorem append_any {o : Oper} {t u e : TypeId} {i : TypeInfo} {z : Value} {d : TypeDesc} {ty : TypeId} (ht : P.underlying t = some (.slice e)) (hi : P.info? e = some i) (hz : i.zero = some z) (hzs : z.cells.size = i.size) (hu : P.underlying u = some d) (hd : (∃ e', d = .slice e') ∨ d = .string)
    (hsz : 0 < i.size) (hby : 0 < i.bytes)
    {gh1 : Gh} {s1 : St} (H1 : Inv w0 mine N pb gh1 s1 a w) {Y : Value} {ys : List (List V)} {fy : Nat → Nat → Value} {Gy : Nat → Nat → BSet}
    (hY : ∀ w', (Builtin.lenOf Y).run P w' = .ok ys.length w') (hN : ∀ w', w'.heap = w.heap → (Builtin.firstCells i.size ys.length Y).run P w' = .ok (flatE ys.length i.size fy).toArray w')
    (Ey : ElV gh1.sh w.heap ys i.size fy Gy) (hyf : ∀ m j x, Gy m j x → gh1.own x = none ∧ x < w.heap.size ∧ (x < w0.heap.size → mine x))
    {ne : Bool} (hne : ys = [] → ne = false) {V : V} {v : Value} (hv : RT gh1 w.heap V v) {d' : Nat} {k : Pv.V → M α}
    (h : (rowX i.size ne V fun xs => chk (lim (xs.length + ys.length) i.bytes) (newR (.a d') (.wr (.a d') (.a false (xs ++ ys)) (k (.rf d' 0 (xs.length + ys.length)))))).run g s1 = some r)
    (hex : execOp a.eval o = (do pure (Next.value (← Builtin.append_ #[t, u] ty #[v, Y])))) :
    ∃ gh' s1 V v w', (k V).run g s1 = some r ∧ OpVal P o a w v w' ∧ Inv w0 mine N pb gh' s1 a w' ∧ RT gh' w'.heap V v := by
  obtain ⟨gh2, s2, xs, A, c, F, rfl, h2, H2, ⟨Fs, S2⟩, hfr, hcz, hcb, hcx⟩ := rowX_ok H1 hv h
  obtain ⟨hlim, h3⟩ := chk_ok h2
  obtain ⟨hd0, h4⟩ := newR_ok h3
  have hai : gh2.ai d' = none := (H2.ar0 d' hd0).1
  have hlim : (xs.length + ys.length) * i.bytes ≤ 140737488351232 := of_decide_eq_true hlim
  have hone : ∀ x ∈ flatE ys.length i.size fy, x.oneCell' = true := by
    intro x hx
    obtain ⟨q, hq⟩ := List.getElem?_of_mem hx
    obtain ⟨m, j, hm, hj, rfl, rfl⟩ := flatE_inv hsz hq
    have hm' := List.getElem?_eq_getElem hm
    have hl := Ey.len m _ hm'
    exact (Ey.el m _ j _ hm' (List.getElem?_eq_getElem (by omega))).one
  have hF2 : ∀ x, F x → gh2.own x = none ∧ ¬ gh2.sh x ∧ x < w.heap.size ∧ (x < w0.heap.size → mine x) := by
    intro x hx
    obtain ⟨e1, m, e2⟩ := hfr x hx
    have := H1.own x _ e2
    exact ⟨e1, by rw [S2.sh]; exact this.1, this.2⟩
  have hFG : ∀ x m j, F x → ¬ Gy m j x := by
    intro x m j hx hg
    obtain ⟨_, m', e2⟩ := hfr x hx
    rw [(hyf m j x hg).1] at e2; cases e2
  have hgy2 : ∀ m j x, Gy m j x → gh2.own x = none ∧ (x < w0.heap.size → mine x) := by
    intro m j x hx
    obtain ⟨e1, _, e4⟩ := hyf m j x hx
    refine ⟨?_, e4⟩
    cases h9 : gh2.own x with
    | none => rfl
    | some q => rw [S2.sub x q h9] at e1; cases e1
  have hval : ∀ {X : Value} {w' : World}, (Builtin.append_ #[t, u] ty #[.slice A xs.length c, Y]).run P w = .ok X w' → OpVal P o a w X w' := by
    intro X w' hrun
    left
    rw [hex]
    simp [hrun]
  by_cases h0 : xs = [] ∧ ys = []
  · obtain ⟨rfl, rfl⟩ := h0
    have hc0 : c = 0 := hcz rfl (hne rfl)
    subst hc0
    have hrun := app_zero (P := P) (w := w) (ty := ty) (A := A) (sLen := 0) (sCap := 0) (n := 0) (Y := Y) (news := flatE 0 i.size fy) ht hi hz hu hd hY hN (Nat.le_refl _) (by simp [flatE])
    exact ⟨_, _, _, .slice A 0 0, w, h4, hval hrun, H2.setA (n := d') (ai := ⟨0, 0, 0, 0⟩) (F := noB) (.inl hai) (fun x h => h.elim) (fun _ _ _ => rfl) (Nat.le_refl _) rfl rfl rfl (.inl ⟨rfl, rfl, fun _ h => h⟩),
      .rf d' 0 0 ⟨0, 0, 0, 0⟩ A 0 (by simp [Gh.setA]) (Nat.le_refl _) (Nat.le_refl _) (.inl rfl)⟩
  · have hne' : xs ++ ys ≠ [] := by simpa using h0
    have hpos : 0 < xs.length + ys.length := by have := List.length_pos_iff.2 hne'; simpa using this
    obtain ⟨fx, Gx, Ex, hGx⟩ : ∃ fx Gx, Els gh2.sh w.heap xs A i.size fx Gx ∧ ∀ m j x, Gx m j x → F x ∧ ∀ b base, A = some ⟨b, base, none⟩ → x ≠ b := by
      by_cases hx : xs = []
      · subst hx; exact ⟨fun _ _ => undef, _, .nil, fun _ _ _ h => h.elim⟩
      · obtain ⟨b, base, cl, t, f, Fs, rfl, R⟩ := hcx hx
        rw [S2.sh]
        refine ⟨f, _, R.els, ?_⟩
        rintro m j x ⟨e1, e2, e3⟩
        have := R.sub m j x e1 e2 e3
        refine ⟨this.1, ?_⟩
        rintro b' base' e4
        injection e4 with e4; injection e4 with e4; subst e4; exact this.2
    have Ey2 : ElV gh2.sh w.heap ys i.size fy Gy := by rw [S2.sh]; exact Ey
    have hO : ∀ w', w'.heap = w.heap → (Builtin.firstCells i.size xs.length (.slice A xs.length c)).run P w' = .ok (flatE xs.length i.size fx).toArray w' := fun w' hw => Ex.first hsz hw
    by_cases hr : xs.length + ys.length ≤ c
    · obtain ⟨b, base, cl, tt, rfl, hb, hfit, hFb, hnb⟩ := hcb (by omega)
      have hml : (xs.length + ys.length) * i.size ≤ c * i.size := Nat.mul_le_mul_right _ hr
      rw [Nat.add_mul] at hml
      have hrun := app_room (P := P) (w := w) (ty := ty) (b := b) (base := base) (cl := cl) (tt := tt) (news := flatE ys.length i.size fy) ht hi hz hu hd hY hN rfl hb hr (by rw [flatE_length]; omega) hone
      have hcl : ∀ m j, m < xs.length → j < i.size → cl[base + m * i.size + j]? = some (fx m j) := by
        intro m j hm hj
        have hx : xs ≠ [] := List.length_pos_iff.1 (by omega)
        obtain ⟨b', base', cl', t', z', e1, e2, e3⟩ := Ex.cell hx
        injection e1 with e1; injection e1 with e4 e5; subst e4; subst e5
        rw [hb] at e2; injection e2 with e2; injection e2 with e2; subst e2
        have h1 := List.getElem?_eq_getElem hm
        have h2 := Ex.len m _ h1
        exact e3 m _ j _ h1 (List.getElem?_eq_getElem (by omega))
      have hlt : ∀ m j, m < xs.length → j < i.size → m * i.size + j < xs.length * i.size := by
        intro m j hm hj
        calc m * i.size + j < m * i.size + i.size := by omega
          _ = (m + 1) * i.size := by rw [Nat.add_mul]; omega
          _ ≤ xs.length * i.size := Nat.mul_le_mul_right _ hm
      have hs1 : base + xs.length * i.size + (flatE ys.length i.size fy).length ≤ cl.toList.length := by simp [flatE_length]; omega
      have hsg := fun q => seg_get cl.toList (flatE ys.length i.size fy) (base + xs.length * i.size) q hs1
      rw [flatE_length] at hs1
      simp at hs1
      have hbl : b < w.heap.size := (Array.getElem?_eq_some_iff.1 hb).1
      obtain ⟨gh', I, T⟩ := append_fin H2 hai (b := b) (base := base) (w' := w.setRow b (cl.toList.take (base + xs.length * i.size) ++ flatE ys.length i.size fy ++ cl.toList.drop (base + xs.length * i.size + (flatE ys.length i.size fy).length)).toArray) hsz hne' (cap := c) (c := c)
        (fun x h1 _ => setRow_other w b x _ h1) (by simp) rfl rfl rfl (setRow_heap w b cl _ tt (0, 0) hb) hr (by simp only [flatE_length, List.size_toArray, List.length_append, List.length_take, List.length_drop, Array.length_toList]; omega) Ex.v Ey2
        (fun m j hm hj => by
          have := hlt m j hm hj
          simp only [List.getElem?_toArray]
          rw [hsg, if_neg (by omega)]
          simpa using hcl m j hm hj)
        (fun m j hm hj => by
          simp only [List.getElem?_toArray]
          have hq := flatE_get ys.length i.size fy hsz hm hj
          have hl := (List.getElem?_eq_some_iff.1 hq).1
          rw [show base + (xs.length + m) * i.size + j = (base + xs.length * i.size) + (m * i.size + j) by rw [Nat.add_mul]; omega, hsg, if_pos (by omega), Nat.add_sub_cancel_left]
          exact hq)
        ⟨(hF2 b hFb).1, (hF2 b hFb).2.1, (hF2 b hFb).2.2.2⟩
        (fun m j x hx => ⟨(hGx m j x hx).2 _ _ rfl, (hF2 x (hGx m j x hx).1).1, (hF2 x (hGx m j x hx).1).2.2.2⟩)
        (fun m j x hx => ⟨fun e => hFG x m j (e ▸ hFb) hx, hgy2 m j x hx⟩)
        (fun m j m' j' x hx => hFG x m' j' (hGx m j x hx).1) hr rfl (.setRow hb (by simp only [flatE_length, List.size_toArray, List.length_append, List.length_take, List.length_drop, Array.length_toList]; omega))
      exact ⟨_, _, _, _, _, h4, hval hrun, I, T⟩
    · have hrun := app_grow (P := P) (w := w) (ty := ty) (news := flatE ys.length i.size fy) (olds := flatE xs.length i.size fx) ht hi hz hu hd hY hN hO (by omega) hby (by omega)
      have hg := grownCap_ge w (xs.length + ys.length) c e
      have hE : Inv w0 mine N pb gh2 s2 a w.drew := H2.grow (fun _ _ => rfl) (Nat.le_refl _) rfl rfl rfl
      have hlt : ∀ m j, m < xs.length → j < i.size → m * i.size + j < xs.length * i.size := by
        intro m j hm hj
        calc m * i.size + j < m * i.size + i.size := by omega
          _ = (m + 1) * i.size := by rw [Nat.add_mul]; omega
          _ ≤ xs.length * i.size := Nat.mul_le_mul_right _ hm
      have hbig : ∀ x, (∃ q, gh2.own x = some q) ∨ gh2.sh x ∨ x < w.heap.size → x ≠ w.heap.size := by
        intro x hx e
        subst e
        rcases hx with ⟨q, hx⟩ | hx | hx
        · exact absurd (H2.own _ _ hx).2.1 (by omega)
        · exact absurd (H2.sh _ hx) (by omega)
        · omega
      obtain ⟨gh', I, T⟩ := append_fin hE hai (w' := w.drew.alloc (.cells ((flatE xs.length i.size fx).toArray ++ (flatE ys.length i.size fy).toArray ++ Builtin.zeroCells z.cells (grownCap w (xs.length + ys.length) c e - (xs.length + ys.length))) e)) (b := w.heap.size) (base := 0) hsz hne'
        (cap := grownCap w (xs.length + ys.length) c e) (c := grownCap w (xs.length + ys.length) c e)
        (fun x h1 _ => by rw [alloc_heap]; rw [if_neg]; exact h1) (by simp [World.alloc]) rfl rfl rfl (by rw [alloc_heap]; exact if_pos rfl) hg
        (by
          simp [flatE_length, size_zeroCells, hzs]
          rw [← Nat.add_mul, ← Nat.add_mul]
          exact Nat.mul_le_mul_right _ (by omega)) Ex.v Ey2
        (fun m j hm hj => by
          have := hlt m j hm hj
          rw [Array.getElem?_append_left (by simp [flatE_length]; omega), Array.getElem?_append_left (by simp [flatE_length]; omega)]
          simp only [List.getElem?_toArray, Nat.zero_add]
          exact flatE_get xs.length i.size fx hsz hm hj)
        (fun m j hm hj => by
          have hq := flatE_get ys.length i.size fy hsz hm hj
          have hl := (List.getElem?_eq_some_iff.1 hq).1
          rw [show 0 + (xs.length + m) * i.size + j = xs.length * i.size + (m * i.size + j) by rw [Nat.add_mul]; omega]
          rw [Array.getElem?_append_left (by simp [flatE_length] at hl ⊢; omega), Array.getElem?_append_right (by simp [flatE_length])]
          simp only [List.getElem?_toArray, List.size_toArray, flatE_length, Nat.add_sub_cancel_left]
          exact hq)
        ⟨by cases h9 : gh2.own w.heap.size with | none => rfl | some q => exact absurd rfl (hbig _ (.inl ⟨q, h9⟩)), fun h9 => absurd rfl (hbig _ (.inr (.inl h9))), fun h9 => absurd h9 (by have := H2.frm.size; omega)⟩
        (fun m j x hx => ⟨hbig x (.inr (.inr (hF2 x (hGx m j x hx).1).2.2.1)), (hF2 x (hGx m j x hx).1).1, (hF2 x (hGx m j x hx).1).2.2.2⟩)
        (fun m j x hx => ⟨hbig x (.inr (.inr (hyf m j x hx).2.1)), hgy2 m j x hx⟩)
        (fun m j m' j' x hx => hFG x m' j' (hGx m j x hx).1) hg rfl
      exact ⟨_, _, _, _, _, h4, hval hrun, I, T⟩
end
end Go.Pv

set_option linter.unusedSimpArgs false
set_option linter.unusedVariables false
namespace Go.Pv
variable {α : Type} {w0 : World} {mine : Mine} {N : Nat} {pb : List Nat} {gh : Gh} {s : St} {a : Act} {w : World} {g : Ora} {r : α × St} {P : Program} {own : Nat → Nat → Mode}

theorem zeroT_inv {t : TypeId} {zs : List V} (h : zeroT P t = some zs) : ∃ i z, P.info? t = some i ∧ i.zero = some z ∧ z.cells.size = i.size ∧ zs.length = i.size ∧ z.cells.toList.map vOf1 = zs.map some := by
  simp only [zeroT, Option.bind_eq_some_iff] at h
  obtain ⟨i, h1, z, h2, l, h3, h4⟩ := h
  split at h4
  · injection h4 with h4; subst h4
    have h5 := allSome_get h3
    have h6 := congrArg List.length h5
    simp at h6
    exact ⟨i, z, h1, h2, by omega, by assumption, h5⟩
  · cases h4
theorem rowX_chk {sz : Nat} {ne b : Bool} {V : V} {c : List (List Pv.V) → Bool} {k : List (List Pv.V) → M α} (h : (rowX sz ne V fun xs => chk (c xs) (chk b (k xs))).run g s = some r) : b = true ∧ (rowX sz ne V fun xs => chk (c xs) (k xs)).run g s = some r := by
  cases b with
  | true => exact ⟨rfl, by simpa [chk] using h⟩
  | false =>
    exfalso
    have h0 : ∀ c : Bool, (chk c (chk false (M.fail : M α))) = .fail := by intro c; cases c <;> rfl
    have h1 : ∀ xs, chk (c xs) (chk false (k xs)) = (M.fail : M α) := by intro xs; cases c xs <;> rfl
    simp only [h1] at h
    unfold rowX at h
    split at h
    · exact run_fail_ h
    · simp only [rdA, M.run] at h
      split at h
      · split at h
        · exact run_fail_ h
        · unfold chk at h
          split at h
          · simp [M.run] at h
          · exact run_fail_ h
      · exact run_fail_ h
    · exact run_fail_ h
section
variable [Glb]
theorem app_ok {o : Oper} {c : Call} {x y : Operand} {t u e : TypeId} {i : TypeInfo} {zs : List V} (ho : o.op = .call c) (hc : c.callee = .builtin .append) (ha : c.args.toList = [x, y]) (hts : c.argTypes.toList = [t, u])
    (ht : P.underlying t = some (.slice e)) (hu : P.underlying u = some (.slice e)) (hi : P.info? e = some i) (hz : zeroT P e = some zs) (hsz : 0 < i.size) (hby : 0 < i.bytes) : SemOK P own o (.app i.size i.bytes (ptrT P e) (arOf x) (arOf y)) := by
  intro α w0 mine N pb gh s a w g dst k r H h
  have ha' : c.args = #[x, y] := by rw [← Array.toList_inj, ha]
  have hts' : c.argTypes = #[t, u] := by rw [← Array.toList_inj, hts]
  obtain ⟨i', z, hi', hz', hzs, _, _⟩ := zeroT_inv hz
  rw [hi] at hi'; injection hi' with hi'; subst hi'
  simp only [sem] at h
  obtain ⟨X, h1, hX⟩ := get_ok H h
  obtain ⟨Y, h2, hY⟩ := get_ok H h1
  obtain ⟨gh1, s1, ys, A, cy, ey, h3, H1, ⟨Fs, S⟩, hE⟩ := rowY_ok H hY h2
  obtain ⟨hal, h4⟩ := rowX_chk h3
  obtain ⟨fy, Gy, E, hfree⟩ := hE i.size hal
  have hX1 : RT gh1 w.heap X (a.eval x) := hX.congr S.sh S.ai S.bi
  refine append_any (P := P) (o := o) (t := t) (u := u) (e := e) (i := i) (z := z) (d := .slice e) (ty := o.type) ht hi hz' hzs hu (.inl ⟨e, rfl⟩) hsz hby H1 (Y := a.eval y) (ys := ys) (fy := fy) (Gy := Gy) (ne := !ys.isEmpty)
    (fun w' => by rw [ey]; simp [Builtin.lenOf]) (fun w' hw => by rw [ey]; exact E.first hsz hw) (by rw [S.sh]; exact E.v) ?_ (by rintro rfl; rfl) hX1 h4 ?_
  · intro m j q hq
    obtain ⟨e1, n, e2⟩ := hfree m j q hq
    exact ⟨e1, (H.own q _ e2).2⟩
  · simp [execOp, ho, resolve, hc, invoke, builtin, ha', hts']
theorem apps_ok {o : Oper} {c : Call} {x y : Operand} {t u e : TypeId} {i : TypeInfo} {zs : List V} (ho : o.op = .call c) (hc : c.callee = .builtin .append) (ha : c.args.toList = [x, y]) (hts : c.argTypes.toList = [t, u])
    (ht : P.underlying t = some (.slice e)) (hu : P.underlying u = some .string) (hi : P.info? e = some i) (hz : zeroT P e = some zs) (hsz : i.size = 1) (hby : i.bytes = 1) : SemOK P own o (.apps (arOf x) (arOf y)) := by
  intro α w0 mine N pb gh s a w g dst k r H h
  have ha' : c.args = #[x, y] := by rw [← Array.toList_inj, ha]
  have hts' : c.argTypes = #[t, u] := by rw [← Array.toList_inj, hts]
  obtain ⟨i', z, hi', hz', hzs, _, _⟩ := zeroT_inv hz
  rw [hi] at hi'; injection hi' with hi'; subst hi'
  simp only [sem] at h
  obtain ⟨X, h1, hX⟩ := get_ok H h
  obtain ⟨Y, h2, hY⟩ := get_ok H h1
  obtain ⟨b, rfl, eY, h3⟩ := asS_ok hY h2
  have hlen : (b.data.toList.map fun q => [intK .u8 q.toNat]).length = b.size := by simp
  have hflat : ∀ m j, m < b.size → j < 1 → True := fun _ _ _ _ => trivial
  refine append_any (P := P) (o := o) (t := t) (u := u) (e := e) (i := i) (z := z) (d := .string) (ty := o.type) ht hi hz' hzs hu (.inr rfl) (by omega) (by omega) H (Y := a.eval y) (ys := b.data.toList.map fun q => [intK .u8 q.toNat])
    (fy := fun m _ => .int .u8 (b.data[m]?.getD 0).toNat) (Gy := fun _ _ => noB) (ne := decide (0 < b.size))
    (fun w' => by rw [eY, hlen]; simp [Builtin.lenOf]) ?_ ?_ (fun _ _ _ h => h.elim) ?_ hX (by rw [hlen, hsz, hby]; exact h3) ?_
  · intro w' hw
    rw [eY, hlen, hsz]
    have : b.data.map (fun q => Value.int .u8 q.toNat) = (flatE b.size 1 fun m _ => Value.int .u8 (b.data[m]?.getD 0).toNat).toArray := by
      apply Array.ext'
      apply List.ext_getElem?
      intro q
      have hs : b.size = b.data.size := rfl
      simp only [flatE, Array.toList_map, List.getElem?_map, Array.getElem?_toList, Nat.mul_one, hs]
      by_cases hq : q < b.data.size
      · rw [List.getElem?_range (by simpa using hq)]
        simp [Array.getElem?_eq_getElem hq]
      · rw [Array.getElem?_eq_none (by omega), List.getElem?_eq_none (by simp; exact Nat.le_of_not_lt hq)]
        rfl
    simp [Builtin.firstCells, this]
  · refine ⟨?_, ?_, fun _ _ _ _ _ h => h.elim⟩
    · intro m cs hm
      simp at hm
      obtain ⟨q, _, rfl⟩ := hm
      simp [hsz]
    · intro m cs j v hm hj
      simp at hm
      obtain ⟨q, hq, rfl⟩ := hm
      cases j with
      | zero =>
        simp [intK] at hj
        subst hj
        have : (b.data[m]?.getD 0).toNat = q.toNat := by rw [hq]; rfl
        simp only [this]
        exact .sc _ _ rfl fun _ h => h
      | succ j => simp at hj
  · intro h0
    have := congrArg List.length h0
    rw [hlen] at this
    simp at this
    simp [this]
  · simp [execOp, ho, resolve, hc, invoke, builtin, ha', hts']
end
end Go.Pv

set_option linter.unusedSimpArgs false
set_option linter.unusedVariables false
namespace Go.Pv
variable {α : Type} {w0 : World} {mine : Mine} {N : Nat} {pb : List Nat} {gh : Gh} {s : St} {a : Act} {w : World} {g : Ora} {r : α × St} {P : Program} {own : Nat → Nat → Mode}

theorem XRL.ors {sh : BSet} {h : Array Obj} {bi : Nat → Option Nat} : ∀ {l : List V} {xs : List Value} {Fs : List BSet}, XRL sh h bi l xs Fs → l.all clo1 = true →
    ∃ G : Nat → BSet, (∀ (j : Nat) (v : V) (x : Value), l[j]? = some v → xs[j]? = some x → OR sh h v x (G j)) ∧ (∀ j x, G j x → ∃ F ∈ Fs, F x) ∧ (Fs.Pairwise Disj → ∀ j j' x, G j x → G j' x → j = j')
  | [], _, _, H, _ => by
    cases H
    exact ⟨fun _ => noB, by simp, fun _ _ h => h.elim, fun _ _ _ _ h => h.elim⟩
  | v :: l, _, _, H, hc => by
    cases H with
    | cons _ _ x xs Fs Gs h1 h2 =>
      simp only [List.all_cons, Bool.and_eq_true] at hc
      obtain ⟨G, g1, g2, g3⟩ := h2.ors hc.2
      obtain ⟨F, f1, f2⟩ : ∃ F, OR sh h v x F ∧ ∀ y, F y → ∃ F' ∈ Fs, F' y := by
        cases h1 with
        | sc _ ho => exact ⟨noB, .sc _ noB ho fun _ h => h, fun _ h => h.elim⟩
        | fz ys _ hf => exact ⟨noB, .fz ys _ noB hf fun _ h => h, fun _ h => h.elim⟩
        | own ys _ F ho => exact ⟨F, ho, fun y hy => ⟨F, by simp, hy⟩⟩
        | _ => simp [clo1] at hc
      refine ⟨fun j => match j with | 0 => F | j + 1 => G j, ?_, ?_, ?_⟩
      · intro j u y hu hy
        cases j with
        | zero => simp at hu hy; subst hu; subst hy; exact f1
        | succ j => exact g1 j u y (by simpa using hu) (by simpa using hy)
      · intro j y hy
        cases j with
        | zero => obtain ⟨F', e1, e2⟩ := f2 y hy; exact ⟨F', List.mem_append_left _ e1, e2⟩
        | succ j => obtain ⟨F', e1, e2⟩ := g2 j y hy; exact ⟨F', List.mem_append_right _ e1, e2⟩
      · intro hp j j' y hy hy'
        obtain ⟨p1, p2, p3⟩ := List.pairwise_append.1 hp
        cases j with
        | zero =>
          cases j' with
          | zero => rfl
          | succ j' =>
            exfalso
            obtain ⟨F1, e1, e2⟩ := f2 y hy
            obtain ⟨F2, e3, e4⟩ := g2 j' y hy'
            exact p3 F1 e1 F2 e3 y e2 e4
        | succ j =>
          cases j' with
          | zero =>
            exfalso
            obtain ⟨F1, e1, e2⟩ := f2 y hy'
            obtain ⟨F2, e3, e4⟩ := g2 j y hy
            exact p3 F1 e1 F2 e3 y e2 e4
          | succ j' => rw [g3 p2 j j' y hy hy']
section
variable [Glb]
/-- cells that go into a row -/
theorem cloL_ok (H : Inv w0 mine N pb gh s a w) {l : List V} {vs : List Value} {k : List V → M α} (hl : l.length = vs.length) (hv : ∀ (i : Nat) (c : V) (v : Value), l[i]? = some c → vs[i]? = some v → RT gh w.heap c v) (h : (cloL l k).run g s = some r) :
    ∃ gh' s' l' Fs, ∃ G : Nat → BSet, (k l').run g s' = some r ∧ Inv w0 mine N pb gh' s' a w ∧ Step gh s gh' s' Fs ∧ l'.length = vs.length ∧ (∀ (j : Nat) (v : V) (x : Value), l'[j]? = some v → vs[j]? = some x → OR gh.sh w.heap v x (G j)) ∧
      (∀ j x, G j x → gh'.own x = none ∧ ∃ n, gh.own x = some (.a n)) ∧ (∀ j j' x, G j x → G j' x → j = j') := by
  unfold cloL at h
  obtain ⟨gh', s', l', sh, Fs, e1, e2, e3, e4, eL, e5, e6⟩ := expL_ok true l α gh s r vs _ H hl hv h
  clear eL
  obtain ⟨h1, h2⟩ := chk_ok e1
  have hx := e6 gh.sh (fun _ h => h) (by rw [e4 rfl]; simp) fun F hF x hx => by
    obtain ⟨_, n, e⟩ := e3.free F hF x hx
    exact (H.own x _ e).1
  obtain ⟨G, g1, g2, g3⟩ := hx.ors h1
  refine ⟨gh', s', l', Fs, G, h2, e2, e3, ?_, g1, ?_, g3 e3.disj⟩
  · clear h2 h1 e6 e1 g1 h hl hv
    generalize hsh : gh.sh = sh0 at hx
    clear g2 g3 e2 e3 H
    induction l' generalizing vs Fs with
    | nil => cases hx; rfl
    | cons v l' ih => cases hx with | cons _ _ x xs Fs Gs h1 h2 => simp [ih _ h2]
  · intro j x hx
    obtain ⟨F, f1, f2⟩ := g2 j x hx
    exact e3.free F f1 x f2
end
theorem RowOk.orow {n : Nat} {ai : AI} {xs : List (List V)} {h : Array Obj} (H : RowOk gh h n ai false xs) (hne : xs ≠ []) : ∃ c t f Fs, ORow gh.sh h xs ai.b ai.base ai.s ai.cap c t f Fs (fun x => gh.own x = some (.a n)) := by
  rcases H with ⟨h0, _, _⟩ | ⟨h1, h2, h3, c', t', h4, h5⟩
  · exact absurd h0 hne
  · obtain ⟨_, b, base, s, c, t, f, Fs, hA, R⟩ := h1.row hne
    injection hA with hA; injection hA with e1 e2; subst e1; subst e2
    have hs : s = ai.s := by
      have hi := List.getElem?_eq_getElem (l := xs) (i := 0) (List.length_pos_iff.2 hne)
      rw [← R.len _ _ hi, h2 _ (List.mem_of_getElem? hi)]
    subst hs
    exact ⟨c, t, f, Fs, R⟩
/-- a cell of a row, that may be a name, if told -/
def ElX (hol : Bool) (gh : Gh) (h : Array Obj) (v : V) (x : Value) (F : BSet) : Prop := OR gh.sh h v x F ∨ (hol = true ∧ isRf v = true ∧ RT gh h v x ∧ ∀ y, ¬ F y)
theorem ElX.blk {hol : Bool} {h : Array Obj} {v : V} {x : Value} {F : BSet} (H : ElX hol gh h v x F) : ∀ b, F b → b < h.size ∧ ¬ gh.sh b := by
  rcases H with H | H
  · exact H.blk
  · exact fun b hb => (H.2.2.2 b hb).elim
/-- what is known of a row, but for its cells -/
structure BRow (gh : Gh) (h : Array Obj) (n : Nat) (ai : AI) (xs : List (List V)) (c : Array Value) (t : TypeId) (f : Nat → Nat → Value) (Fs : Nat → Nat → BSet) : Prop where
  ne : xs ≠ []
  blk : h[ai.b]? = some (.cells c t (0, 0))
  le : xs.length ≤ ai.cap
  room : ai.base + ai.cap * ai.s ≤ c.size
  len : ∀ (i : Nat) (cs : List V), xs[i]? = some cs → cs.length = ai.s
  cell : ∀ (i : Nat) (cs : List V) (j : Nat) (v : V), xs[i]? = some cs → cs[j]? = some v → c[ai.base + i * ai.s + j]? = some (f i j)
  fb : gh.own ai.b = some (.a n)
  sub : ∀ i j x, i < xs.length → j < ai.s → Fs i j x → gh.own x = some (.a n) ∧ x ≠ ai.b
  inj : ∀ i j i' j' x, i < xs.length → j < ai.s → i' < xs.length → j' < ai.s → Fs i j x → Fs i' j' x → i = i' ∧ j = j'
def cellH (hol : Bool) (xs : List (List V)) : Cell := if hol then .h xs else .a false xs
section
variable [Glb]
/-- a row of one's own is written -/
theorem rowB_fin (H : Inv w0 mine N pb gh s a w) {n : Nat} {ai : AI} (hn : gh.ai n = some ai) {xs xs' : List (List V)} {c c' : Array Value} {t : TypeId} {f f' : Nat → Nat → Value} {Fs Fs' : Nat → Nat → BSet}
    (hol : Bool) (R : BRow gh w.heap n ai xs c t f Fs) (hc : c'.size = c.size) (hl : xs'.length = xs.length) (hlen : ∀ (i : Nat) (cs : List V), xs'[i]? = some cs → cs.length = ai.s)
    (hcell : ∀ i j, i < xs.length → j < ai.s → c'[ai.base + i * ai.s + j]? = some (f' i j))
    (hel : ∀ (i : Nat) (cs : List V) (j : Nat) (v : V), xs'[i]? = some cs → cs[j]? = some v → ElX hol gh w.heap v (f' i j) (Fs' i j))
    (hF : ∀ i j x, i < xs.length → j < ai.s → Fs' i j x → x ≠ ai.b ∧ ((gh.own x = none ∧ (x < w0.heap.size → mine x)) ∨ gh.own x = some (.a n)))
    (hinj : ∀ i j i' j' x, i < xs.length → j < ai.s → i' < xs.length → j' < ai.s → Fs' i j x → Fs' i' j' x → i = i' ∧ j = j') :
    ∃ gh', Inv w0 mine N pb gh' (s.put (.a n) (cellH hol xs')) a (w.setRow ai.b c') := by
  have hnsh : ¬ gh.sh ai.b := (H.own _ _ R.fb).1
  have hblk := (Array.getElem?_eq_some_iff.1 R.blk).1
  have hin : ∀ {i : Nat} {cs : List V} {j : Nat} {v : V}, xs'[i]? = some cs → cs[j]? = some v → i < xs.length ∧ j < ai.s := fun hi hj => ⟨by rw [← hl]; exact (List.getElem?_eq_some_iff.1 hi).1, by rw [← hlen _ _ hi]; exact (List.getElem?_eq_some_iff.1 hj).1⟩
  have hsub : ∀ i j x, i < xs'.length → j < ai.s → Fs' i j x → (x = ai.b ∨ ∃ i j, i < xs.length ∧ j < ai.s ∧ Fs' i j x) ∧ x ≠ ai.b := by
    intro i j x hi hj hx
    rw [hl] at hi
    exact ⟨.inr ⟨i, j, hi, hj, hx⟩, (hF i j x hi hj hx).1⟩
  have hinj' : ∀ i j i' j' x, i < xs'.length → j < ai.s → i' < xs'.length → j' < ai.s → Fs' i j x → Fs' i' j' x → i = i' ∧ j = j' := by
    intro i j i' j' x hi hj hi' hj'
    rw [hl] at hi hi'
    exact hinj i j i' j' x hi hj hi' hj'
  have hcov : ∀ x, (x = ai.b ∨ ∃ i j, i < xs.length ∧ j < ai.s ∧ Fs' i j x) → x = ai.b ∨ ∃ i j, i < xs'.length ∧ j < ai.s ∧ Fs' i j x := by
    intro x hx; rw [hl]; exact hx
  have hne' : xs' ≠ [] := by intro h0; rw [h0] at hl; exact R.ne (List.eq_nil_of_length_eq_zero hl.symm)
  have hOR : ∀ (i : Nat) (cs : List V) (j : Nat) (v : V), xs'[i]? = some cs → cs[j]? = some v → OR gh.sh w.heap v (f' i j) (Fs' i j) → OR gh.sh (w.setRow ai.b c').heap v (f' i j) (Fs' i j) := by
    intro i cs j v hi hj h0
    refine h0.mono (fun _ h => h) (fun x hx => setRow_other w ai.b x c' fun e => hnsh (e ▸ hx)) fun x hx => ⟨setRow_other w ai.b x c' (hF i j x (hin hi hj).1 (hin hi hj).2 hx).1, (h0.blk x hx).2⟩
  have hFx : ∀ x, (x = ai.b ∨ ∃ i j, i < xs.length ∧ j < ai.s ∧ Fs' i j x) → (gh.own x = none ∨ gh.own x = some (.a n)) ∧ ¬ gh.sh x ∧ x < (w.setRow ai.b c').heap.size ∧ (x < w0.heap.size → mine x) := by
    intro x hx
    have hown : ∀ {y : Nat}, gh.own y = some (.a n) → (gh.own y = none ∨ gh.own y = some (.a n)) ∧ ¬ gh.sh y ∧ y < (w.setRow ai.b c').heap.size ∧ (y < w0.heap.size → mine y) := fun {y} hy => ⟨.inr hy, (H.own y _ hy).1, by simpa using (H.own y _ hy).2.1, (H.own y _ hy).2.2⟩
    rcases hx with rfl | ⟨i, j, hi, hj, hx⟩
    · exact hown R.fb
    · rcases (hF i j x hi hj hx).2 with ⟨h1, h2⟩ | h1
      · have hi' : i < xs'.length := by omega
        have h3 := List.getElem?_eq_getElem hi'
        have h4 := hlen i _ h3
        have h5 := (hel i _ j _ h3 (List.getElem?_eq_getElem (by omega))).blk x hx
        exact ⟨.inl h1, h5.2, by simpa using h5.1, h2⟩
      · exact hown h1
  have hheap' : ∀ x, x < w.heap.size → ¬ (x = ai.b ∨ ∃ i j, i < xs.length ∧ j < ai.s ∧ Fs' i j x) → (w.setRow ai.b c').heap[x]? = w.heap[x]? := fun x hx hf => setRow_other w ai.b x c' fun e => hf (.inl e)
  cases hol with
  | false =>
    have R' : ORow gh.sh (w.setRow ai.b c').heap xs' ai.b ai.base ai.s ai.cap c' t f' Fs' (fun x => x = ai.b ∨ ∃ i j, i < xs.length ∧ j < ai.s ∧ Fs' i j x) :=
      ⟨hne', setRow_heap w ai.b c c' t (0, 0) R.blk, by rw [hl]; exact R.le, by rw [hc]; exact R.room, hlen, fun i cs j v hi hj => hcell i j (hin hi hj).1 (hin hi hj).2,
        fun i cs j v hi hj => hOR i cs j v hi hj ((hel i cs j v hi hj).resolve_right (by rintro ⟨h, _⟩; cases h)), hnsh, .inl rfl, hsub, hinj', hcov⟩
    exact ⟨_, H.setA (n := n) (ai := ai) (F := fun x => x = ai.b ∨ ∃ i j, i < xs.length ∧ j < ai.s ∧ Fs' i j x) (.inr hn) hFx hheap' (by simp) rfl rfl rfl (.inr R'.rowOk) (.setRow R.blk hc)⟩
  | true =>
    refine ⟨_, H.setC (n := n) (ai := ai) (F := fun x => x = ai.b ∨ ∃ i j, i < xs.length ∧ j < ai.s ∧ Fs' i j x) (cc := .h xs') (.inr hn) hFx hheap' (by simp) rfl rfl rfl ⟨c', t, f', Fs', ?_⟩ (.setRow R.blk hc)⟩
    refine ⟨hne', setRow_heap w ai.b c c' t (0, 0) R.blk, by rw [hl]; exact R.le, by rw [hc]; exact R.room, hlen, fun i cs j v hi hj => hcell i j (hin hi hj).1 (hin hi hj).2, ?_, (Gh.setA_own _).2 (.inl rfl), ?_, hinj', ?_⟩
    · intro i cs j v hi hj
      rcases hel i cs j v hi hj with h0 | ⟨_, h1, h2, h3⟩
      · exact .inl (hOR i cs j v hi hj h0)
      · refine .inr ⟨h1, ?_, h3⟩
        refine RT.mono (gh := gh) (h := w.heap) ?_ (fun x hx => setRow_other w ai.b x c' fun e => hnsh (e ▸ hx)) ?_ ?_ h2
        · exact fun _ h => h
        case refine_3 => exact fun _ _ h => h
        intro m y hm
        simp only [Gh.setA]
        split
        · rename_i e; subst e; rw [hn] at hm; exact hm
        · exact hm
    · intro i j x hi hj hx
      exact ⟨(Gh.setA_own _).2 (hsub i j x hi hj hx).1, (hsub i j x hi hj hx).2⟩
    · intro x hx
      exact hcov x ((Gh.setA_own _).1 hx)
theorem row_fin (H : Inv w0 mine N pb gh s a w) {n : Nat} {ai : AI} (hn : gh.ai n = some ai) {xs xs' : List (List V)} {c c' : Array Value} {t : TypeId} {f f' : Nat → Nat → Value} {Fs Fs' : Nat → Nat → BSet}
    (R : ORow gh.sh w.heap xs ai.b ai.base ai.s ai.cap c t f Fs (fun x => gh.own x = some (.a n))) (hc : c'.size = c.size) (hl : xs'.length = xs.length) (hlen : ∀ (i : Nat) (cs : List V), xs'[i]? = some cs → cs.length = ai.s)
    (hcell : ∀ i j, i < xs.length → j < ai.s → c'[ai.base + i * ai.s + j]? = some (f' i j))
    (hel : ∀ (i : Nat) (cs : List V) (j : Nat) (v : V), xs'[i]? = some cs → cs[j]? = some v → OR gh.sh w.heap v (f' i j) (Fs' i j))
    (hF : ∀ i j x, i < xs.length → j < ai.s → Fs' i j x → x ≠ ai.b ∧ ((gh.own x = none ∧ (x < w0.heap.size → mine x)) ∨ gh.own x = some (.a n)))
    (hinj : ∀ i j i' j' x, i < xs.length → j < ai.s → i' < xs.length → j' < ai.s → Fs' i j x → Fs' i' j' x → i = i' ∧ j = j') :
    ∃ gh', Inv w0 mine N pb gh' (s.put (.a n) (.a false xs')) a (w.setRow ai.b c') :=
  rowB_fin H hn false ⟨R.ne, R.blk, R.le, R.room, R.len, R.cell, R.fb, R.sub, R.inj⟩ hc hl hlen hcell (fun i cs j v hi hj => .inl (hel i cs j v hi hj)) hF hinj
end
theorem mul_uniq {i i' s j' : Nat} (h1 : i * s ≤ i' * s + j') (h2 : i' * s + j' < i * s + s) (hj : j' < s) : i' = i := by
  rcases Nat.lt_trichotomy i' i with h | h | h
  · have : (i' + 1) * s ≤ i * s := Nat.mul_le_mul_right _ h
    rw [Nat.add_mul] at this; omega
  · exact h
  · have : (i + 1) * s ≤ i' * s := Nat.mul_le_mul_right _ h
    rw [Nat.add_mul] at this; omega
theorem mul_in {i n s j : Nat} (hi : i < n) (hj : j < s) : i * s + j < n * s := by
  calc i * s + j < i * s + s := by omega
    _ = (i + 1) * s := by rw [Nat.add_mul]; omega
    _ ≤ n * s := Nat.mul_le_mul_right _ hi
section
variable [Glb]
/-- what is written into an element: the memory -/
theorem store_core {o : Oper} {t : TypeId} {x y : Operand} {i : TypeInfo} (ho : o.op = .store t x y) (hi : P.info? t = some i) {gh1 : Gh} {s1 : St} (H1 : Inv w0 mine N pb gh1 s1 a w) {n e off : Nat} {ai' : AI} (hn1 : gh1.ai n = some ai') (f2 : a.eval x = .pointer (some ⟨ai'.b, ai'.base + e * ai'.s + off, none⟩))
    (hs : (a.eval y).cells.size = i.size) (hone : ∀ u ∈ (a.eval y).cells.toList, u.oneCell' = true) {ws : List Pv.V} {G : Nat → BSet} (g0 : ws.length = (a.eval y).cells.toList.length) (hol : Bool)
    (g1 : ∀ (j : Nat) (v : Pv.V) (x : Value), ws[j]? = some v → (a.eval y).cells.toList[j]? = some x → ElX hol gh1 w.heap v x (G j)) (g2 : ∀ j x, G j x → gh1.own x = none ∧ (x < w0.heap.size → mine x)) (g3 : ∀ j j' x, G j x → G j' x → j = j')
    {k : Pv.V → M α} (xs : List (List Pv.V)) (cs : List Pv.V) (c : Array Value) (t' : TypeId) (f : Nat → Nat → Value) (Fs : Nat → Nat → BSet) (R : BRow gh1 w.heap n ai' xs c t' f Fs)
    (hElx : ∀ (i : Nat) (cs : List Pv.V) (j : Nat) (v : Pv.V), xs[i]? = some cs → cs[j]? = some v → ElX hol gh1 w.heap v (f i j) (Fs i j)) (hcs : xs[e]? = some cs) (hle : off + i.size ≤ cs.length) (e4 : (k (.tu [])).run g (s1.put (.a n) (cellH hol (xs.set e (setAt cs off ws)))) = some r) :
    ∃ gh' s1 V v w', (k V).run g s1 = some r ∧ OpVal P o a w v w' ∧ Inv w0 mine N pb gh' s1 a w' ∧ RT gh' w'.heap V v := by
  have hel : e < xs.length := (List.getElem?_eq_some_iff.1 hcs).1
  have hcl := R.len e cs hcs
  have hg0 : ws.length = i.size := by rw [g0]; simpa using hs
  have hm1 : e * ai'.s + (off + i.size) ≤ xs.length * ai'.s := by
    have : (e + 1) * ai'.s ≤ xs.length * ai'.s := Nat.mul_le_mul_right _ hel
    rw [Nat.add_mul] at this; omega
  have hm2 : xs.length * ai'.s ≤ ai'.cap * ai'.s := Nat.mul_le_mul_right _ R.le
  have hm3 := R.room
  have hfit : ai'.base + e * ai'.s + off + (a.eval y).cells.toList.length ≤ c.toList.length := by simp [hs]; omega
  have hrun := store_run (P := P) (w := w) hi R.blk hs (show ai'.base + e * ai'.s + off + i.size ≤ c.size by omega) hone
  have hseg := fun q => seg_get c.toList (a.eval y).cells.toList (ai'.base + e * ai'.s + off) q hfit
  have hvl : (a.eval y).cells.toList.length = i.size := by simpa using hs
  have hG : ∀ j x, G j x → x ≠ ai'.b ∧ gh1.own x = none ∧ (x < w0.heap.size → mine x) := by
    intro j x hx
    obtain ⟨q1, q2⟩ := g2 j x hx
    refine ⟨fun e => ?_, q1, q2⟩
    subst e
    have := R.fb
    rw [q1] at this; cases this
  obtain ⟨gh2, I⟩ := rowB_fin (c' := (c.toList.take (ai'.base + e * ai'.s + off) ++ (a.eval y).cells.toList ++ c.toList.drop (ai'.base + e * ai'.s + off + (a.eval y).cells.size)).toArray) H1 hn1 hol R (xs' := xs.set e (setAt cs off ws))
    (f' := fun i' j' => if i' = e ∧ off ≤ j' ∧ j' < off + i.size then ((a.eval y).cells.toList[j' - off]?).getD undef else f i' j')
    (Fs' := fun i' j' => if i' = e ∧ off ≤ j' ∧ j' < off + i.size then G (j' - off) else Fs i' j')
    (by simp; simp at hfit; omega) (by simp)
    (by
      intro q cs' hq
      rw [List.getElem?_set] at hq
      split at hq
      · injection hq with hq; subst hq; rw [setAt_length]; exact hcl
      · exact R.len q cs' hq)
    (by
      intro i' j' hi' hj'
      rw [show (a.eval y).cells.size = (a.eval y).cells.toList.length by simp, List.getElem?_toArray, hseg, hvl]
      by_cases hc : i' = e ∧ off ≤ j' ∧ j' < off + i.size
      · obtain ⟨rfl, hc1, hc2⟩ := hc
        rw [if_pos (by omega), if_pos ⟨rfl, hc1, hc2⟩, show ai'.base + i' * ai'.s + j' - (ai'.base + i' * ai'.s + off) = j' - off by omega]
        rw [List.getElem?_eq_getElem (by rw [hvl]; omega)]; rfl
      · rw [if_neg hc, if_neg]
        · have h3 := List.getElem?_eq_getElem hi'
          have h4 := R.len i' _ h3
          simpa using R.cell i' _ j' _ h3 (List.getElem?_eq_getElem (by omega))
        · intro hh
          apply hc
          have := mul_uniq (i := e) (i' := i') (s := ai'.s) (j' := j') (by omega) (by omega) hj'
          subst this
          exact ⟨rfl, by omega, by omega⟩)
    (by
      intro i' cs' j' v hi' hj'
      rw [List.getElem?_set] at hi'
      split at hi'
      · rename_i he
        subst he
        injection hi' with hi'; subst hi'
        rw [setAt_get, hg0] at hj'
        split at hj'
        · rename_i hin
          have hc : e = e ∧ off ≤ j' ∧ j' < off + i.size := ⟨rfl, hin.1, hin.2.1⟩
          rw [if_pos hc, if_pos hc]; 
          have hv := List.getElem?_eq_getElem (l := (a.eval y).cells.toList) (i := j' - off) (by rw [hvl]; omega)
          rw [hv]
          exact g1 _ v _ hj' hv
        · rename_i hin
          have hjl := (List.getElem?_eq_some_iff.1 hj').1
          rw [if_neg (fun hh => hin ⟨hh.2.1, hh.2.2, hjl⟩), if_neg (fun hh => hin ⟨hh.2.1, hh.2.2, hjl⟩)]
          exact hElx e cs j' v hcs hj'
      · rename_i he
        rw [if_neg (fun hh => he hh.1.symm), if_neg (fun hh => he hh.1.symm)]
        exact hElx i' cs' j' v hi' hj')
    (by
      intro i' j' x hi' hj' hx
      split at hx
      · exact ⟨(hG _ x hx).1, .inl (hG _ x hx).2⟩
      · exact ⟨(R.sub i' j' x hi' hj' hx).2, .inr (R.sub i' j' x hi' hj' hx).1⟩)
    (by
      intro i1 j1 i2 j2 x h1 h2 h3 h4 hx hx'
      split at hx
      · rename_i q1
        split at hx'
        · rename_i q2
          have := g3 _ _ x hx hx'
          exact ⟨by rw [q1.1, q2.1], by omega⟩
        · exfalso
          have q3 := (R.sub i2 j2 x h3 h4 hx').1
          rw [(hG _ x hx).2.1] at q3; cases q3
      · split at hx'
        · exfalso
          have q3 := (R.sub i1 j1 x h1 h2 hx).1
          rw [(hG _ x hx').2.1] at q3; cases q3
        · exact R.inj i1 j1 i2 j2 x h1 h2 h3 h4 hx hx')
  exact ⟨gh2, _, .tu [], undef, _, e4, .inr ⟨rfl, by simp [execOp, ho, f2, hrun]⟩, I, RT.undef⟩
/-- what is written into an element -/
theorem store_ep {o : Oper} {t : TypeId} {x y : Operand} {i : TypeInfo} (ho : o.op = .store t x y) (hi : P.info? t = some i) (H : Inv w0 mine N pb gh s a w) {n e off : Nat} {V : V} (hx : RT gh w.heap (.ep n e off) (a.eval x)) (hy : RT gh w.heap V (a.eval y))
    (hl : (cellsOf V).length = i.size) (h1 : (cellsOf V).all one1 = true) {k : Pv.V → M α}
    (h : (cloL (cellsOf V) fun ws => .rd (.a n) fun c => match c with
      | some (.a fz xs) => if fz then .fail else (match xs[e]? with
        | some cs => if off + i.size ≤ cs.length then .wr (.a n) (.a false (xs.set e (setAt cs off ws))) (k (.tu [])) else .fail
        | none => .fail)
      | some (.h xs) => (match xs[e]? with
        | some cs => if off + i.size ≤ cs.length then .wr (.a n) (.h (xs.set e (setAt cs off ws))) (k (.tu [])) else .fail
        | none => .fail)
      | _ => .fail).run g s = some r) :
    ∃ gh' s1 V v w', (k V).run g s1 = some r ∧ OpVal P o a w v w' ∧ Inv w0 mine N pb gh' s1 a w' ∧ RT gh' w'.heap V v := by
  obtain ⟨c1, c2⟩ := cells_ok hy
  have hs : (a.eval y).cells.size = i.size := by rw [← c1, hl]
  have hone : ∀ u ∈ (a.eval y).cells.toList, u.oneCell' = true := by
    intro u hu
    obtain ⟨j, hj, rfl⟩ := List.mem_iff_getElem.1 hu
    have hj' : j < (cellsOf V).length := by rw [c1]; simpa using hj
    have hr := c2 j _ ((a.eval y).cells.toList[j]) (List.getElem?_eq_getElem hj') (by rw [← Array.getElem?_toList]; exact List.getElem?_eq_getElem hj)
    exact hr.oneCell (List.all_eq_true.1 h1 _ (List.getElem_mem hj'))
  obtain ⟨gh1, s1, ws, Ls, G, h2, H1, S, g0, g1, g2, g3⟩ := cloL_ok H (vs := (a.eval y).cells.toList) (by simpa using c1) (fun j c v hc hv => c2 j c v hc (by simpa using hv)) h
  obtain ⟨ai', f1, f2⟩ := hx.epV
  suffices key : ∀ (hol : Bool) (xs : List (List Pv.V)) (cs : List Pv.V) (c : Array Value) (t' : TypeId) (f : Nat → Nat → Value) (Fs : Nat → Nat → BSet), BRow gh1 w.heap n ai' xs c t' f Fs →
      (∀ (i : Nat) (cs : List Pv.V) (j : Nat) (v : Pv.V), xs[i]? = some cs → cs[j]? = some v → ElX hol gh1 w.heap v (f i j) (Fs i j)) → xs[e]? = some cs → off + i.size ≤ cs.length → (k (.tu [])).run g (s1.put (.a n) (cellH hol (xs.set e (setAt cs off ws)))) = some r →
      ∃ gh' s1 V v w', (k V).run g s1 = some r ∧ OpVal P o a w v w' ∧ Inv w0 mine N pb gh' s1 a w' ∧ RT gh' w'.heap V v by
    simp only [M.run, St.get] at h2
    split at h2
    · rename_i fz xs hla
      obtain ⟨ai, e2, e3⟩ := H1.ar n _ hla
      rw [S.ai, f1] at e2; injection e2 with e2; subst e2
      cases fz with
      | true => exact (run_fail_ h2).elim
      | false =>
        simp only [Bool.false_eq_true, if_false] at h2
        split at h2
        · rename_i cs hcs
          split at h2
          · rename_i hle
            have hel : e < xs.length := (List.getElem?_eq_some_iff.1 hcs).1
            obtain ⟨c, t', f, Fs, R⟩ := RowOk.orow e3 (fun h0 => by rw [h0] at hel; simp at hel)
            exact key false xs cs c t' f Fs ⟨R.ne, R.blk, R.le, R.room, R.len, R.cell, R.fb, R.sub, R.inj⟩ (fun i cs j v hi hj => .inl (R.el i cs j v hi hj)) hcs hle h2
          · exact (run_fail_ h2).elim
        · exact (run_fail_ h2).elim
    · rename_i xs hla
      obtain ⟨ai, e2, c, t', f, Fs, R⟩ := H1.ar n _ hla
      rw [S.ai, f1] at e2; injection e2 with e2; subst e2
      split at h2
      · rename_i cs hcs
        split at h2
        · rename_i hle
          refine key true xs cs c t' f Fs ⟨R.ne, R.blk, R.le, R.room, R.len, R.cell, R.fb, R.sub, R.inj⟩ (fun i cs j v hi hj => ?_) hcs hle h2
          rcases R.el i cs j v hi hj with h0 | ⟨h0, h3, h4⟩
          · exact .inl h0
          · exact .inr ⟨rfl, h0, h3, h4⟩
        · exact (run_fail_ h2).elim
      · exact (run_fail_ h2).elim
    · exact (run_fail_ h2).elim
  intro hol xs cs c t' f Fs R hElx hcs hle e4
  exact store_core (P := P) ho hi H1 (by rw [S.ai]; exact f1) f2 hs hone (by simpa using g0) hol (fun j v x h1 h2 => .inl (by rw [S.sh]; exact g1 j v x h1 h2)) (fun j x hx => by obtain ⟨q1, m, q2⟩ := g2 j x hx; exact ⟨q1, (H.own x _ q2).2.2⟩) g3 xs cs c t' f Fs R hElx hcs hle e4
/-- a row's name is written into a row out of which it was taken -/
theorem sth_ok {o : Oper} {t : TypeId} {x y : Operand} {i : TypeInfo} (ho : o.op = .store t x y) (hi : P.info? t = some i) : SemOK P own o (.sth i.size (arOf x) (arOf y)) := by
  intro α w0 mine N pb gh s a w g dst k r H h
  simp only [sem] at h
  obtain ⟨X, h1, hX⟩ := get_ok H h
  obtain ⟨Y, h2, hY⟩ := get_ok H h1
  obtain ⟨hc, h3⟩ := chk_ok h2
  simp only [Bool.and_eq_true, decide_eq_true_eq] at hc
  obtain ⟨⟨hn, hrf⟩, h1y⟩ := hc
  split at h3
  · rename_i n e off
    obtain ⟨ai', f1, f2⟩ := hX.epV
    simp only [M.run, St.get] at h3
    split at h3
    · rename_i xs hla
      obtain ⟨ai, e2, c, t', f, Fs, R⟩ := H.ar n _ hla
      rw [f1] at e2; injection e2 with e2; subst e2
      split at h3
      · rename_i cs hcs
        split at h3
        · rename_i hle
          have hcY : cellsOf Y = [Y] := by cases Y <;> first | rfl | (simp [isRf] at hrf)
          obtain ⟨c1, c2⟩ := cells_ok hY
          rw [hcY] at c1
          have hs : (a.eval y).cells.size = i.size := by rw [hn, ← c1]; rfl
          have hv0 : ∀ u, (a.eval y).cells.toList[0]? = some u → RT gh w.heap Y u := fun u hu => c2 0 Y u (by rw [hcY]; rfl) (by simpa using hu)
          have hl1 : (a.eval y).cells.toList.length = 1 := by simp [hs, hn]
          have hone : ∀ u ∈ (a.eval y).cells.toList, u.oneCell' = true := by
            intro u hu
            obtain ⟨j, hj, rfl⟩ := List.mem_iff_getElem.1 hu
            have hj0 : j = 0 := by omega
            subst hj0
            exact (hv0 _ (List.getElem?_eq_getElem hj)).oneCell h1y
          refine store_core (P := P) (ws := [Y]) (G := fun _ _ => False) ho hi H f1 f2 hs hone (by rw [hl1]; rfl) true ?_ (fun _ _ h => h.elim) (fun _ _ _ h => h.elim) xs cs c t' f Fs ⟨R.ne, R.blk, R.le, R.room, R.len, R.cell, R.fb, R.sub, R.inj⟩ (fun i cs j v hi hj => ?_) hcs (by rw [hn]; exact hle) h3
          · intro j v u hj hu
            have hj0 : j = 0 := by have := (List.getElem?_eq_some_iff.1 hj).1; simp at this; exact this
            subst hj0
            simp at hj; subst hj
            exact .inr ⟨rfl, hrf, hv0 u hu, fun _ h => h⟩
          · rcases R.el i cs j v hi hj with h0 | ⟨h0, h3, h4⟩
            · exact .inl h0
            · exact .inr ⟨rfl, h0, h3, h4⟩
        · exact (run_fail_ h3).elim
      · exact (run_fail_ h3).elim
    · exact (run_fail_ h3).elim
  · exact (run_fail_ h3).elim
theorem store_ok {o : Oper} {t : TypeId} {x y : Operand} {i : TypeInfo} (ho : o.op = .store t x y) (hi : P.info? t = some i) : SemOK P own o (.store i.size (arOf x) (arOf y)) := by
  intro α w0 mine N pb gh s a w g dst k r H h
  simp only [sem] at h
  obtain ⟨X, h1, hX⟩ := get_ok H h
  obtain ⟨Y, h2, hY⟩ := get_ok H h1
  obtain ⟨hc, h3⟩ := chk_ok h2
  simp only [Bool.and_eq_true, decide_eq_true_eq] at hc
  split at h3
  · exact store_bx ho hi H hX hY hc.1 hc.2 h3
  · exact store_ep ho hi H hX hY hc.1 hc.2 h3
  · exact (run_fail_ h3).elim
end
end Go.Pv

set_option linter.unusedSimpArgs false
set_option linter.unusedVariables false
namespace Go.Pv
variable {α : Type} {w0 : World} {mine : Mine} {N : Nat} {pb : List Nat} {gh : Gh} {s : St} {a : Act} {w : World} {g : Ora} {r : α × St} {P : Program} {own : Nat → Nat → Mode}

section
variable [Glb]
/-- nothing was written -/
theorem Inv.same (H : Inv w0 mine N pb gh s a w) {n : Nat} {c : Cell} (h : look s.ar n = some c) : Inv w0 mine N pb gh (s.put (.a n) c) a w := by
  have har : ∀ m, look (s.put (.a n) c).ar m = look s.ar m := by
    intro m
    simp only [St.put, look_setA]
    split
    · rename_i e; subst e; exact h.symm
    · rfl
  exact { H with
    ar := fun m c' hm => H.ar m c' (by rw [← har]; exact hm)
    ar0 := fun m hm => H.ar0 m (by rw [← har]; exact hm) }
end
theorem Els.take {sh : BSet} {h : Array Obj} {ys : List (List V)} {A : Option Addr} {sz : Nat} {f : Nat → Nat → Value} {G : Nat → Nat → BSet} (E : Els sh h ys A sz f G) (n : Nat) : Els sh h (ys.take n) A sz f G := by
  have hg : ∀ (i : Nat) (cs : List V), (ys.take n)[i]? = some cs → ys[i]? = some cs := by
    intro i cs hi
    rw [List.getElem?_take] at hi
    split at hi
    · exact hi
    · cases hi
  refine ⟨?_, fun i cs hi => E.len i cs (hg i cs hi), fun i cs j v hi hj => E.el i cs j v (hg i cs hi) hj, E.inj⟩
  intro hne
  obtain ⟨b, base, cl, t, z, e1, e2, e3⟩ := E.cell (by rintro rfl; simp at hne)
  exact ⟨b, base, cl, t, z, e1, e2, fun i cs j v hi hj => e3 i cs j v (hg i cs hi) hj⟩
section
variable [Glb]
/-- some elements of a row of one's own are written -/
theorem seg_fin (H : Inv w0 mine N pb gh s a w) {n : Nat} {ai : AI} (hn : gh.ai n = some ai) {xs ys : List (List V)} {off : Nat} {c : Array Value} {t : TypeId} {f fy : Nat → Nat → Value} {Fs Gy : Nat → Nat → BSet}
    (R : ORow gh.sh w.heap xs ai.b ai.base ai.s ai.cap c t f Fs (fun x => gh.own x = some (.a n))) (hs : 0 < ai.s) (ho : off + ys.length ≤ xs.length) (Ey : ElV gh.sh w.heap ys ai.s fy Gy)
    (hGy : ∀ i j x, Gy i j x → gh.own x = none ∧ (x < w0.heap.size → mine x)) :
    ai.base + off * ai.s + (flatE ys.length ai.s fy).length ≤ c.size ∧ ∃ gh', Inv w0 mine N pb gh' (s.put (.a n) (.a false (xs.take off ++ ys ++ xs.drop (off + ys.length)))) a (w.setRow ai.b (c.toList.take (ai.base + off * ai.s) ++ flatE ys.length ai.s fy ++ c.toList.drop (ai.base + off * ai.s + (flatE ys.length ai.s fy).length)).toArray) := by
  have hfit : ai.base + off * ai.s + (flatE ys.length ai.s fy).length ≤ c.size := by
    rw [flatE_length]
    have h1 : (off + ys.length) * ai.s ≤ ai.cap * ai.s := Nat.mul_le_mul_right _ (Nat.le_trans ho R.le)
    rw [Nat.add_mul] at h1
    have := R.room
    omega
  refine ⟨hfit, ?_⟩
  have hseg := fun q => seg_get c.toList (flatE ys.length ai.s fy) (ai.base + off * ai.s) q (by simpa using hfit)
  have hxs := fun q => seg_get xs ys off q ho
  refine row_fin H hn R (xs' := xs.take off ++ ys ++ xs.drop (off + ys.length)) (f' := fun i j => if off ≤ i ∧ i < off + ys.length then fy (i - off) j else f i j) (Fs' := fun i j => if off ≤ i ∧ i < off + ys.length then Gy (i - off) j else Fs i j)
    ?_ ?_ ?_ ?_ ?_ ?_ ?_
  · simp; omega
  · simp; omega
  · intro i cs hi
    rw [hxs] at hi
    split at hi
    · exact Ey.len _ cs hi
    · exact R.len _ cs hi
  · intro i j hi hj
    rw [List.getElem?_toArray, hseg, flatE_length]
    by_cases hc : off ≤ i ∧ i < off + ys.length
    · have h1 := mul_in (i := i - off) (n := ys.length) (by omega) hj
      have h2 : i * ai.s = off * ai.s + (i - off) * ai.s := by rw [← Nat.add_mul]; congr 1; omega
      rw [if_pos (by omega), if_pos hc, show ai.base + i * ai.s + j - (ai.base + off * ai.s) = (i - off) * ai.s + j by omega]
      exact flatE_get ys.length ai.s fy hs (by omega) hj
    · rw [if_neg hc, if_neg]
      · have h3 := List.getElem?_eq_getElem hi
        have h4 := R.len i _ h3
        simpa using R.cell i _ j _ h3 (List.getElem?_eq_getElem (by omega))
      · intro hh
        apply hc
        constructor
        · apply Nat.le_of_not_lt
          intro hlt
          have := mul_in (i := i) (n := off) hlt hj
          omega
        · apply Nat.lt_of_not_le
          intro hle
          have : (off + ys.length) * ai.s ≤ i * ai.s := Nat.mul_le_mul_right _ hle
          rw [Nat.add_mul] at this
          omega
  · intro i cs j v hi hj
    rw [hxs] at hi
    split at hi
    · rename_i hc
      rw [if_pos hc, if_pos hc]
      exact Ey.el _ cs j v hi hj
    · rename_i hc
      rw [if_neg hc, if_neg hc]
      exact R.el _ cs j v hi hj
  · intro i j x hi hj hx
    split at hx
    · refine ⟨fun e => ?_, .inl (hGy _ _ x hx)⟩
      subst e
      have := R.fb
      rw [(hGy _ _ _ hx).1] at this; cases this
    · exact ⟨(R.sub i j x hi hj hx).2, .inr (R.sub i j x hi hj hx).1⟩
  · intro i j i' j' x hi hj hi' hj' hx hx'
    split at hx
    · split at hx'
      · have := Ey.inj _ _ _ _ x hx hx'
        omega
      · exfalso
        have := (R.sub i' j' x hi' hj' hx').1
        rw [(hGy _ _ x hx).1] at this; cases this
    · split at hx'
      · exfalso
        have := (R.sub i j x hi hj hx).1
        rw [(hGy _ _ x hx').1] at this; cases this
      · exact R.inj i j i' j' x hi hj hi' hj' hx hx'
end
/-- zero's cells -/
theorem zero_or {zs : List V} {z : Value} (hz : z.cells.toList.map vOf1 = zs.map some) (hc : zs.all clo1 = true) (sh : BSet) (h : Array Obj) {j : Nat} {v : V} (hj : zs[j]? = some v) : OR sh h v (z.cells[j]!) noB := by
  have h1 := congrArg (·[j]?) hz
  simp [hj] at h1
  obtain ⟨x, hq, h1⟩ := h1
  have h2 : z.cells[j]! = x := by rw [getElem!_def, hq]
  rw [h2]
  have h3 := vOf1_ok h1 ⟨noB, fun _ => none, fun _ => none, fun _ => none⟩ h
  have h4 := List.all_eq_true.1 hc v (List.mem_of_getElem? hj)
  cases v with
  | sc u => rw [h3.scV.1]; exact .sc u noB h3.scV.2 fun _ h => h
  | ls o xs =>
    rcases h3.lsV with ⟨rfl, hf⟩ | ⟨rfl, rfl, A, rfl⟩
    · unfold vOf1 at h1
      split at h1 <;> first | (cases h1; done) | (split at h1 <;> cases h1)
    · exact .nil A noB fun _ h => h
  | _ => simp [clo1] at h4
theorem zero_el {zs : List V} {z : Value} (hz : z.cells.toList.map vOf1 = zs.map some) (hc : zs.all clo1 = true) (sh : BSet) (h : Array Obj) (n : Nat) : ElV sh h (List.replicate n zs) zs.length (fun _ j => z.cells[j]!) (fun _ _ => noB) := by
  refine ⟨?_, ?_, fun _ _ _ _ _ h => h.elim⟩
  · intro i cs hi
    rw [(List.mem_replicate.1 (List.mem_of_getElem? hi)).2]
  · intro i cs j v hi hj
    rw [(List.mem_replicate.1 (List.mem_of_getElem? hi)).2] at hj
    exact zero_or hz hc sh h hj
theorem zeroCells_flat (z : Array Value) (n : Nat) : (Builtin.zeroCells z n).toList = flatE n z.size fun _ j => z[j]! := by
  simp [Builtin.zeroCells, flatE]
section
variable [Glb]
theorem clear_ok {o : Oper} {c : Call} {x : Operand} {t e : TypeId} {zs : List V} (ho : o.op = .call c) (hc : c.callee = .builtin .clear) (ha : c.args.toList = [x]) (hts : c.argTypes.toList = [t])
    (ht : P.underlying t = some (.slice e)) (hz : zeroT P e = some zs) (hpos : 0 < zs.length) : SemOK P own o (.clear zs (arOf x)) := by
  intro α w0 mine N pb gh s a w g dst k r H h
  have ha' : c.args = #[x] := by rw [← Array.toList_inj, ha]
  have hts' : c.argTypes = #[t] := by rw [← Array.toList_inj, hts]
  obtain ⟨i, z, hi, hz', hzs, hzl, hzv⟩ := zeroT_inv hz
  have hex : execOp a.eval o = (do pure (Next.value (← Builtin.clear_ #[t] o.type #[a.eval x]))) := by simp [execOp, ho, resolve, hc, invoke, builtin, ha', hts']
  simp only [sem] at h
  obtain ⟨X, h1, hX⟩ := get_ok H h
  split at h1
  · rename_i n off len
    obtain ⟨ai, A, cp, e1, e2, e3, e4, e5⟩ := hX.rfV
    obtain ⟨fz, xs, ai', f1, f2, f3, f4⟩ := rdA_ok H h1
    rw [e1] at f2; injection f2 with f2; subst f2
    cases fz with
    | true => exact (run_fail_ f4).elim
    | false =>
      simp only [Bool.false_eq_true, if_false] at f4
      split at f4
      · rename_i hle
        obtain ⟨g1, g2⟩ := chk_ok f4
        simp only [Bool.and_eq_true] at g1
        by_cases hl : len = 0
        · subst hl
          have hh : xs.take off ++ List.replicate 0 zs ++ xs.drop (off + 0) = xs := by simp
          rw [hh] at g2
          refine ⟨_, _, .tu [], undef, w, g2, .inl ?_, H.same f1, RT.undef⟩
          rw [hex, e5]
          cases A <;> simp [Builtin.clear_, run_underlying ht] <;> rfl
        · have hxs : xs ≠ [] := by rintro rfl; simp at hle; omega
          obtain ⟨cl, tt, f, Fs, R⟩ := f3.orow hxs
          have hs : ai.s = zs.length := by
            have hi0 := List.getElem?_eq_getElem (l := xs) (i := 0) (List.length_pos_iff.2 hxs)
            rw [← R.len _ _ hi0, allLen_get g1.1 hi0]
          have hA := e4.resolve_left (by omega)
          obtain ⟨hfit, gh', I⟩ := seg_fin (ys := List.replicate len zs) (off := off) (fy := fun _ j => z.cells[j]!) (Gy := fun _ _ => noB) H e1 R (by omega) (by simpa using hle) (by rw [hs]; exact zero_el hzv g1.2 _ _ _) (fun _ _ _ h => h.elim)
          simp only [List.length_replicate] at I hfit
          have hfl : (Builtin.zeroCells z.cells len).toList = flatE len ai.s fun _ j => z.cells[j]! := by rw [zeroCells_flat, hzs, ← hzl, hs]
          have hone : ∀ u ∈ flatE len ai.s (fun _ j => z.cells[j]!), u.oneCell' = true := by
            intro u hu
            obtain ⟨q, hq⟩ := List.getElem?_of_mem hu
            obtain ⟨m, j, hm, hj, rfl, rfl⟩ := flatE_inv (by omega) hq
            exact (zero_or hzv g1.2 noB #[] (List.getElem?_eq_getElem (l := zs) (i := j) (by omega))).one
          have hrun := run_storeCells_at (P := P) ai.b (ai.base + off * ai.s) tt (flatE len ai.s fun _ j => z.cells[j]!) 0 cl w R.blk (by simpa using hfit) hone
          simp only [Nat.add_zero] at hrun
          refine ⟨gh', _, .tu [], undef, _, g2, .inl ?_, I, RT.undef⟩
          rw [hex, e5, hA]
          obtain ⟨len', rfl⟩ : ∃ m, len = m + 1 := ⟨len - 1, by omega⟩
          simp [Builtin.clear_, run_underlying ht, zeroValue, run_info hi, hz', hfl, hrun]
          rfl
      · exact (run_fail_ f4).elim
  · rcases hX.lsV with ⟨h0, _⟩ | ⟨_, _, A, e5⟩
    · cases h0
    · refine ⟨gh, s, .tu [], undef, w, h1, .inl ?_, H, RT.undef⟩
      rw [hex, e5]
      cases A <;> simp [Builtin.clear_, run_underlying ht] <;> rfl
  · exact (run_fail_ h1).elim
end
end Go.Pv

set_option linter.unusedSimpArgs false
set_option linter.unusedVariables false
namespace Go.Pv
variable {α : Type} {w0 : World} {mine : Mine} {N : Nat} {pb : List Nat} {gh : Gh} {s : St} {a : Act} {w : World} {g : Ora} {r : α × St} {P : Program} {own : Nat → Nat → Mode}

theorem firstCells_len (sz n : Nat) (A : Option Addr) (l c l' c' : Nat) : Builtin.firstCells sz n (.slice A l c) = Builtin.firstCells sz n (.slice A l' c') := by cases A <;> rfl
section
variable [Glb]
theorem copy_ok {o : Oper} {c : Call} {x y : Operand} {t u e : TypeId} {i : TypeInfo} (ho : o.op = .call c) (hc : c.callee = .builtin .copy) (ha : c.args.toList = [x, y]) (hts : c.argTypes.toList = [t, u])
    (ht : P.underlying t = some (.slice e)) (hu : P.underlying u = some (.slice e)) (hi : P.info? e = some i) (hsz : 0 < i.size) : SemOK P own o (.copy i.size (arOf x) (arOf y)) := by
  intro α w0 mine N pb gh s a w g dst k r H h
  have ha' : c.args = #[x, y] := by rw [← Array.toList_inj, ha]
  have hts' : c.argTypes = #[t, u] := by rw [← Array.toList_inj, hts]
  have hex : execOp a.eval o = (do pure (Next.value (← Builtin.copy_ #[t, u] o.type #[a.eval x, a.eval y]))) := by simp [execOp, ho, resolve, hc, invoke, builtin, ha', hts']
  simp only [sem] at h
  obtain ⟨X, h1, hX⟩ := get_ok H h
  obtain ⟨Y, h2, hY⟩ := get_ok H h1
  obtain ⟨gh1, s1, ys, B, cy, ey, h3, H1, ⟨Ls, S⟩, hE⟩ := rowY_ok H hY h2
  have hX1 : RT gh1 w.heap X (a.eval x) := hX.congr S.sh S.ai S.bi
  split at h3
  · rename_i n off len
    obtain ⟨ai, A, cp, e1, e2, e3, e4, e5⟩ := hX1.rfV
    obtain ⟨fz, xs, ai', f1, f2, f3, f4⟩ := rdA_ok H1 h3
    rw [e1] at f2; injection f2 with f2; subst f2
    cases fz with
    | true => exact (run_fail_ f4).elim
    | false =>
      simp only [Bool.false_eq_true, if_false] at f4
      split at f4
      · rename_i hle
        obtain ⟨g1, g2⟩ := chk_ok f4
        simp only [Bool.and_eq_true] at g1
        obtain ⟨fy, Gy, E, hfree⟩ := hE i.size g1.2
        have hmin : Nat.min ys.length len = min ys.length len := rfl
        have hlt : (ys.take (min ys.length len)).length = min ys.length len := by simp
        have hfst : ∀ w' : World, w'.heap = w.heap → (Builtin.firstCells i.size (min ys.length len) (.slice B ys.length cy)).run P w' = .ok (flatE (min ys.length len) i.size fy).toArray w' := by
          intro w' hw
          have := (E.take (min ys.length len)).first (P := P) (c := cy) hsz hw
          rw [hlt] at this
          rw [firstCells_len _ _ _ _ _ (min ys.length len) cy]
          exact this
        by_cases hl : min ys.length len = 0
        · have hh : xs.take off ++ ys.take (min ys.length len) ++ xs.drop (off + min ys.length len) = xs := by rw [hl]; simp
          simp only [M.run] at g2
          rw [hh] at g2
          have h0 := hfst w rfl
          rw [hl] at h0
          refine ⟨_, _, _, goInt ((min ys.length len : Nat) : Int), w, g2, .inl ?_, H1.same f1, .sc _ rfl⟩
          rw [hex, e5, ey]
          cases A <;> simp [Builtin.copy_, run_underlying ht, Builtin.lenOf, hmin, hl, run_size hi, h0, flatE, storeCells]
        · have hxs : xs ≠ [] := by rintro rfl; simp at hle; omega
          obtain ⟨cl, tt, f, Fs, R⟩ := f3.orow hxs
          have hs : ai.s = i.size := by
            have hi0 := List.getElem?_eq_getElem (l := xs) (i := 0) (List.length_pos_iff.2 hxs)
            rw [← R.len _ _ hi0, allLen_get g1.1 hi0]
          have hA := e4.resolve_left (by omega)
          obtain ⟨hfit, gh', I⟩ := seg_fin (ys := ys.take (min ys.length len)) (off := off) (fy := fy) (Gy := Gy) H1 e1 R (by omega) (by rw [hlt]; omega) (by rw [hs, S.sh]; exact (E.take _).v) (fun m j x hx => by
            obtain ⟨q1, m', q2⟩ := hfree m j x hx
            exact ⟨q1, (H.own x _ q2).2.2⟩)
          rw [hlt, hs] at I hfit
          have hone : ∀ u ∈ flatE (min ys.length len) i.size fy, u.oneCell' = true := by
            intro u hu
            obtain ⟨q, hq⟩ := List.getElem?_of_mem hu
            obtain ⟨m, j, hm, hj, rfl, rfl⟩ := flatE_inv hsz hq
            have hm' := List.getElem?_eq_getElem (l := ys) (i := m) (by omega)
            have hl := E.len m _ hm'
            exact (E.el m _ j _ hm' (List.getElem?_eq_getElem (by omega))).one
          have hrun := run_storeCells_at (P := P) ai.b (ai.base + off * i.size) tt (flatE (min ys.length len) i.size fy) 0 cl w R.blk (by simpa using hfit) hone
          simp only [Nat.add_zero] at hrun
          have h0 := hfst w rfl
          refine ⟨gh', _, _, goInt ((min ys.length len : Nat) : Int), _, g2, .inl ?_, I, .sc _ rfl⟩
          rw [hex, e5, ey, hA, hs]
          simp [Builtin.copy_, run_underlying ht, Builtin.lenOf, hmin, run_size hi, h0, hrun]
      · exact (run_fail_ f4).elim
  · exact (run_fail_ h3).elim
end
theorem natOf_ok {V : V} {v : Value} (hv : RT gh w.heap V v) {k : Nat → M α} (h : (natOf V k).run g s = some r) : ∃ a n, 0 ≤ n ∧ V = .sc (.int a n) ∧ v = .int a n ∧ (k n.toNat).run g s = some r := by
  unfold natOf at h
  obtain ⟨a', n, e1, e2, e3⟩ := asI_ok hv h
  split at e3
  · exact ⟨a', n, by assumption, e1, e2, e3⟩
  · exact (run_fail_ e3).elim
theorem madeCells_flat (z : Array Value) (n : Nat) : (madeCells z (n * z.size)).toList = flatE n z.size fun _ j => z[j]! := by
  simp [madeCells, flatE]
section
variable [Glb]
theorem mksl_ok {o : Oper} {t e : TypeId} {x y : Operand} {i : TypeInfo} {zs : List V} (ho : o.op = .makeSlice t x y) (ht : P.underlying t = some (.slice e)) (hi : P.info? e = some i) (hz : zeroT P e = some zs) (hby : 0 < i.bytes) (hsz : 0 < i.size) :
    SemOK P own o (.mksl zs i.bytes (arOf x) (arOf y)) := by
  intro α w0 mine N pb gh s a w g dst k r H h
  obtain ⟨i', z, hi', hz', hzs, hzl, hzv⟩ := zeroT_inv hz
  rw [hi] at hi'; injection hi' with hi'; subst hi'
  simp only [sem] at h
  obtain ⟨X, h1, hX⟩ := get_ok H h
  obtain ⟨Y, h2, hY⟩ := get_ok H h1
  obtain ⟨ka, l, hl0, rfl, el, h3⟩ := natOf_ok hX h2
  obtain ⟨kb, c, hc0, rfl, ec, h4⟩ := natOf_ok hY h3
  split at h4
  · rename_i hc
    obtain ⟨c1, c2, c3, c4⟩ := hc
    obtain ⟨hd, h5⟩ := newR_ok h4
    have c2' : c.toNat * i.bytes ≤ 140737488351232 := of_decide_eq_true c2
    have hb1 : c.toNat ≤ c.toNat * i.bytes := Nat.le_mul_of_pos_right _ hby
    have hcc : ((c.toNat : Nat) : Int) = c := Int.toNat_of_nonneg hc0
    have hbb : (i.bytes : Int) * c ≤ 281474976710656 := by
      rw [← hcc]
      have : ((i.bytes * c.toNat : Nat) : Int) ≤ 281474976710656 := by rw [Nat.mul_comm]; omega
      rwa [Int.natCast_mul] at this
    have hrun := run_make (P := P) w t e i z ht hi hz' ka kb l c hl0 (by omega) hbb (by omega)
    have hai := (H.ar0 _ hd).1
    have hex : ∀ {v w'}, (Instr.makeSlice t (a.eval x) (a.eval y)).run P w = .ok v w' → OpVal P o a w v w' := by
      intro v w' hv
      left
      simp [execOp, ho, hv]
    have hnew : ∀ q, gh.own w.heap.size ≠ some q := fun q e => absurd (H.own _ _ e).2.1 (by omega)
    by_cases h0 : l.toNat = 0
    · have hc00 := c4 h0
      rw [h0] at h5
      refine ⟨_, _, _, .slice (some ⟨w.heap.size, 0, none⟩) l.toNat c.toNat, w.alloc (.cells (madeCells z.cells (c.toNat * i.size)) e), h5, hex (by rw [el, ec]; exact hrun), H.setA (n := 1000 * (dst + 1)) (ai := ⟨0, 0, 0, 0⟩) (F := noB) (xs := List.replicate 0 zs) (.inl hai) (fun _ h => h.elim) ?_ (by simp) rfl rfl rfl (.inl ⟨rfl, rfl, fun _ h => h⟩), ?_⟩
      · intro q hq _; rw [alloc_heap, if_neg (by omega)]
      · rw [h0, hc00]
        exact .rf _ 0 0 ⟨0, 0, 0, 0⟩ _ 0 (by simp [Gh.setA]) (Nat.le_refl _) (Nat.le_refl _) (.inl rfl)
    · have hor := fun {j v} => zero_or (j := j) (v := v) hzv c3 gh.sh (w.alloc (.cells (madeCells z.cells (c.toNat * i.size)) e)).heap
      have R : ORow gh.sh (w.alloc (.cells (madeCells z.cells (c.toNat * i.size)) e)).heap (List.replicate l.toNat zs) w.heap.size 0 i.size c.toNat (madeCells z.cells (c.toNat * i.size)) e (fun _ j => z.cells[j]!) (fun _ _ => noB) (fun x => x = w.heap.size) := by
        refine ⟨?_, by rw [alloc_heap, if_pos rfl], by simpa using c1, by rw [size_madeCells]; omega, ?_, ?_, ?_, fun h => absurd (H.sh _ h) (by omega), rfl, fun _ _ _ _ _ h => h.elim, fun _ _ _ _ _ _ _ _ _ h => h.elim, fun x hx => .inl hx⟩
        · intro h; have := congrArg List.length h; simp at this; omega
        · intro q cs hq; rw [(List.mem_replicate.1 (List.mem_of_getElem? hq)).2]; exact hzl
        · intro q cs j v hq hj
          have hq1 := (List.getElem?_eq_some_iff.1 hq).1
          simp at hq1
          rw [(List.mem_replicate.1 (List.mem_of_getElem? hq)).2] at hj
          have hj1 := (List.getElem?_eq_some_iff.1 hj).1
          rw [← Array.getElem?_toList, ← hzs, madeCells_flat, Nat.zero_add]
          exact flatE_get c.toNat z.cells.size _ (by omega) (by omega) (by omega)
        · intro q cs j v hq hj
          rw [(List.mem_replicate.1 (List.mem_of_getElem? hq)).2] at hj
          exact hor hj
      refine ⟨_, _, _, .slice (some ⟨w.heap.size, 0, none⟩) l.toNat c.toNat, w.alloc (.cells (madeCells z.cells (c.toNat * i.size)) e), h5, hex (by rw [el, ec]; exact hrun), H.setA (n := 1000 * (dst + 1)) (ai := ⟨w.heap.size, 0, i.size, c.toNat⟩) (F := fun x => x = w.heap.size) (xs := List.replicate l.toNat zs) (.inl hai) ?_ ?_ (by simp) rfl rfl rfl (.inr R.rowOk), ?_⟩
      · rintro q rfl
        refine ⟨.inl ?_, fun h => absurd (H.sh _ h) (by omega), by simp, fun h => absurd h (by have := H.frm.size; omega)⟩
        cases h9 : gh.own w.heap.size with
        | none => rfl
        | some q => exact absurd h9 (hnew q)
      · intro q hq _; rw [alloc_heap, if_neg (by omega)]
      · exact .rf _ 0 _ ⟨w.heap.size, 0, i.size, c.toNat⟩ _ _ (by simp [Gh.setA]) c1 (by simp) (.inr (by simp))
  · exact (run_fail_ h4).elim
end
end Go.Pv
