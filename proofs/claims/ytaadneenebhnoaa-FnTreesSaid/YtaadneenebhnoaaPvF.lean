/- Proof: regions, code and functions tell the truth: ev_sound. No condition. -/
import Derived.Test.YtaadneenebhnoaaPvE
import Derived.Orders
set_option autoImplicit true
set_option relaxedAutoImplicit true
set_option linter.unusedSimpArgs false
set_option linter.unusedVariables false
set_option linter.unusedSimpArgs false
set_option linter.unusedVariables false
namespace Go.Pv
variable {α : Type} {w0 : World} {mine : Mine} {N : Nat} {pb : List Nat} {gh : Gh} {s : St} {a : Act} {w : World} {g : Ora} {P : Program} {own : Nat → Nat → Mode}

section
variable [Glb]
theorem fin_ok (H : Inv w0 mine N pb gh s a w) {o : Oper} (hd : ∀ d, o.dst = some d → DOk N mine d) {V : V} {v : Value} (hv : RT gh w.heap V v) {s' : St} (h : (finR o.dst V).run g s = some ((), s')) : Inv w0 mine N pb gh s' (a.put o.dst v) w := by
  cases ho : o.dst with
  | none =>
    rw [ho] at h
    simp [finR, M.run] at h
    subst h
    exact H
  | some t =>
    rw [ho] at h
    simp [finR, M.run] at h
    subst h
    exact H.putT hv (hd t ho)
end
theorem run_callFunc {f : Nat} {args : Array Value} (hf : IsFn P f) : (callFunc f args).run P w = .ok (.enter f args) w := by
  obtain ⟨fn, h1, h2, h3⟩ := hf
  have h4 : ¬ fn.body = none := by intro h; rw [h] at h2; cases h2
  have h5 : ¬ fn.name = "runtime.NumGoroutine" := by simpa using h3
  simp [callFunc, h1, h4, h5]
/-- an operation that is wanted -/
theorem irOpK_call {tk : List Nat} {o : Oper} (h : isCall (irOpK P tk o) = true) : irOpK P tk o = irOp P o := by
  unfold irOpK tkOp at h ⊢
  split
  · rename_i n g p d h1 h2
    rw [h1, h2] at h
    simp only at h
    repeat' split at h
    all_goals cases h
  · rename_i n q x h1 h2
    rw [h1, h2] at h
    simp only at h
    repeat' split at h
    all_goals cases h
  · rfl
section
variable [Glb]
theorem hold_ok {o : Oper} {t : TypeId} {x : Operand} {i : TypeInfo} {ag : Bool} (ho : o.op = .load t x) (hi : P.info? t = some i) (hg : aggT P t = some ag) (h0 : i.size ≠ 0) : SemOK P own o (.hold i.size ag (arOf x)) := by
  intro α w0 mine N pb gh s a w g dst k r H h
  have h' : (sem own dst (.load i.size ag (arOf x)) (fun V => freezeA (arsOf V) (k V))).run g s = some r := h
  obtain ⟨gh', s1, V, v, w', h1, h2, h3, h4⟩ := load_ok (own := own) ho hi hg h0 α w0 mine N pb gh s a w g dst _ r H h'
  obtain ⟨s2, e1, e2, _⟩ := h3.freeze (sh' := fun y => gh'.sh y ∨ ∃ n ∈ arsOf V, gh'.own y = some (.a n)) (fun y => .inl) (by
      rintro y (hy | ⟨n, hn, hy⟩)
      · exact ⟨h3.sh y hy, fun q hq => absurd hy (h3.own y q hq).1⟩
      · refine ⟨(h3.own y _ hy).2.1, fun q hq => ⟨n, hn, ?_⟩⟩
        rw [hy] at hq; injection hq with hq; exact hq.symm) (fun n hn y hy => .inr ⟨n, hn, hy⟩) (by
      rintro y (hy | ⟨n, hn, hy⟩)
      · exact h3.shs y hy
      · by_cases hlt : y < w0.heap.size
        · exact .inr (.inl ((h3.own y _ hy).2.2 hlt))
        · exact .inr (.inr (by omega))) h1
  exact ⟨_, s2, V, v, w', e1, h2, e2, h4.mono (gh' := gh'.hold (fun y => gh'.sh y ∨ ∃ n ∈ arsOf V, gh'.own y = some (.a n)) (arsOf V)) (fun b hb => Or.inl hb) (fun _ _ => rfl) (fun _ _ h => h) (fun _ _ h => h)⟩
theorem irOpK_ok {tk : List Nat} (o : Oper) (hc : isCall (irOpK P tk o) = false) : SemOK P own o (irOpK P tk o) := by
  unfold irOpK tkOp at hc ⊢
  split
  · rename_i n g p d h1 h2
    split
    · cases ho : o.op with
      | load t x =>
        simp only [irOp, ho] at h1
        split at h1
        · rename_i n' g' h3 h4
          injection h1 with e1 e2 e3
          subst e1; subst e2; subst e3
          obtain ⟨i, h5, h6⟩ := sizeT_inv h3
          have h7 := take_ok (own := own) ho h5 h4 (by omega)
          rw [h6] at h7
          exact h7
        · cases h1
      | _ =>
        exfalso
        simp only [irOp, ho] at h1
        repeat' split at h1
        all_goals first | cases h1; done | contradiction | simp_all
    · split
      · cases ho : o.op with
        | load t x =>
          simp only [irOp, ho] at h1
          split at h1
          · rename_i n' g' h3 h4
            injection h1 with e1 e2 e3
            subst e1; subst e2; subst e3
            obtain ⟨i, h5, h6⟩ := sizeT_inv h3
            have h7 := hold_ok (own := own) ho h5 h4 (by omega)
            rw [h6] at h7
            exact h7
          · cases h1
        | _ =>
          exfalso
          simp only [irOp, ho] at h1
          repeat' split at h1
          all_goals first | cases h1; done | contradiction | simp_all
      · rw [← h1]
        exact irOp_ok o (by rw [h1]; rfl)
  · rename_i n q x h1 h2
    split
    · cases ho : o.op with
      | store t a x' =>
        simp only [irOp, ho] at h1
        split at h1
        · rename_i n' h3
          injection h1 with e1 e2 e3
          subst e1; subst e3
          rw [← e2]
          obtain ⟨i, h5, h6⟩ := sizeT_inv h3
          have h7 := sth_ok (own := own) ho h5
          rw [h6] at h7
          exact h7
        · cases h1
      | _ =>
        exfalso
        simp only [irOp, ho] at h1
        repeat' split at h1
        all_goals first | cases h1; done | contradiction | simp_all
    · rw [← h1]
      exact irOp_ok o (by rw [h1]; rfl)
  · rename_i h1 h1'
    refine irOp_ok o ?_
    split at hc
    · rename_i n g p d h2 h3
      exact absurd h3 (h1 n g p d h2)
    · rename_i n q x h2 h3
      exact absurd h3 (h1' n q x h2)
    · exact hc
theorem op_ok {tk : List Nat} (hg : OraOk P own g) (H : Inv w0 mine N pb gh s a w) {o : Oper} (hd : ∀ d, o.dst = some d → DOk N mine d) {s' : St} {Q : Exit → Act → World → Prop} (h : (sem own (o.dst.getD 999999) (irOpK P tk o) (finR o.dst)).run g s = some ((), s')) :
    o.wp P a w (fun a' w' => ∃ gh', Inv w0 mine N pb gh' s' a' w') Q := by
  by_cases hc : isCall (irOpK P tk o) = true
  · have hk := irOpK_call hc
    rw [hk] at h hc
    obtain ⟨c, x, ho, hcl⟩ : ∃ c x, o.op = .call c ∧ c.callee = .value x := by
      cases ho : o.op with
      | call c =>
        cases hcl : c.callee with
        | value x => exact ⟨c, x, rfl, hcl⟩
        | _ => 
          exfalso
          simp only [irOp, ho, hcl] at hc
          repeat' split at hc
          all_goals first | (simp [isCall] at hc; done) | contradiction | simp_all
      | _ =>
        exfalso
        simp only [irOp, ho] at hc
        repeat' split at hc
        all_goals first | (simp [isCall] at hc; done) | contradiction | simp_all
    have key : ∀ {f : Nat} {l : List V} {args : Array Value}, l.length = args.size → (∀ (i : Nat) (c : V) (v : Value), l[i]? = some c → args[i]? = some v → RT gh w.heap c v) → (fillV l (callM own (1000 * (o.dst.getD 999999 + 1)) f l (finR o.dst))).run g s = some ((), s') →
        (∀ hf : IsFn P f, (execOp a.eval o).run P w = .ok (.enter f args) w) → o.wp P a w (fun a' w' => ∃ gh', Inv w0 mine N pb gh' s' a' w') Q := by
      intro f l args hl hv hr he
      obtain ⟨gh0, s0, hr0, H0, y1, y2, y3⟩ := fillV_ok H hr
      obtain ⟨hf, hcalls⟩ := callM_ok hg H0 hl (fun i c v hc hw => RT.congr (gh := gh) (gh' := gh0) y1 y2 y3 (hv i c v hc hw)) hr0
      unfold Oper.wp
      rw [he hf, Oper.upon_enter]
      refine hcalls.mono ?_
      rintro e w' ⟨x, rfl, gh', s1, V, h1, h2, h3⟩
      exact ⟨gh', fin_ok h2 hd h3 h1⟩
    have hop : irOp P o = .callv (arOf x) (c.args.toList.map arOf) ∨ ∃ f, x = .func f ∧ irOp P o = .call f (c.args.toList.map arOf) := by
      simp only [irOp, ho, hcl]
      cases x with
      | func f => exact .inr ⟨f, rfl, rfl⟩
      | _ => exact .inl rfl
    have hex : ∀ {f : Nat} {caps : Array Value}, a.eval x = .func (.func f) #[] caps → IsFn P f → (execOp a.eval o).run P w = .ok (.enter f (c.args.map a.eval ++ caps)) w := by
      intro f caps hx hf
      have := run_callFunc (w := w) (args := c.args.map a.eval ++ caps) hf
      simp [execOp, ho, resolve, hcl, Deferred.ofValue, hx, invoke, this]
    rcases hop with hop | ⟨f, rfl, hop⟩
    · rw [hop] at h
      simp only [sem] at h
      obtain ⟨X, h1, hX⟩ := get_ok H h
      obtain ⟨Vs, h2, h3, h4⟩ := gets_ok H h1
      split at h2
      · rename_i f caps
        obtain ⟨cv, e1, e2, e3⟩ := hX.fnV
        refine key (args := c.args.map a.eval ++ cv) ?_ ?_ h2 (hex e1)
        · simp [h3, e2]
        · intro i v y hi hy
          have hlen : Vs.length = (c.args.map a.eval).size := by simpa using h3
          by_cases hil : i < Vs.length
          · rw [List.getElem?_append_left hil] at hi
            rw [Array.getElem?_append_left (by omega)] at hy
            refine h4 i v y hi ?_
            simpa [List.getElem?_map] using hy
          · rw [List.getElem?_append_right (by omega)] at hi
            rw [Array.getElem?_append_right (by omega)] at hy
            rw [hlen] at hi
            exact e3 _ v y hi hy
      · exact (run_fail_ h2).elim
    · rw [hop] at h
      simp only [sem] at h
      obtain ⟨Vs, h2, h3, h4⟩ := gets_ok H h
      refine key (args := c.args.map a.eval ++ #[]) (by simpa using h3) ?_ h2 (hex rfl)
      intro i v y hi hy
      exact h4 i v y hi (by simpa [List.getElem?_map] using hy)
  · simp only [Bool.not_eq_true] at hc
    obtain ⟨gh', s1, V, v, w', h1, h2, h3, h4⟩ := irOpK_ok (own := own) o hc Unit w0 mine N pb gh s a w g _ _ _ H h
    unfold Oper.wp
    rcases h2 with h2 | ⟨rfl, h2⟩
    · rw [h2, Oper.upon_value]
      exact ⟨gh', fin_ok h3 hd h4 h1⟩
    · rw [h2, Oper.upon_skip]
      exact ⟨gh', fin_ok h3 hd h4 h1⟩
/-- an operation of a region -/
theorem step_ok {tk : List Nat} (hg : OraOk P own g) (H : Inv w0 mine N pb gh s a w) {ops : Array Oper} {o : Oper} (hd : ∀ d, o.dst = some d → DOk N mine d) {s' : St} {Q : Exit → Act → World → Prop} (h : (stepM own (irIO P tk ops o)).run g s = some ((), s')) :
    if Region.wanted o (yielded ops a.tmps) then o.wp P a w (fun a' w' => ∃ gh', Inv w0 mine N pb gh' s' a' w') Q else ∃ gh', Inv w0 mine N pb gh' s' (a.put o.dst undef) w := by
  cases hgd : o.guard with
  | none =>
    have hw : Region.wanted o (yielded ops a.tmps) = true := by simp [Region.wanted, hgd]
    rw [if_pos hw]
    simp only [irIO, hgd, stepM] at h
    exact op_ok hg H hd h
  | some p =>
    obtain ⟨j, want⟩ := p
    cases ht : (ops[j]?).bind (·.dst) with
    | none =>
      have hw : Region.wanted o (yielded ops a.tmps) = false := by simp [Region.wanted, hgd, yielded, ht]
      rw [hw]
      simp only [irIO, hgd, ht, stepM, M.run, St.get] at h
      have hfin : (finR o.dst (.tu [])).run g s = some ((), s') := by
        split at h
        · split at h
          · exact (run_fail_ h).elim
          · exact h
        · exact h
        · exact (run_fail_ h).elim
      exact ⟨gh, fin_ok H hd RT.undef hfin⟩
    | some t =>
      simp only [irIO, hgd, ht, stepM, M.run, St.get] at h
      have hy : ∀ v, look s.tm t = some v → RT gh w.heap v (a.tmps.getD t undef) := fun v hv => H.tm t v hv
      have hyd : yielded ops a.tmps j = match a.tmps[t]? with | some (.bool b) => some b | _ => none := by
        simp only [yielded, ht, Option.bind_some]
        rfl
      cases hl : look s.tm t with
      | none => rw [hl] at h; simp at h; exact (run_fail_ h).elim
      | some V =>
        rw [hl] at h
        have hV := hy V hl
        simp only [Option.map_some] at h
        split at h
        · rename_i b hcell
          injection hcell with hcell; injection hcell with hcell; subst hcell
          have e1 := hV.scV.1
          have e2 : a.tmps[t]? = some (.bool b) := by
            rw [Array.getD_eq_getD_getElem?] at e1
            cases hz : a.tmps[t]? with
            | none => rw [hz] at e1; cases e1
            | some y => rw [hz] at e1; simp at e1; rw [e1]
          rw [e2] at hyd
          simp only at hyd
          split at h
          · rename_i hbw
            have hw : Region.wanted o (yielded ops a.tmps) = true := by simp [Region.wanted, hgd, hyd, hbw]
            rw [if_pos hw]
            exact op_ok hg H hd h
          · rename_i hbw
            have hw : Region.wanted o (yielded ops a.tmps) = false := by simp [Region.wanted, hgd, hyd, hbw]
            rw [hw]
            exact ⟨gh, fin_ok H hd RT.undef h⟩
        · rename_i hcell
          injection hcell with hcell; injection hcell with hcell; subst hcell
          obtain ⟨vs, e1, e2, _⟩ := hV.tuV
          have e3 : yielded ops a.tmps j = none := by
            rw [hyd]
            rw [Array.getD_eq_getD_getElem?] at e1
            cases hz : a.tmps[t]? with
            | none => rfl
            | some y => rw [hz] at e1; simp at e1; subst e1; rfl
          have hw : Region.wanted o (yielded ops a.tmps) = false := by simp [Region.wanted, hgd, e3]
          rw [hw]
          exact ⟨gh, fin_ok H hd RT.undef h⟩
        · exact (run_fail_ h).elim
end
end Go.Pv

set_option linter.unusedSimpArgs false
set_option linter.unusedVariables false
namespace Go.Pv
variable {α : Type} {w0 : World} {mine : Mine} {N : Nat} {pb : List Nat} {gh : Gh} {s s' : St} {a : Act} {w : World} {g : Ora} {P : Program} {own : Nat → Nat → Mode} {tk : List Nat}

section
variable [Glb]
theorem ops_ok (hg : OraOk P own g) {ops : Array Oper} (hN : ∀ o ∈ ops, ∀ d, o.dst = some d → DOk N mine d) {Q : Exit → Act → World → Prop} (hQ : ∀ gh a w, Inv w0 mine N pb gh s' a w → Q .normal a w) :
    ∀ (m k : Nat) (gh : Gh) (s : St) (a : Act) (w : World), k + m = ops.size → runOps own g ((ops.toList.drop k).map (irIO P tk ops)) s = some s' → Inv w0 mine N pb gh s a w → wpOps P ops Q (List.range' k m) a w
  | 0, k, gh, s, a, w, hk, h, H => by
    rw [List.drop_eq_nil_of_le (by simp; omega)] at h
    simp [runOps] at h
    subst h
    exact hQ gh a w H
  | m + 1, k, gh, s, a, w, hk, h, H => by
    have hlt : k < ops.size := by omega
    have hd : ops.toList.drop k = ops[k] :: ops.toList.drop (k + 1) := by rw [List.drop_eq_getElem_cons (by simpa using hlt)]; simp
    rw [hd] at h
    simp only [List.map_cons, runOps, bO_eq] at h
    obtain ⟨⟨u, s1⟩, h1, h2⟩ := h
    have hs := step_ok (Q := Q) hg H (hN _ (Array.getElem_mem hlt)) h1
    rw [List.range'_succ]
    simp only [wpOps, Array.getElem?_eq_getElem hlt]
    split at hs
    · rename_i hw
      rw [if_pos hw]
      exact .inl (Oper.wp_mono (fun a' w' ⟨gh', h⟩ => ops_ok hg hN hQ m (k + 1) gh' s1 a' w' (by omega) h2 h) hs)
    · rename_i hw
      rw [if_neg hw]
      obtain ⟨gh', h⟩ := hs
      exact ops_ok hg hN hQ m (k + 1) gh' s1 _ w (by omega) h2 h

/-! ### in whatever order -/
end
theorem St.get_put (s : St) (r : Res) (c : Cell) (q : Res) : (s.put r c).get q = if q = r then (match r, c with | .t _, .v x => some (.v x) | .t n, _ => s.get (.t n) | _, c => some c) else s.get q := by
  cases r with
  | t n =>
    cases c with
    | v x =>
      cases q with
      | t m =>
        simp only [St.put, St.get, look_setA]
        by_cases h : n = m
        · subst h; simp
        · rw [if_neg h, if_neg (by intro e; injection e with e; exact h e.symm)]
      | a m => simp [St.put, St.get]
      | b m => simp [St.put, St.get]
    | _ =>
      simp only [St.put]
      split
      · rename_i h; rw [h]
      · rfl
  | a n =>
    cases q with
    | a m =>
      simp only [St.put, St.get, look_setA]
      by_cases h : n = m
      · subst h; simp
      · rw [if_neg h, if_neg (by intro e; injection e with e; exact h e.symm)]
    | t m => simp [St.put, St.get]
    | b m => simp [St.put, St.get]
  | b n =>
    cases q with
    | b m =>
      simp only [St.put, St.get, look_setA]
      by_cases h : n = m
      · subst h; simp
      · rw [if_neg h, if_neg (by intro e; injection e with e; exact h e.symm)]
    | t m => simp [St.put, St.get]
    | a m => simp [St.put, St.get]
theorem St.np_put (s : St) (r : Res) (c : Cell) : (s.put r c).np = s.np := by cases r <;> cases c <;> rfl
theorem M.local : ∀ (m : M α) (s : St) (x : α) (s' : St), m.run g s = some (x, s') →
    (∀ r, (r, true) ∉ m.foot g s → s'.get r = s.get r) ∧ s'.np = s.np ∧
    ∀ t : St, (∀ r b, (r, b) ∈ m.foot g s → t.get r = s.get r) → ∃ t', m.run g t = some (x, t') ∧ (∀ r, (r, true) ∈ m.foot g s → t'.get r = s'.get r) ∧ (∀ r, (r, true) ∉ m.foot g s → t'.get r = t.get r) ∧ t'.np = t.np := by
  intro m
  induction m with
  | pure y =>
    intro s x s' h
    simp [M.run] at h
    obtain ⟨rfl, rfl⟩ := h
    exact ⟨fun _ _ => rfl, rfl, fun t _ => ⟨t, rfl, fun r hr => by simp [M.foot] at hr, fun _ _ => rfl, rfl⟩⟩
  | fail => intro s x s' h; simp [M.run] at h
  | rd r k ih =>
    intro s x s' h
    simp only [M.run] at h
    obtain ⟨h1, h2, h3⟩ := ih _ s x s' h
    simp only [M.foot, M.run]
    refine ⟨fun q hq => h1 q fun h => hq (List.mem_cons_of_mem _ h), h2, fun t ht => ?_⟩
    obtain ⟨t', e1, e2, e3, e4⟩ := h3 t fun q b hq => ht q b (List.mem_cons_of_mem _ hq)
    refine ⟨t', by rw [ht r false List.mem_cons_self]; exact e1, fun q hq => e2 q ?_, fun q hq => e3 q fun h => hq (List.mem_cons_of_mem _ h), e4⟩
    rcases List.mem_cons.1 hq with h | h
    · cases h
    · exact h
  | wr r c k ih =>
    intro s x s' h
    simp only [M.run] at h
    obtain ⟨h1, h2, h3⟩ := ih _ x s' h
    simp only [M.foot, M.run]
    refine ⟨fun q hq => ?_, by rw [h2, St.np_put], fun t ht => ?_⟩
    · rw [h1 q fun h => hq (List.mem_cons_of_mem _ h), St.get_put, if_neg]
      intro e; subst e; exact hq List.mem_cons_self
    · have hr := ht r true List.mem_cons_self
      have hput : ∀ q, (q = r ∨ t.get q = s.get q) → (t.put r c).get q = (s.put r c).get q := by
        intro q hq
        rw [St.get_put, St.get_put]
        split
        · split <;> first | rfl | exact hr
        · rename_i hn; exact hq.resolve_left hn
      obtain ⟨t', e1, e2, e3, e4⟩ := h3 (t.put r c) fun q b hq => hput q (.inr (ht q b (List.mem_cons_of_mem _ hq)))
      refine ⟨t', e1, fun q hq => ?_, fun q hq => ?_, by rw [e4, St.np_put]⟩
      · by_cases hk : (q, true) ∈ k.foot g (s.put r c)
        · exact e2 q hk
        · rcases List.mem_cons.1 hq with h | h
          · injection h with h _; subst h
            rw [e3 q hk, h1 q hk]
            exact hput q (.inl rfl)
          · exact absurd h hk
      · rw [e3 q fun h => hq (List.mem_cons_of_mem _ h), St.get_put, if_neg]
        intro e; subst e; exact hq List.mem_cons_self
  | ask f av bs k ih =>
    intro s x s' h
    simp only [M.run] at h
    split at h
    · rename_i rr hask
      obtain ⟨h1, h2, h3⟩ := ih _ _ s x s' h
      simp only [M.foot, M.run, hask]
      exact ⟨h1, h2, h3⟩
    · cases h
section
variable [Glb]
theorem Inv.congr {t : St} (H : Inv w0 mine N pb gh t a w) (hr : ∀ r, t.get r = s.get r) (hn : t.np = s.np) : Inv w0 mine N pb gh s a w := by
  have h1 : ∀ n, look t.tm n = look s.tm n := by
    intro n
    have := hr (.t n)
    simp only [St.get] at this
    cases hx : look t.tm n with
    | none =>
      cases hy : look s.tm n with
      | none => rfl
      | some y => rw [hx, hy] at this; simp at this
    | some x =>
      cases hy : look s.tm n with
      | none => rw [hx, hy] at this; simp at this
      | some y =>
        rw [hx, hy] at this
        simp only [Option.map_some] at this
        injection this with this
        injection this with this
        rw [this]
  have h2 : ∀ n, look t.ar n = look s.ar n := fun n => hr (.a n)
  have h3 : ∀ n, look t.bx n = look s.bx n := fun n => hr (.b n)
  exact { H with
    tm := fun n v h => H.tm n v (by rw [h1]; exact h)
    ar := fun n c h => H.ar n c (by rw [h2]; exact h)
    bx := fun n c h => H.bx n c (by rw [h3]; exact h)
    ar0 := fun n h => H.ar0 n (by rw [h2]; exact h)
    bx0 := fun n h => H.bx0 n (by rw [h3]; exact h)
    np := by rw [← hn]; exact H.np }
end
/-- what 'r' holds behind the operations of L -/
def valL (L : Nat → Bool) (ss : Nat → St) (ft : Nat → List (Res × Bool)) : Nat → Res → Option Cell
  | 0, r => (ss 0).get r
  | j + 1, r => if L j = true ∧ (r, true) ∈ ft j then (ss (j + 1)).get r else valL L ss ft j r
theorem valL_text {L : Nat → Bool} {ss : Nat → St} {ft : Nat → List (Res × Bool)} {n : Nat} (hun : ∀ j < n, ∀ r, (r, true) ∉ ft j → (ss (j + 1)).get r = (ss j).get r) {r : Res} {i : Nat}
    (h1 : ∀ j < i, (r, true) ∈ ft j → L j = true) (h2 : ∀ j, i ≤ j → j < n → (r, true) ∈ ft j → L j = false) : ∀ m, m ≤ n → valL L ss ft m r = (ss (min m i)).get r
  | 0, _ => by simp [valL]
  | m + 1, hm => by
    have ih := valL_text hun h1 h2 m (by omega)
    rw [valL]
    by_cases hmi : m < i
    · rw [show min (m + 1) i = m + 1 by omega]
      rw [show min m i = m by omega] at ih
      by_cases hw : (r, true) ∈ ft m
      · rw [if_pos ⟨h1 m hmi hw, hw⟩]
      · rw [if_neg (fun h => hw h.2), ih, hun m (by omega) r hw]
    · rw [show min (m + 1) i = i by omega]
      rw [show min m i = i by omega] at ih
      rw [if_neg, ih]
      rintro ⟨h3, h4⟩
      rw [h2 m (by omega) (by omega) h4] at h3; cases h3
theorem valL_add {L L' : Nat → Bool} {ss : Nat → St} {ft : Nat → List (Res × Bool)} {i : Nat} (hL : ∀ j, j ≠ i → L' j = L j) (hi : L' i = true) {r : Res} :
    (((r, true) ∉ ft i) → ∀ m, valL L' ss ft m r = valL L ss ft m r) ∧
    (((r, true) ∈ ft i) → (∀ j, i < j → (r, true) ∈ ft j → L j = false) → ∀ m, i < m → valL L' ss ft m r = (ss (i + 1)).get r) := by
  constructor
  · intro hw m
    induction m with
    | zero => rfl
    | succ m ih =>
      rw [valL, valL, ih]
      by_cases hm : m = i
      · subst hm; rw [if_neg (fun h => hw h.2), if_neg (fun h => hw h.2)]
      · rw [hL m hm]
  · intro hw hn m
    induction m with
    | zero => intro h; omega
    | succ m ih =>
      intro h
      rw [valL]
      by_cases hm : m = i
      · subst hm; rw [if_pos ⟨hi, hw⟩]
      · rw [if_neg, ih (by omega)]
        rintro ⟨h3, h4⟩
        rw [hL m hm, hn m (by omega) h4] at h3; cases h3
end Go.Pv

set_option linter.unusedSimpArgs false
set_option linter.unusedVariables false
namespace Go.Pv
variable {α : Type} {w0 : World} {mine : Mine} {N : Nat} {pb : List Nat} {gh : Gh} {s s' : St} {a : Act} {w : World} {g : Ora} {P : Program} {own : Nat → Nat → Mode}

def bits (look : Nat → Nat) (es : List Edge) (s : Nat) : Nat := es.foldl (fun s e => if Region.binds .any e then s ||| 2 ^ e.on ||| look e.on else s) s
theorem bits_test (lk : Nat → Nat) : ∀ (es : List Edge) (s i : Nat), (bits lk es s).testBit i = true → s.testBit i = true ∨ ∃ e ∈ es, Region.binds .any e = true ∧ (e.on = i ∨ (lk e.on).testBit i = true)
  | [], s, i, h => .inl h
  | e :: es, s, i, h => by
    simp only [bits, List.foldl_cons] at h
    rcases bits_test lk es _ i h with h1 | ⟨e', h1, h2, h3⟩
    · split at h1
      · rename_i hb
        simp only [Nat.testBit_or, Bool.or_eq_true] at h1
        rcases h1 with (h1 | h1) | h1
        · exact .inl h1
        · refine .inr ⟨e, List.mem_cons_self, hb, .inl ?_⟩
          simpa [Nat.testBit_two_pow] using h1
        · exact .inr ⟨e, List.mem_cons_self, hb, .inr h1⟩
      · exact .inl h1
    · exact .inr ⟨e', List.mem_cons_of_mem _ h1, h2, h3⟩
theorem before_spec (ops : Array Oper) : (Region.before ops).size = ops.size ∧ ∀ (j : Nat) (o : Oper), ops[j]? = some o → ∃ lk : Nat → Nat, (∀ i, (i < j ∧ lk i = (Region.before ops).getD i 0) ∨ lk i = 0) ∧ (Region.before ops).getD j 0 = bits lk o.after.toList 0 := by
  have key := @Array.foldl_induction _ _ ops (fun k (acc : Array Nat) => acc.size = k ∧ ∀ (j : Nat) (o : Oper), j < k → ops[j]? = some o → ∃ lk : Nat → Nat, (∀ i, (i < j ∧ lk i = acc.getD i 0) ∨ lk i = 0) ∧ acc.getD j 0 = bits lk o.after.toList 0)
    #[] ⟨rfl, fun j o h => by omega⟩ (fun acc o => acc.push (o.after.foldl (fun s e => if Region.binds .any e then s ||| 2 ^ e.on ||| acc.getD e.on 0 else s) 0)) (by
    rintro ⟨k, hk⟩ acc ih
    simp only at ih ⊢
    obtain ⟨h1, h2⟩ := ih
    have hp : ∀ i v, i < acc.size → (acc.push v).getD i 0 = acc.getD i 0 := by
      intro i v hi
      simp [Array.getD_eq_getD_getElem?, Array.getElem?_push, Nat.ne_of_lt hi]
    refine ⟨by simp [h1], ?_⟩
    intro j o hj ho
    by_cases hjk : j < k
    · obtain ⟨lk, h3, h4⟩ := h2 j o hjk ho
      refine ⟨lk, fun i => ?_, ?_⟩
      · rcases h3 i with ⟨h5, h6⟩ | h5
        · exact .inl ⟨h5, by rw [hp _ _ (by omega)]; exact h6⟩
        · exact .inr h5
      · rw [hp _ _ (by omega)]; exact h4
    · have hjk' : j = k := by omega
      subst hjk'
      have ho' : ops[j] = o := by
        have := Array.getElem?_eq_some_iff.1 ho
        obtain ⟨_, h⟩ := this
        exact h
      refine ⟨fun i => acc.getD i 0, fun i => ?_, ?_⟩
      · by_cases hi : i < acc.size
        · exact .inl ⟨by rw [← h1]; exact hi, (hp _ _ hi).symm⟩
        · exact .inr (by simp [Array.getD_eq_getD_getElem?, Array.getElem?_eq_none (Nat.le_of_not_lt hi)])
      · simp only [Array.getD_eq_getD_getElem?, Array.getElem?_push, h1]
        have ho'' : ops[(⟨j, hk⟩ : Fin ops.size)] = o := ho'
        rw [if_pos trivial, ho'', ← Array.foldl_toList]
        rfl)
  refine ⟨key.1, fun j o ho => ?_⟩
  exact key.2 j o (Array.getElem?_eq_some_iff.1 ho).1 ho
/-- closed under what comes before -/
theorem closed_before {ops : Array Oper} {L : Nat → Bool} (hc : ∀ (j : Nat) (o : Oper), ops[j]? = some o → L j = true → ∀ e ∈ o.after, Region.binds .any e = true → L e.on = true) :
    ∀ (j i : Nat), j < ops.size → L j = true → ((Region.before ops).getD j 0).testBit i = true → L i = true := by
  intro j
  induction j using Nat.strongRecOn with
  | _ j ih =>
    intro i hj hL hb
    obtain ⟨lk, h1, h2⟩ := (before_spec ops).2 j _ (Array.getElem?_eq_getElem hj)
    rw [h2] at hb
    rcases bits_test lk _ _ i hb with h3 | ⟨e, h3, h4, h5⟩
    · simp at h3
    · have h6 := hc j _ (Array.getElem?_eq_getElem hj) hL e (by simpa using h3) h4
      rcases h5 with rfl | h5
      · exact h6
      · rcases h1 e.on with ⟨h7, h8⟩ | h7
        · rw [h8] at h5
          exact ih e.on h7 i (by omega) h6 h5
        · rw [h7] at h5; simp at h5
theorem runOps_take {l : List Opn} : ∀ {s s' : St}, runOps own g l s = some s' → ∃ ss : Nat → St, ss 0 = s ∧ ss l.length = s' ∧ (∀ (i : Nat) (o : Opn), l[i]? = some o → (stepM own o).run g (ss i) = some ((), ss (i + 1))) ∧
    ∀ (i : Nat) (o : Opn), l[i]? = some o → (feet own g l s).getD i [] = effF ((stepM own o).foot g (ss i)) (ss i) (ss (i + 1)) := by
  induction l with
  | nil => intro s s' h; simp [runOps] at h; subst h; exact ⟨fun _ => s, rfl, rfl, by simp, by simp⟩
  | cons o l ih =>
    intro s s' h
    simp only [runOps, bO_eq] at h
    obtain ⟨⟨u, s1⟩, h1, h2⟩ := h
    obtain ⟨ss, e1, e2, e3, e4⟩ := ih h2
    refine ⟨fun i => match i with | 0 => s | i + 1 => ss i, rfl, e2, ?_, ?_⟩
    · intro i o' ho
      cases i with
      | zero => simp at ho; subst ho; rw [h1]; simp [e1]
      | succ i => exact e3 i o' (by simpa using ho)
    · intro i o' ho
      cases i with
      | zero => simp at ho; subst ho; simp [feet, h1, e1]
      | succ i =>
        have := e4 i o' (by simpa using ho)
        simp only [feet, h1]
        simpa using this
theorem ready_split {ops : Array Oper} {listed : Array Bool} (ha : afterOk ops = true) (hs : listed.size = ops.size) (hr : Region.ready .any ops listed = []) : ∀ i, i < ops.size → listed.getD i false = true := by
  intro i
  induction i using Nat.strongRecOn with
  | _ i ih =>
    intro hi
    cases hl : listed.getD i false with
    | true => rfl
    | false =>
      exfalso
      have hmem : i ∈ Region.ready .any ops listed := by
        rw [mem_ready]
        refine ⟨?_, _, Array.getElem?_eq_getElem hi, ?_⟩
        · rw [Array.getD_eq_getD_getElem?, Array.getElem?_eq_getElem (by omega)] at hl ⊢
          exact hl
        · intro e he hb
          have h1 := Array.all_eq_true_iff_forall_mem.1 ha (ops[i], i) (by
            rw [Array.mem_iff_getElem?]
            exact ⟨i, by simp [hi]⟩)
          have h2 := Array.all_eq_true_iff_forall_mem.1 h1 e he
          simp only [hb, Bool.not_true, Bool.false_or, decide_eq_true_eq] at h2
          exact ih e.on h2 (by omega)
      rw [hr] at hmem; cases hmem
theorem filter_len {p q : Nat → Bool} (h : ∀ j, p j = true → q j = true) : ∀ l : List Nat, (l.filter p).length ≤ (l.filter q).length
  | [] => Nat.le_refl _
  | y :: l => by
    have ih := filter_len h l
    cases hp : p y with
    | true => rw [List.filter_cons_of_pos hp, List.filter_cons_of_pos (h y hp)]; simp only [List.length_cons]; omega
    | false =>
      rw [List.filter_cons_of_neg (by simp [hp])]
      cases hq : q y with
      | true => rw [List.filter_cons_of_pos hq]; simp only [List.length_cons]; omega
      | false => rw [List.filter_cons_of_neg (by simp [hq])]; exact ih
def left (n : Nat) (listed : Array Bool) : Nat := ((List.range n).filter fun i => !listed.getD i true).length
theorem left_set {n i : Nat} {listed : Array Bool} (hi : i < n) (hn : n = listed.size) (h : listed.getD i true = false) : left n (listed.setIfInBounds i true) + 1 ≤ left n listed := by
  have hsub : ∀ j, (!(listed.setIfInBounds i true).getD j true) = true → (!listed.getD j true) = true := by
    intro j hj
    by_cases hij : i = j
    · subst hij; simp [h]
    · rw [getD_set_ne true hij] at hj; exact hj
  have hki : (!(listed.setIfInBounds i true).getD i true) = false := by
    have : i < listed.size := by omega
    simp [this]
  unfold left
  have key : ∀ l : List Nat, i ∈ l → l.Nodup → (l.filter fun j => !(listed.setIfInBounds i true).getD j true).length + 1 ≤ (l.filter fun j => !listed.getD j true).length := by
    intro l
    induction l with
    | nil => intro hm; cases hm
    | cons y l ih =>
      intro hm hnd
      rw [List.nodup_cons] at hnd
      by_cases hy : i = y
      · subst hy
        rw [List.filter_cons_of_neg (by simp [hki]), List.filter_cons_of_pos (by simp [h])]
        have : (l.filter fun j => !(listed.setIfInBounds i true).getD j true).length ≤ (l.filter fun j => !listed.getD j true).length := by
          exact filter_len hsub l
        simp only [List.length_cons]
        omega
      · have hm' : i ∈ l := by rcases List.mem_cons.1 hm with h | h; exact absurd h hy; exact h
        have := ih hm' hnd.2
        have he : (!(listed.setIfInBounds i true).getD y true) = (!listed.getD y true) := by rw [getD_set_ne true hy]
        cases hq : (!listed.getD y true) with
        | true =>
          rw [List.filter_cons_of_pos (by rw [he]; exact hq), List.filter_cons_of_pos (by exact hq)]
          simp only [List.length_cons]; omega
        | false =>
          rw [List.filter_cons_of_neg (by rw [he, hq]; simp), List.filter_cons_of_neg (by rw [hq]; simp)]
          exact this
  exact key _ (List.mem_range.2 hi) List.nodup_range
end Go.Pv

set_option linter.unusedSimpArgs false
set_option linter.unusedVariables false
namespace Go.Pv
variable {α : Type} {w0 : World} {mine : Mine} {N : Nat} {pb : List Nat} {gh : Gh} {s s' : St} {a : Act} {w : World} {g : Ora} {P : Program} {own : Nat → Nat → Mode} {tk : List Nat}

theorem mem_confOf {ops : Array Oper} {i j : Nat} (hj : j < ops.size) (hij : i < j) (hb : ((Region.before ops).getD j 0).testBit i = false) : (i, j) ∈ confOf ops := by
  simp only [confOf, List.mem_flatMap, List.mem_range, List.mem_filterMap]
  exact ⟨j, hj, i, hij, by simp at hb ⊢; exact hb⟩
theorem clash_no {x y : List (Res × Bool)} (h : clash x y = false) {r : Res} {b b' : Bool} (h1 : (r, b) ∈ x) (h2 : (r, b') ∈ y) : b = false ∧ b' = false := by
  have h3 := List.any_eq_false.1 h _ h1
  have h5 : y.any (fun q => decide (r = q.1) && (b || q.2)) = false := by
    cases hq : y.any (fun q => decide (r = q.1) && (b || q.2)) with
    | false => rfl
    | true => exact absurd hq h3
  have h4 := List.any_eq_false.1 h5 _ h2
  cases b <;> cases b' <;> simp at h4 ⊢
theorem eff_mem {l : List (Res × Bool)} {s s' : St} {r : Res} {b : Bool} (h : (r, b) ∈ l) : ∃ b', (r, b') ∈ effF l s s' := ⟨_, List.mem_map.2 ⟨_, h, rfl⟩⟩
theorem eff_sub {l : List (Res × Bool)} {s s' : St} {r : Res} (h : (r, true) ∈ effF l s s') : (r, true) ∈ l := by
  obtain ⟨⟨q, b⟩, h1, h2⟩ := List.mem_map.1 h
  simp only [Prod.mk.injEq, Bool.and_eq_true] at h2
  obtain ⟨rfl, rfl, _⟩ := h2
  exact h1
theorem eff_no {l : List (Res × Bool)} {s s' : St} {r : Res} (h : (r, true) ∈ l) (h2 : (r, true) ∉ effF l s s') : s'.get r = s.get r := by
  apply Classical.byContradiction
  intro hne
  refine h2 (List.mem_map.2 ⟨_, h, ?_⟩)
  have : sameR s s' r = false := by
    unfold sameR
    rw [decide_eq_false_iff_not]
    exact fun e => hne e.symm
  simp [this]
section
variable [Glb]
theorem draw_ok (hg : OraOk P own g) {ops : Array Oper} (hN : ∀ o ∈ ops, ∀ d, o.dst = some d → DOk N mine d) (ha : afterOk ops = true) (hrun : runOps own g (ops.toList.map (irIO P tk ops)) s = some s')
    (hconf : ∀ p ∈ confOf ops, clash ((feet own g (ops.toList.map (irIO P tk ops)) s).getD p.1 []) ((feet own g (ops.toList.map (irIO P tk ops)) s).getD p.2 []) = false)
    {Q : Exit → Act → World → Prop} (hQ : ∀ gh a w, Inv w0 mine N pb gh s' a w → Q .normal a w) (H : Inv w0 mine N pb gh s a w) : wpAny P .any ops Q ops.size (Array.replicate ops.size false) a w := by
  obtain ⟨ss, e1, e2, e3, e4⟩ := runOps_take hrun
  have hlen : (ops.toList.map (irIO P tk ops)).length = ops.size := by simp
  rw [hlen] at e2
  generalize hft : (fun i => (feet own g (ops.toList.map (irIO P tk ops)) s).getD i []) = ft at *
  have hfti : ∀ i, (feet own g (ops.toList.map (irIO P tk ops)) s).getD i [] = ft i := fun i => congrFun hft i
  have hst : ∀ (i : Nat) (o : Oper), ops[i]? = some o → (stepM own (irIO P tk ops o)).run g (ss i) = some ((), ss (i + 1)) ∧ ft i = effF ((stepM own (irIO P tk ops o)).foot g (ss i)) (ss i) (ss (i + 1)) := by
    intro i o ho
    have hi : (ops.toList.map (irIO P tk ops))[i]? = some (irIO P tk ops o) := by simp [ho]
    exact ⟨e3 i _ hi, by rw [← hfti]; exact e4 i _ hi⟩
  have hun : ∀ j < ops.size, ∀ r, (r, true) ∉ ft j → (ss (j + 1)).get r = (ss j).get r := by
    intro j hj r hr
    obtain ⟨h1, h2⟩ := hst j _ (Array.getElem?_eq_getElem hj)
    rw [h2] at hr
    by_cases hf : (r, true) ∈ (stepM own (irIO P tk ops ops[j])).foot g (ss j)
    · exact eff_no hf hr
    · exact (M.local _ _ _ _ h1).1 r hf
  have hnp : ∀ j, j ≤ ops.size → (ss j).np = s.np := by
    intro j
    induction j with
    | zero => intro _; rw [e1]
    | succ j ih =>
      intro hj
      obtain ⟨h1, _⟩ := hst j _ (Array.getElem?_eq_getElem (show j < ops.size by omega))
      rw [(M.local _ _ _ _ h1).2.1, ih (by omega)]
  have hno : ∀ i j, i < j → j < ops.size → ((Region.before ops).getD j 0).testBit i = false → ∀ r b b', (r, b) ∈ ft i → (r, b') ∈ ft j → b = false ∧ b' = false := by
    intro i j hij hj hb r b b' h1 h2
    have := hconf _ (mem_confOf hj hij hb)
    simp only [hfti] at this
    exact clash_no this h1 h2
  have hft0 : ∀ j, ops.size ≤ j → ft j = [] := by
    intro j hj
    rw [← hfti]
    have hfl : ∀ (l : List Opn) (s : St), (feet own g l s).length ≤ l.length := by
      intro l
      induction l with
      | nil => intro s; simp [feet]
      | cons o l ih =>
        intro s
        simp only [feet]
        split
        · simp only [List.length_cons]; have := ih (‹Unit × St›).2; omega
        · simp
    rw [List.getD_eq_getElem?_getD, List.getElem?_eq_none]
    · rfl
    · have := hfl (ops.toList.map (irIO P tk ops)) s
      rw [hlen] at this
      omega
  have main : ∀ (fuel : Nat) (listed : Array Bool) (gh : Gh) (t : St) (a : Act) (w : World), listed.size = ops.size → left ops.size listed ≤ fuel →
      (∀ (j : Nat) (o : Oper), ops[j]? = some o → listed.getD j false = true → ∀ e ∈ o.after, Region.binds .any e = true → listed.getD e.on false = true) →
      (∀ r, t.get r = valL (fun j => listed.getD j false) ss ft ops.size r) → t.np = s.np → Inv w0 mine N pb gh t a w → wpAny P .any ops Q fuel listed a w := by
    intro fuel
    induction fuel with
    | zero =>
      intro listed gh t a w hsz hleft hcl ht hn I
      have hready : Region.ready .any ops listed = [] := by
        rw [List.eq_nil_iff_forall_not_mem]
        intro i hi
        obtain ⟨h1, o, h2, _⟩ := mem_ready.1 hi
        have hlt := (Array.getElem?_eq_some_iff.1 h2).1
        have := left_set hlt hsz.symm h1
        omega
      refine ⟨hready, ?_⟩
      have hall := ready_split ha hsz hready
      refine hQ gh a w (I.congr (fun r => ?_) ?_)
      · rw [ht r, valL_text (i := ops.size) hun (fun j hj _ => hall j hj) (fun j h1 h2 _ => by omega) ops.size (Nat.le_refl _)]
        simp [e2]
      · rw [hn, ← e2, hnp _ (Nat.le_refl _)]
    | succ fuel ih =>
      intro listed gh t a w hsz hleft hcl ht hn I
      refine ⟨fun hready => ?_, ?_⟩
      · have hall := ready_split ha hsz hready
        refine hQ gh a w (I.congr (fun r => ?_) ?_)
        · rw [ht r, valL_text (i := ops.size) hun (fun j hj _ => hall j hj) (fun j h1 h2 _ => by omega) ops.size (Nat.le_refl _)]
          simp [e2]
        · rw [hn, ← e2, hnp _ (Nat.le_refl _)]
      · intro i hi
        obtain ⟨h1, o, ho, hafter⟩ := mem_ready.1 hi
        have hlt := (Array.getElem?_eq_some_iff.1 ho).1
        have hLi : listed.getD i false = false := by
          rw [Array.getD_eq_getD_getElem?, Array.getElem?_eq_getElem (by omega)] at h1 ⊢
          exact h1
        have hL'i : (listed.setIfInBounds i true).getD i false = true := by
          have : i < listed.size := by omega
          simp [this]
        have hcl' : ∀ (j : Nat) (o : Oper), ops[j]? = some o → (listed.setIfInBounds i true).getD j false = true → ∀ e ∈ o.after, Region.binds .any e = true → (listed.setIfInBounds i true).getD e.on false = true := by
          intro j o' hj hLj e he hb
          apply getD_set_true
          by_cases hij : i = j
          · subst hij
            rw [ho] at hj; injection hj with hj; subst hj
            exact hafter e he hb
          · rw [getD_set_ne false hij] at hLj
            exact hcl j o' hj hLj e he hb
        have hlate : ∀ r b, (r, b) ∈ ft i → ∀ j, i < j → (r, true) ∈ ft j → listed.getD j false = false := by
          intro r b hb j hij hw
          by_cases hjn : j < ops.size
          · cases hbit : ((Region.before ops).getD j 0).testBit i with
            | false => exact absurd (hno i j hij hjn hbit r b true hb hw).2 (by simp)
            | true =>
              cases hLj : listed.getD j false with
              | false => rfl
              | true =>
                have := closed_before (L := fun j => listed.getD j false) hcl j i hjn hLj hbit
                rw [hLi] at this; cases this
          · rw [hft0 j (by omega)] at hw; cases hw
        have hearly : ∀ r b, (r, b) ∈ ft i → ∀ j, j < i → (r, true) ∈ ft j → listed.getD j false = true := by
          intro r b hb j hij hw
          cases hbit : ((Region.before ops).getD i 0).testBit j with
          | false => exact absurd (hno j i hij hlt hbit r true b hw hb).1 (by simp)
          | true =>
            have := closed_before (L := fun j => (listed.setIfInBounds i true).getD j false) hcl' i j hlt hL'i hbit
            rw [getD_set_ne false (by omega)] at this
            exact this
        obtain ⟨hr, hf⟩ := hst i o ho
        have hagree : ∀ r b, (r, b) ∈ (stepM own (irIO P tk ops o)).foot g (ss i) → t.get r = (ss i).get r := by
          intro r b hb
          obtain ⟨b, hb⟩ := eff_mem (s := ss i) (s' := ss (i + 1)) hb
          rw [← hf] at hb
          rw [ht r, valL_text (i := i) hun (hearly r b hb) ?_ ops.size (Nat.le_refl _)]
          · rw [Nat.min_eq_right (by omega)]
          · intro j hj1 hj2 hw
            by_cases hij : i = j
            · subst hij; exact hLi
            · exact hlate r b hb j (by omega) hw
        obtain ⟨_, _, h3⟩ := M.local _ _ _ _ hr
        obtain ⟨t', g1, g2, g3, g4⟩ := h3 t hagree
        have ht' : ∀ r, t'.get r = valL (fun j => (listed.setIfInBounds i true).getD j false) ss ft ops.size r := by
          intro r
          obtain ⟨v1, v2⟩ := valL_add (L := fun j => listed.getD j false) (L' := fun j => (listed.setIfInBounds i true).getD j false) (ss := ss) (ft := ft) (i := i) (fun j hj => getD_set_ne false (Ne.symm hj)) hL'i (r := r)
          by_cases hw : (r, true) ∈ ft i
          · rw [v2 hw (hlate r true hw) ops.size hlt]
            rw [hf] at hw
            exact g2 r (eff_sub hw)
          · rw [v1 hw ops.size, ← ht r]
            rw [hf] at hw
            by_cases hw2 : (r, true) ∈ (stepM own (irIO P tk ops o)).foot g (ss i)
            · rw [g2 r hw2, eff_no hw2 hw, hagree r true hw2]
            · exact g3 r hw2
        have hstep := step_ok (Q := Q) hg I (hN o (Array.mem_of_getElem? ho)) g1
        have hleft' : left ops.size (listed.setIfInBounds i true) ≤ fuel := by have := left_set hlt hsz.symm h1; omega
        have next : ∀ gh a w, Inv w0 mine N pb gh t' a w → wpAny P .any ops Q fuel (listed.setIfInBounds i true) a w := fun gh a w I' => ih _ gh t' a w (by simpa using hsz) hleft' hcl' ht' (by rw [g4]; exact hn) I'
        unfold wpOp
        simp only [ho]
        split at hstep
        · rename_i hw
          rw [if_pos hw]
          exact .inl (Oper.wp_mono (fun a' w' ⟨gh', h⟩ => next gh' a' w' h) hstep)
        · rename_i hw
          rw [if_neg hw]
          obtain ⟨gh', h⟩ := hstep
          exact next gh' _ w h
  refine main ops.size (Array.replicate ops.size false) gh s a w (by simp) ?_ ?_ ?_ rfl H
  · unfold left
    have := List.length_filter_le (fun i => !(Array.replicate ops.size false).getD i true) (List.range ops.size)
    simpa using this
  · intro j o hj hL
    exfalso
    have hlt := (Array.getElem?_eq_some_iff.1 hj).1
    simp [Array.getD_eq_getD_getElem?, Array.getElem?_replicate, hlt] at hL
  · intro r
    have : ∀ m, valL (fun j => (Array.replicate ops.size false).getD j false) ss ft m r = (ss 0).get r := by
      intro m
      induction m with
      | zero => rfl
      | succ m ih =>
        rw [valL, if_neg, ih]
        rintro ⟨h, _⟩
        simp [Array.getD_eq_getD_getElem?, Array.getElem?_replicate] at h
        split at h <;> simp at h
    rw [this, e1]
end
end Go.Pv

set_option linter.unusedSimpArgs false
set_option linter.unusedVariables false
namespace Go.Pv
variable {α : Type} {w0 : World} {mine : Mine} {N : Nat} {pb : List Nat} {gh : Gh} {s s' : St} {a : Act} {w : World} {g : Ora} {P : Program} {own : Nat → Nat → Mode}

/-! ### names anew -/
mutual
theorem arsOf_renB (f : Nat → Nat) : ∀ v : V, arsOf (renB f v) = arsOf v
  | .sc _ => rfl
  | .ls _ _ => rfl
  | .rf _ _ _ => rfl
  | .ep _ _ _ => rfl
  | .fp _ _ _ => rfl
  | .ag cs => by simp only [renB, arsOf, arsOfL_renB f cs]
  | .tu cs => by simp only [renB, arsOf, arsOfL_renB f cs]
  | .bx _ _ => rfl
  | .fn _ cs => by simp only [renB, arsOf, arsOfL_renB f cs]
  | .mp _ => rfl
theorem arsOfL_renB (f : Nat → Nat) : ∀ l : List V, arsOfL (renBL f l) = arsOfL l
  | [] => rfl
  | v :: l => by simp only [renBL, arsOfL, arsOf_renB f v, arsOfL_renB f l]
end
theorem renAL_length (f : Nat → Nat) : ∀ l : List V, (renAL f l).length = l.length
  | [] => rfl
  | v :: l => by simp [renAL, renAL_length f l]
mutual
theorem RT.ren {gh gh' : Gh} {h : Array Obj} {fa fb : Nat → Nat} (hs : gh'.sh = gh.sh) : ∀ (v : V) (x : Value), RT gh h v x → (∀ n ∈ arsOf v, gh'.ai (fa n) = gh.ai n) → (∀ n ∈ bxsOf v, gh'.bi (fb n) = gh.bi n) → RT gh' h (renA fa (renB fb v)) x
  | .sc v, x, H, h1, h2 => by rw [H.scV.1]; exact .sc v H.scV.2
  | .ls o xs, x, H, h1, h2 => by
    rcases H.lsV with ⟨rfl, hf⟩ | ⟨rfl, rfl, A, rfl⟩
    · exact .fz xs x (by rw [hs]; exact hf)
    · exact .nil A
  | .rf n off len, x, H, h1, h2 => by
    obtain ⟨ai, A, c, e1, e2, e3, e4, rfl⟩ := H.rfV
    exact .rf _ off len ai A c (by rw [h1 n (by simp [arsOf])]; exact e1) e2 e3 e4
  | .ag cs, x, H, h1, h2 => by
    obtain ⟨vs, rfl, e1, e2⟩ := H.agV
    exact .ag _ vs (by rw [renAL_length, renBL_length]; exact e1) fun i c v hc hv => RTL.ren hs cs h1 h2 (fun i c hc v hv => e2 i c v hc hv) i c hc v hv
  | .tu cs, x, H, h1, h2 => by
    obtain ⟨vs, rfl, e1, e2⟩ := H.tuV
    exact .tu _ vs (by rw [renAL_length, renBL_length]; exact e1) fun i c v hc hv => RTL.ren hs cs h1 h2 (fun i c hc v hv => e2 i c v hc hv) i c hc v hv
  | .bx n off, x, H, h1, h2 => by
    obtain ⟨b, e1, rfl⟩ := H.bxV
    exact .bx _ off b (by rw [h2 n (by simp [bxsOf])]; exact e1)
  | .ep n i off, x, H, h1, h2 => by
    obtain ⟨ai, e1, rfl⟩ := H.epV
    exact .ep _ i off ai (by rw [h1 n (by simp [arsOf])]; exact e1)
  | .fp xs i off, x, H, h1, h2 => by
    obtain ⟨b, base, s, cap, e1, e2, e3, rfl⟩ := H.fpV
    exact .fp xs i off b base s cap (by rw [hs]; exact e1) e2 e3
  | .fn f cs, x, H, h1, h2 => by
    obtain ⟨vs, rfl, e1, e2⟩ := H.fnV
    exact .fn f _ vs (by rw [renAL_length, renBL_length]; exact e1) fun i c v hc hv => RTL.ren hs cs h1 h2 (fun i c hc v hv => e2 i c v hc hv) i c hc v hv
  | .mp n, x, H, h1, h2 => by
    obtain ⟨b, e1, rfl⟩ := H.mpV
    exact .mp _ b (by rw [h2 n (by simp [bxsOf])]; exact e1)
theorem RTL.ren {gh gh' : Gh} {h : Array Obj} {fa fb : Nat → Nat} (hs : gh'.sh = gh.sh) : ∀ (l : List V) {p : Nat → Value → Prop}, (∀ n ∈ arsOfL l, gh'.ai (fa n) = gh.ai n) → (∀ n ∈ bxsOfL l, gh'.bi (fb n) = gh.bi n) → (∀ (i : Nat) (c : V), l[i]? = some c → ∀ v, p i v → RT gh h c v) →
    ∀ (i : Nat) (c : V), (renAL fa (renBL fb l))[i]? = some c → ∀ v, p i v → RT gh' h c v
  | [], p, h1, h2, hp, i, c, hc, v, hv => by simp [renBL, renAL] at hc
  | u :: l, p, h1, h2, hp, i, c, hc, v, hv => by
    cases i with
    | zero =>
      simp [renBL, renAL] at hc
      subst hc
      exact RT.ren hs u v (hp 0 u rfl v hv) (fun n hn => h1 n (by simp [arsOfL, hn])) (fun n hn => h2 n (by simp [bxsOfL, hn]))
    | succ i =>
      exact RTL.ren hs l (p := fun i v => p (i + 1) v) (fun n hn => h1 n (by simp [arsOfL, hn])) (fun n hn => h2 n (by simp [bxsOfL, hn])) (fun i c hc v hv => hp (i + 1) c (by simpa using hc) v hv) i c (by simpa [renBL, renAL] using hc) v hv
end
theorem idxOf_inj {D : List Nat} {x y : Nat} (hx : x ∈ D) (hy : y ∈ D) (h : idxOf D x = idxOf D y) : x = y := by
  have h1 := idxOf_get hx
  rw [h, idxOf_get hy] at h1
  injection h1 with h1; exact h1.symm
theorem look_mapv {β γ : Type} (f : β → γ) : ∀ (l : List (Nat × β)) (n : Nat), look (l.map fun p => (p.1, f p.2)) n = (look l n).map f
  | [], n => rfl
  | (k, v) :: l, n => by
    simp only [List.map_cons, look]
    split
    · rfl
    · exact look_mapv f l n
theorem look_keepT (s : St) : ∀ (l : List Nat) (t : Nat) (v : V), look (keepT s l) t = some v → look s.tm t = some v ∧ v ∈ (keepT s l).map (·.2)
  | [], t, v, h => by simp [keepT, look] at h
  | k :: l, t, v, h => by
    simp only [keepT] at h ⊢
    cases hk : look s.tm k with
    | none =>
      rw [hk] at h
      simp only at h ⊢
      exact look_keepT s l t v h
    | some u =>
      rw [hk] at h
      simp only [look] at h ⊢
      split at h
      · rename_i e; subst e; injection h with h; subst h; exact ⟨hk, by simp⟩
      · obtain ⟨h1, h2⟩ := look_keepT s l t v h
        exact ⟨h1, by simp only [List.map_cons, List.mem_cons]; exact .inr h2⟩
theorem look_fm {β γ : Type} {f : Nat → Nat} {g : Nat → Option β} {c : β → γ} : ∀ {l : List Nat}, (∀ x ∈ l, ∀ y ∈ l, f x = f y → x = y) → ∀ n,
    (∀ z, look (l.filterMap fun a => (g a).map fun b => (f a, c b)) n = some z → ∃ a ∈ l, f a = n ∧ ∃ b, g a = some b ∧ z = c b) ∧
    (look (l.filterMap fun a => (g a).map fun b => (f a, c b)) n = none → ∀ a ∈ l, f a = n → g a = none)
  | [], _, n => ⟨fun z h => by simp [look] at h, fun _ a ha => by cases ha⟩
  | x :: l, hi, n => by
    obtain ⟨h1, h2⟩ := look_fm (f := f) (g := g) (c := c) (l := l) (fun y hy z hz => hi y (List.mem_cons_of_mem _ hy) z (List.mem_cons_of_mem _ hz)) n
    cases hx : g x with
    | none =>
      have he : ((x :: l).filterMap fun a => (g a).map fun b => (f a, c b)) = l.filterMap fun a => (g a).map fun b => (f a, c b) := by simp [List.filterMap_cons, hx]
      rw [he]
      refine ⟨fun z hz => ?_, fun hn a ha hf => ?_⟩
      · obtain ⟨a, q1, q2⟩ := h1 z hz; exact ⟨a, List.mem_cons_of_mem _ q1, q2⟩
      · rcases List.mem_cons.1 ha with rfl | ha
        · exact hx
        · exact h2 hn a ha hf
    | some b =>
      have he : ((x :: l).filterMap fun a => (g a).map fun b => (f a, c b)) = (f x, c b) :: l.filterMap fun a => (g a).map fun b => (f a, c b) := by simp [List.filterMap_cons, hx]
      rw [he]
      simp only [look]
      split
      · rename_i e
        refine ⟨fun z hz => ⟨x, List.mem_cons_self, e, b, hx, by injection hz with hz; exact hz.symm⟩, fun hn => by cases hn⟩
      · rename_i e
        refine ⟨fun z hz => ?_, fun hn a ha hf => ?_⟩
        · obtain ⟨a, q1, q2⟩ := h1 z hz; exact ⟨a, List.mem_cons_of_mem _ q1, q2⟩
        · rcases List.mem_cons.1 ha with rfl | ha
          · exact absurd hf e
          · exact h2 hn a ha hf
theorem subset_mem {l m : List Nat} (h : subset l m = true) : ∀ x ∈ l, x ∈ m := by
  intro x hx
  have := List.all_eq_true.1 h x hx
  simpa using this
open Classical in
noncomputable def Gh.ren (gh : Gh) (la lb : List Nat) : Gh :=
  { sh := gh.sh, ai := fun n => (la[n]?).bind fun m => if idxOf la m = n then gh.ai m else none, bi := fun n => (lb[n]?).bind fun m => if idxOf lb m = n then gh.bi m else none,
    own := fun x => match gh.own x with | some (.a m) => if m ∈ la then some (.a (idxOf la m)) else none | some (.b m) => if m ∈ lb then some (.b (idxOf lb m)) else none | _ => none }
theorem Gh.ren_a {la lb : List Nat} {x m : Nat} (hm : m ∈ la) : (gh.ren la lb).own x = some (.a (idxOf la m)) ↔ gh.own x = some (.a m) := by
  simp only [Gh.ren]
  cases h : gh.own x with
  | none => simp
  | some q =>
    cases q with
    | t n => simp
    | a n =>
      simp only
      by_cases hn : n ∈ la
      · rw [if_pos hn]
        constructor
        · intro e; injection e with e; injection e with e; rw [idxOf_inj hn hm e]
        · intro e; injection e with e; injection e with e; rw [e]
      · rw [if_neg hn]
        constructor
        · intro e; cases e
        · intro e; injection e with e; injection e with e; subst e; exact absurd hm hn
    | b n =>
      simp only
      constructor
      · intro e; split at e <;> cases e
      · intro e; cases e
theorem Gh.ren_b {la lb : List Nat} {x m : Nat} (hm : m ∈ lb) : (gh.ren la lb).own x = some (.b (idxOf lb m)) ↔ gh.own x = some (.b m) := by
  simp only [Gh.ren]
  cases h : gh.own x with
  | none => simp
  | some q =>
    cases q with
    | t n => simp
    | b n =>
      simp only
      by_cases hn : n ∈ lb
      · rw [if_pos hn]
        constructor
        · intro e; injection e with e; injection e with e; rw [idxOf_inj hn hm e]
        · intro e; injection e with e; injection e with e; rw [e]
      · rw [if_neg hn]
        constructor
        · intro e; cases e
        · intro e; injection e with e; injection e with e; subst e; exact absurd hm hn
    | a n =>
      simp only
      constructor
      · intro e; split at e <;> cases e
      · intro e; cases e
theorem Gh.ren_own {la lb : List Nat} {x : Nat} {q : Res} (h : (gh.ren la lb).own x = some q) : (∃ m ∈ la, q = .a (idxOf la m) ∧ gh.own x = some (.a m)) ∨ ∃ m ∈ lb, q = .b (idxOf lb m) ∧ gh.own x = some (.b m) := by
  simp only [Gh.ren] at h
  split at h
  · rename_i m hm
    split at h
    · injection h with h; exact .inl ⟨m, by assumption, h.symm, hm⟩
    · cases h
  · rename_i m hm
    split at h
    · injection h with h; exact .inr ⟨m, by assumption, h.symm, hm⟩
    · cases h
  · cases h
section
variable [Glb]
theorem norm0_ok (H : Inv w0 mine N pb gh s a w) {keep : List Nat} (h : norm0 keep s = some s') : ∃ gh', Inv w0 mine N pb gh' s' a w := by
  unfold norm0 at h
  simp only at h
  generalize hts : keepT s keep = ts at h
  generalize hbs : closeB s 40 [] (List.range s.np ++ bxsOfL (ts.map (·.2))) = bs at h
  generalize has : dedup [] (arsOfL (ts.map (·.2)) ++ bs.flatMap fun b => arsOfL (cellsIn s b)) = la at h
  have hdd : ∀ (l done : List Nat), (∀ x ∈ done, x ∈ dedup done l) ∧ ∀ x ∈ l, x ∈ dedup done l := by
    intro l
    induction l with
    | nil => intro done; exact ⟨fun x hx => hx, by simp⟩
    | cons y l ih =>
      intro done
      simp only [dedup]
      split
      · rename_i hc
        refine ⟨(ih done).1, fun x hx => ?_⟩
        rcases List.mem_cons.1 hx with rfl | hx
        · exact (ih done).1 x (by simpa using hc)
        · exact (ih done).2 x hx
      · refine ⟨fun x hx => (ih _).1 x (List.mem_append_left _ hx), fun x hx => ?_⟩
        rcases List.mem_cons.1 hx with rfl | hx
        · exact (ih _).1 x (by simp)
        · exact (ih _).2 x hx
  have hla : ∀ x, (x ∈ arsOfL (ts.map (·.2)) ∨ ∃ b ∈ bs, x ∈ arsOfL (cellsIn s b)) → x ∈ la := by
    intro x hx
    rw [← has]
    refine (hdd _ []).2 x ?_
    rcases hx with hx | ⟨b, hb, hx⟩
    · exact List.mem_append_left _ hx
    · exact List.mem_append_right _ (List.mem_flatMap.2 ⟨b, hb, hx⟩)
  split at h
  · rename_i hc
    simp only [Bool.and_eq_true] at hc
    obtain ⟨⟨⟨⟨⟨c1, c2⟩, c3⟩, c4⟩, c5⟩, c6⟩ := hc
    injection h with h
    have haig : ∀ m ∈ la, (gh.ren la bs).ai (idxOf la m) = gh.ai m := fun m hm => by simp only [Gh.ren]; rw [idxOf_get hm]; simp
    have hbig : ∀ m ∈ bs, (gh.ren la bs).bi (idxOf bs m) = gh.bi m := fun m hm => by simp only [Gh.ren]; rw [idxOf_get hm]; simp
    have hin : ∀ {l : List V}, (∀ v ∈ l, v ∈ ts.map (·.2)) → True := fun _ => trivial
    have memL : ∀ {l : List V} {v : V} {x : Nat}, v ∈ l → x ∈ arsOf v → x ∈ arsOfL l := by
      intro l v x hv hx
      induction l with
      | nil => cases hv
      | cons u l ih =>
        simp only [arsOfL, List.mem_append]
        rcases List.mem_cons.1 hv with rfl | hv
        · exact .inl hx
        · exact .inr (ih hv)
    have memB : ∀ {l : List V} {v : V} {x : Nat}, v ∈ l → x ∈ bxsOf v → x ∈ bxsOfL l := by
      intro l v x hv hx
      induction l with
      | nil => cases hv
      | cons u l ih =>
        simp only [bxsOfL, List.mem_append]
        rcases List.mem_cons.1 hv with rfl | hv
        · exact .inl hx
        · exact .inr (ih hv)
    have lookA := fun n => look_fm (f := idxOf la) (g := fun a => look s.ar a) (c := fun (c : Cell) => c) (l := la) (fun x hx y hy => idxOf_inj hx hy) n
    have lookB := fun n => look_fm (f := idxOf bs) (g := fun b => look s.bx b) (c := fun (c : Cell) => renAB (idxOf la) (idxOf bs) c) (l := bs) (fun x hx y hy => idxOf_inj hx hy) n
    have eA : s'.ar = la.filterMap fun a => (look s.ar a).map fun c => (idxOf la a, c) := by rw [← h]
    have eB : s'.bx = bs.filterMap fun b => (look s.bx b).map fun c => (idxOf bs b, renAB (idxOf la) (idxOf bs) c) := by rw [← h]
    have eT : s'.tm = ts.map fun p => (p.1, renA (idxOf la) (renB (idxOf bs) p.2)) := by rw [← h]
    have eN : s'.np = s.np := by rw [← h]
    have gone : ∀ {l : List Nat} {n : Nat}, (∀ m ∈ l, idxOf l m ≠ n) → l.Nodup ∨ True → ∀ y, l[n]? = some y → idxOf l y ≠ n := fun h _ y hy => h y (List.mem_of_getElem? hy)
    refine ⟨gh.ren la bs, ⟨H.size, H.defers, ?_, ?_, ?_, ?_, ?_, ?_, ?_, ?_, H.sh, by rw [eN]; exact H.np, ?_, H.frm, H.shs, H.fix, H.glb⟩⟩
    · intro t V hV
      rw [eT, look_mapv (fun v => renA (idxOf la) (renB (idxOf bs) v))] at hV
      obtain ⟨u, hu, rfl⟩ := Option.map_eq_some_iff.1 hV
      rw [← hts] at hu
      obtain ⟨h1, h2⟩ := look_keepT s keep t u hu
      rw [hts] at h2
      exact RT.ren (gh := gh) (gh' := gh.ren la bs) rfl u _ (H.tm t u h1) (fun n hn => haig n (hla n (.inl (memL h2 hn)))) (fun n hn => hbig n (subset_mem c5 n (memB h2 hn)))
    · intro n c hn
      rw [eA] at hn
      obtain ⟨m, hm, rfl, c', hc', rfl⟩ := (lookA n).1 c hn
      obtain ⟨ai, e1, e2⟩ := H.ar m _ hc'
      refine ⟨ai, by rw [haig m hm]; exact e1, ?_⟩
      have hF : (fun x => (gh.ren la bs).own x = some (.a (idxOf la m))) = (fun x => gh.own x = some (.a m)) := funext fun x => propext (Gh.ren_a hm)
      cases c with
      | a fz xs =>
        simp only [CellA, RowOk] at e2 ⊢
        cases fz with
        | true => exact e2
        | false =>
          rcases e2 with ⟨q1, q2, q3⟩ | ⟨q1, q2, q3, q4⟩
          · exact .inl ⟨q1, q2, fun x hx => q3 x ((Gh.ren_a hm).1 hx)⟩
          · refine .inr ⟨?_, q2, (Gh.ren_a hm).2 q3, q4⟩
            rw [hF]; exact q1
      | dead => intro x hx; exact e2 x ((Gh.ren_a hm).1 hx)
      | v x => exact e2
      | b cs => exact e2
      | m es => exact e2
      | h xs =>
        have := List.all_eq_true.1 c3 m hm
        rw [hc'] at this; simp [okA] at this
    · intro n c hn
      rw [eB] at hn
      obtain ⟨m, hm, rfl, c', hc', rfl⟩ := (lookB n).1 c hn
      obtain ⟨b, e1, e2, e3⟩ := H.bx m _ hc'
      refine ⟨b, by rw [hbig m hm]; exact e1, (Gh.ren_b hm).2 e2, ?_⟩
      cases c' with
      | b cs =>
        obtain ⟨vs, t, q1, q2, q3⟩ := e3
        have hci : cellsIn s m = cs := by simp [cellsIn, hc']
        refine ⟨vs, t, q1, by rw [renAL_length, renBL_length]; exact q2, fun i c v hc hv => ?_⟩
        refine RTL.ren (gh := gh) (gh' := gh.ren la bs) (fa := idxOf la) (fb := idxOf bs) rfl cs (p := fun i v => vs[i]? = some v) (fun n hn => haig n (hla n (.inr ⟨m, hm, by rw [hci]; exact hn⟩))) (fun n hn => hbig n ?_) (fun i c hc v hv => q3 i c v hc hv) i c hc v hv
        exact subset_mem c4 n (List.mem_flatMap.2 ⟨m, hm, by rw [hci]; exact hn⟩)
      | m es => exact e3
      | dead => exact e3
      | a fz xs => exact e3
      | v x => exact e3
      | h xs => exact e3
    · intro n hn
      rw [eA] at hn
      have h1 := (lookA n).2 hn
      have h2 : ∀ m ∈ la, idxOf la m ≠ n := by
        intro m hm e
        have := List.all_eq_true.1 c3 m hm
        rw [h1 m hm e] at this; simp [okA] at this
      refine ⟨?_, ?_⟩
      · simp only [Gh.ren]
        cases hz : la[n]? with
        | none => rfl
        | some y =>
          have hy := List.mem_of_getElem? hz
          simp only [Option.bind_some]
          rw [if_neg (h2 y hy)]
      · intro x hx
        rcases Gh.ren_own hx with ⟨m, hm, e, _⟩ | ⟨m, hm, e, _⟩
        · injection e with e; exact h2 m hm e.symm
        · cases e
    · intro n hn
      rw [eB] at hn
      have h1 := (lookB n).2 hn
      have h2 : ∀ m ∈ bs, idxOf bs m ≠ n := by
        intro m hm e
        have := List.all_eq_true.1 c2 m hm
        rw [h1 m hm e] at this; cases this
      refine ⟨?_, ?_⟩
      · simp only [Gh.ren]
        cases hz : bs[n]? with
        | none => rfl
        | some y =>
          have hy := List.mem_of_getElem? hz
          simp only [Option.bind_some]
          rw [if_neg (h2 y hy)]
      · intro x hx
        rcases Gh.ren_own hx with ⟨m, hm, e, _⟩ | ⟨m, hm, e, _⟩
        · cases e
        · injection e with e; exact h2 m hm e.symm
    · intro x q hx
      rcases Gh.ren_own hx with ⟨m, hm, e, h1⟩ | ⟨m, hm, e, h1⟩
      · exact H.own x _ h1
      · exact H.own x _ h1
    · intro x n hx
      rcases Gh.ren_own hx with ⟨m, hm, e, h1⟩ | ⟨m, hm, e, h1⟩
      · cases e
      · injection e with e; subst e; rw [hbig m hm]; exact H.ownb x m h1
    · intro x n hx
      rcases Gh.ren_own hx with ⟨m, hm, e, h1⟩ | ⟨m, hm, e, h1⟩
      · cases e
      · cases e
    · intro i b hi
      have hlt : i < s.np := by rw [H.np]; exact (List.getElem?_eq_some_iff.1 hi).1
      have h1 := subset_mem c6 i (List.mem_range.2 hlt)
      have h2 : idxOf bs i = i := by have := List.all_eq_true.1 c1 i (List.mem_range.2 hlt); simpa using this
      have := hbig i h1
      rw [h2] at this
      rw [this]; exact H.pbs i b hi
  · cases h
/-! ### empty rows get names -/
end
mutual
theorem nn_le : ∀ (v : V) (n : Nat), n ≤ (nn v n).2
  | .ls true [], n => by simp [nn]
  | .ls true (_ :: _), n => by simp [nn]
  | .ls false _, n => by simp [nn]
  | .ag cs, n => by simp only [nn]; exact nnL_le cs n
  | .tu cs, n => by simp only [nn]; exact nnL_le cs n
  | .sc _, n => by simp [nn]
  | .rf _ _ _, n => by simp [nn]
  | .bx _ _, n => by simp [nn]
  | .ep _ _ _, n => by simp [nn]
  | .fp _ _ _, n => by simp [nn]
  | .fn _ _, n => by simp [nn]
  | .mp _, n => by simp [nn]
theorem nnL_le : ∀ (l : List V) (n : Nat), n ≤ (nnL l n).2
  | [], n => by simp [nnL]
  | v :: l, n => by simp only [nnL]; exact Nat.le_trans (nn_le v n) (nnL_le l _)
end
theorem nnT_le : ∀ (l : List (Nat × V)) (n : Nat), n ≤ (nnT l n).2
  | [], n => by simp [nnT]
  | (t, v) :: l, n => by simp only [nnT]; exact Nat.le_trans (nn_le v n) (nnT_le l _)
theorem nnB_le : ∀ (l : List (Nat × Cell)) (n : Nat), n ≤ (nnB l n).2
  | [], n => by simp [nnB]
  | (b, c) :: l, n => by
    cases c with
    | b cs => simp only [nnB]; exact Nat.le_trans (nnL_le cs n) (nnB_le l _)
    | _ => simp only [nnB]; exact nnB_le l n
mutual
theorem nn_ok {gh gh' : Gh} {h : Array Obj} {lo hi : Nat} (hm : ∀ v x, RT gh h v x → RT gh' h v x) (hr : ∀ m, lo ≤ m → m < hi → gh'.ai m = some ⟨0, 0, 0, 0⟩) : ∀ (v : V) (x : Value) (n : Nat), lo ≤ n → (nn v n).2 ≤ hi → RT gh h v x → RT gh' h (nn v n).1 x
  | .ls true [], x, n, h1, h2, H => by
    rcases H.lsV with ⟨h, _⟩ | ⟨_, _, A, rfl⟩
    · cases h
    · simp only [nn] at h2 ⊢
      exact .rf n 0 0 ⟨0, 0, 0, 0⟩ A 0 (hr n h1 (by omega)) (Nat.le_refl _) (Nat.le_refl _) (.inl rfl)
  | .ls true (_ :: _), x, n, h1, h2, H => by simp only [nn]; exact hm _ _ H
  | .ls false _, x, n, h1, h2, H => by simp only [nn]; exact hm _ _ H
  | .ag cs, x, n, h1, h2, H => by
    obtain ⟨vs, rfl, e1, e2⟩ := H.agV
    simp only [nn] at h2 ⊢
    obtain ⟨q1, q2⟩ := nnL_ok hm hr cs vs.toList n h1 h2 (by simpa using e1) (fun i c v hc hv => e2 i c v hc (by simpa using hv))
    exact .ag _ _ (by simpa using q1) fun i c v hc hv => q2 i c v hc (by simpa using hv)
  | .tu cs, x, n, h1, h2, H => by
    obtain ⟨vs, rfl, e1, e2⟩ := H.tuV
    simp only [nn] at h2 ⊢
    obtain ⟨q1, q2⟩ := nnL_ok hm hr cs vs.toList n h1 h2 (by simpa using e1) (fun i c v hc hv => e2 i c v hc (by simpa using hv))
    exact .tu _ _ (by simpa using q1) fun i c v hc hv => q2 i c v hc (by simpa using hv)
  | .sc _, x, n, h1, h2, H => by simp only [nn]; exact hm _ _ H
  | .rf _ _ _, x, n, h1, h2, H => by simp only [nn]; exact hm _ _ H
  | .bx _ _, x, n, h1, h2, H => by simp only [nn]; exact hm _ _ H
  | .ep _ _ _, x, n, h1, h2, H => by simp only [nn]; exact hm _ _ H
  | .fp _ _ _, x, n, h1, h2, H => by simp only [nn]; exact hm _ _ H
  | .fn _ _, x, n, h1, h2, H => by simp only [nn]; exact hm _ _ H
  | .mp _, x, n, h1, h2, H => by simp only [nn]; exact hm _ _ H
theorem nnL_ok {gh gh' : Gh} {h : Array Obj} {lo hi : Nat} (hm : ∀ v x, RT gh h v x → RT gh' h v x) (hr : ∀ m, lo ≤ m → m < hi → gh'.ai m = some ⟨0, 0, 0, 0⟩) : ∀ (l : List V) (vs : List Value) (n : Nat), lo ≤ n → (nnL l n).2 ≤ hi → l.length = vs.length →
    (∀ (i : Nat) (c : V) (v : Value), l[i]? = some c → vs[i]? = some v → RT gh h c v) → (nnL l n).1.length = vs.length ∧ ∀ (i : Nat) (c : V) (v : Value), (nnL l n).1[i]? = some c → vs[i]? = some v → RT gh' h c v
  | [], vs, n, h1, h2, hl, H => by
    cases vs with
    | nil => simp [nnL]
    | cons v vs => simp at hl
  | u :: l, vs, n, h1, h2, hl, H => by
    cases vs with
    | nil => simp at hl
    | cons v vs =>
      simp only [nnL] at h2 ⊢
      obtain ⟨q1, q2⟩ := nnL_ok hm hr l vs (nn u n).2 (Nat.le_trans h1 (nn_le u n)) h2 (by simpa using hl) (fun i c v hc hv => H (i + 1) c v (by simpa using hc) (by simpa using hv))
      refine ⟨by simp [q1], fun i c x hc hx => ?_⟩
      cases i with
      | zero =>
        simp at hc hx; subst hc; subst hx
        exact nn_ok hm hr u v n h1 (Nat.le_trans (nnL_le l _) h2) (H 0 u v rfl rfl)
      | succ i => exact q2 i c x (by simpa using hc) (by simpa using hx)
end
theorem nnT_look : ∀ (l : List (Nat × V)) (n t : Nat) (v' : V), look (nnT l n).1 t = some v' → ∃ v m, look l t = some v ∧ v' = (nn v m).1 ∧ n ≤ m ∧ (nn v m).2 ≤ (nnT l n).2
  | [], n, t, v', h => by simp [nnT, look] at h
  | (u, v) :: l, n, t, v', h => by
    simp only [nnT, look] at h ⊢
    split at h
    · rename_i hu
      injection h with h
      exact ⟨v, n, by rw [if_pos hu], h.symm, Nat.le_refl _, nnT_le l _⟩
    · rename_i hu
      obtain ⟨x, m, h1, h2, h3, h4⟩ := nnT_look l _ t v' h
      exact ⟨x, m, by rw [if_neg hu]; exact h1, h2, Nat.le_trans (nn_le v n) h3, h4⟩
theorem nnB_look : ∀ (l : List (Nat × Cell)) (n t : Nat), (look l t = none ↔ look (nnB l n).1 t = none) ∧ ∀ c', look (nnB l n).1 t = some c' → ∃ c m, look l t = some c ∧ n ≤ m ∧
    ((∀ cs, c ≠ .b cs) ∧ c' = c ∨ ∃ cs, c = .b cs ∧ c' = .b (nnL cs m).1 ∧ (nnL cs m).2 ≤ (nnB l n).2)
  | [], n, t => by simp [nnB, look]
  | (u, c) :: l, n, t => by
    cases c with
    | b cs =>
      obtain ⟨e1, e2⟩ := nnB_look l (nnL cs n).2 t
      simp only [nnB, look]
      by_cases hu : u = t
      · simp only [hu, if_true]
        refine ⟨by simp, fun c' h => ?_⟩
        injection h with h
        exact ⟨_, n, rfl, Nat.le_refl _, .inr ⟨cs, rfl, h.symm, nnB_le l _⟩⟩
      · simp only [hu, if_false]
        refine ⟨e1, fun c' h => ?_⟩
        obtain ⟨c, m, h1, h2, h3⟩ := e2 c' h
        exact ⟨c, m, h1, Nat.le_trans (nnL_le cs n) h2, h3⟩
    | _ =>
      obtain ⟨e1, e2⟩ := nnB_look l n t
      simp only [nnB, look]
      by_cases hu : u = t
      · simp only [hu, if_true]
        refine ⟨by simp, fun c' h => ?_⟩
        injection h with h
        exact ⟨_, n, rfl, Nat.le_refl _, .inl ⟨(fun cs h => by cases h), h.symm⟩⟩
      · simp only [hu, if_false]
        exact ⟨e1, e2⟩
theorem topA_none : ∀ (l : List (Nat × Cell)) (n : Nat), topA l ≤ n → look l n = none
  | [], n, h => rfl
  | (k, c) :: l, n, h => by
    simp only [topA] at h
    simp only [look]
    rw [if_neg (by omega)]
    exact topA_none l n (by omega)
theorem look_append {β : Type} : ∀ (l m : List (Nat × β)) (n : Nat), look (l ++ m) n = match look l n with | some c => some c | none => look m n
  | [], m, n => rfl
  | (k, c) :: l, m, n => by
    simp only [List.cons_append, look]
    by_cases h : k = n
    · simp [h]
    · simp only [h, if_false]; exact look_append l m n
theorem look_newE : ∀ (m n k : Nat), look (newE n m) k = if n ≤ k ∧ k < n + m then some (.a false []) else none
  | 0, n, k => by simp only [newE, look]; rw [if_neg (by omega)]
  | m + 1, n, k => by
    simp only [newE, look]
    by_cases h : n = k
    · subst h; simp
    · rw [if_neg h, look_newE m (n + 1) k]
      by_cases h2 : n ≤ k ∧ k < n + (m + 1)
      · rw [if_pos h2, if_pos (by omega)]
      · rw [if_neg h2, if_neg (by omega)]
section
variable [Glb]
theorem nameE_ok (H : Inv w0 mine N pb gh s a w) : ∃ gh', Inv w0 mine N pb gh' (nameE s) a w := by
  obtain ⟨n0, hn0⟩ : ∃ n0, n0 = topA s.ar := ⟨_, rfl⟩
  obtain ⟨n1, hn1⟩ : ∃ n1, n1 = (nnB s.bx (nnT s.tm n0).2).2 := ⟨_, rfl⟩
  have l1 := nnT_le s.tm n0
  have l2 := nnB_le s.bx (nnT s.tm n0).2
  have hE : nameE s = { s with tm := (nnT s.tm n0).1, bx := (nnB s.bx (nnT s.tm n0).2).1, ar := s.ar ++ newE n0 (n1 - n0) } := by
    simp only [nameE, hn0, hn1]
  have hnone : ∀ n, n0 ≤ n → look s.ar n = none := fun n hn => topA_none s.ar n (by omega)
  have hlook : ∀ n, look (s.ar ++ newE n0 (n1 - n0)) n = if n0 ≤ n ∧ n < n1 then some (.a false []) else look s.ar n := by
    intro n
    rw [look_append, look_newE]
    by_cases h : n0 ≤ n ∧ n < n1
    · rw [if_pos h, hnone n h.1]; simp; omega
    · rw [if_neg h]
      cases look s.ar n with
      | some c => rfl
      | none => simp only; rw [if_neg (by omega)]
  obtain ⟨gh', hgh⟩ : ∃ gh' : Gh, gh' = { gh with ai := fun n => if n0 ≤ n ∧ n < n1 then some ⟨0, 0, 0, 0⟩ else gh.ai n } := ⟨_, rfl⟩
  have e1 : gh'.sh = gh.sh := by rw [hgh]
  have e2 : gh'.bi = gh.bi := by rw [hgh]
  have e3 : gh'.own = gh.own := by rw [hgh]
  have e4 : ∀ n, gh'.ai n = if n0 ≤ n ∧ n < n1 then some ⟨0, 0, 0, 0⟩ else gh.ai n := by rw [hgh]; exact fun _ => rfl
  have hai : ∀ n x, gh.ai n = some x → gh'.ai n = some x := by
    intro n x hx
    rw [e4, if_neg, hx]
    intro h
    rw [(H.ar0 n (hnone n h.1)).1] at hx; cases hx
  have hm : ∀ v x, RT gh w.heap v x → RT gh' w.heap v x := fun v x h => h.mono (by rw [e1]; exact fun _ h => h) (fun _ _ => rfl) hai (by rw [e2]; exact fun _ _ h => h)
  have H1 : Inv w0 mine N pb gh' { s with ar := s.ar ++ newE n0 (n1 - n0) } a w := by
    refine H.step (gh' := gh') (w' := w) (fun q => ∃ n, q = .a n ∧ n0 ≤ n ∧ n < n1) (by rw [e1]; exact fun _ h => h) hai (by rw [e2]; exact fun _ _ h => h) (fun _ _ => rfl) (fun q _ x => by rw [e3]) rfl rfl ?_ (fun _ _ => rfl) ?_ (fun n _ => by rw [e2]) ?_ (fun n h => by obtain ⟨m, h, _⟩ := h; cases h) ?_ (fun x n h => by obtain ⟨m, h, _⟩ := h; cases h) (by rw [e3]; exact H.ownt) (by rw [e1]; exact H.sh) H.frm (by rw [e1]; exact H.shs)
    · intro n hn
      show look (s.ar ++ newE n0 (n1 - n0)) n = _
      rw [hlook, if_neg]
      intro h; exact hn ⟨n, rfl, h.1, h.2⟩
    · intro n hn
      rw [e4, if_neg]
      intro h; exact hn ⟨n, rfl, h.1, h.2⟩
    · rintro n ⟨m, hm, h1, h2⟩
      injection hm with hm; subst hm
      refine ⟨.a false [], ⟨0, 0, 0, 0⟩, ?_, by rw [e4, if_pos ⟨h1, h2⟩], .inl ⟨rfl, rfl, ?_⟩⟩
      · show look (s.ar ++ newE n0 (n1 - n0)) n = _
        rw [hlook, if_pos ⟨h1, h2⟩]
      · rw [e3]; exact (H.ar0 n (hnone n h1)).2
    · intro x q hx
      rw [e3] at hx
      rw [e1]; exact H.own x q hx
  refine ⟨gh', ?_⟩
  rw [hE]
  have hr : ∀ m, n0 ≤ m → m < n1 → gh'.ai m = some ⟨0, 0, 0, 0⟩ := fun m h1 h2 => by rw [e4, if_pos ⟨h1, h2⟩]
  refine { H1 with tm := ?_, bx := ?_, bx0 := ?_ }
  · intro t v hv
    obtain ⟨u, m, h1, rfl, h3, h4⟩ := nnT_look s.tm n0 t v hv
    exact nn_ok hm hr u _ m h3 (by omega) (H.tm t u h1)
  · intro n c hc
    obtain ⟨c0, m, h1, h2, h3⟩ := (nnB_look s.bx (nnT s.tm n0).2 n).2 c hc
    obtain ⟨b, q1, q2, q3⟩ := H.bx n c0 h1
    refine ⟨b, by rw [e2]; exact q1, by rw [e3]; exact q2, ?_⟩
    rcases h3 with ⟨h3, rfl⟩ | ⟨cs, rfl, rfl, h3⟩
    · cases c with
      | b cs => exact absurd rfl (h3 cs)
      | m es => exact q3
      | dead => exact q3
      | a fz xs => exact q3
      | v x => exact q3
      | h xs => exact q3
    · obtain ⟨vs, t, z1, z2, z3⟩ := q3
      obtain ⟨y1, y2⟩ := nnL_ok hm hr cs vs.toList m (by omega) (by omega) (by simpa using z2) (fun i c v hc hv => z3 i c v hc (by simpa using hv))
      exact ⟨vs, t, z1, by simpa using y1, fun i c v hc hv => y2 i c v hc (by simpa using hv)⟩
  · intro n hn
    have := H.bx0 n ((nnB_look s.bx (nnT s.tm n0).2 n).1.2 hn)
    rw [e2, e3]; exact this
theorem norm_ok (H : Inv w0 mine N pb gh s a w) {keep : List Nat} (h : norm keep s = some s') : ∃ gh', Inv w0 mine N pb gh' s' a w := by
  simp only [norm, bO_eq] at h
  obtain ⟨⟨u, s1⟩, h1, h2⟩ := h
  obtain ⟨gh1, s2, h3, H1, _⟩ := fillV_ok H h1
  obtain ⟨gh2, s3, h4, H2, _⟩ := fillB_ok 20 _ _ gh1 s2 _ H1 h3
  simp only [M.run] at h4
  injection h4 with h4; injection h4 with h4 h5; subst h5
  have H3 : Inv w0 mine N pb gh2 { s3 with tm := keepT s3 keep } a w := { H2 with tm := fun t v hv => H2.tm t v (look_keepT s3 keep t v hv).1 }
  obtain ⟨gh3, H4⟩ := nameE_ok H3
  exact norm0_ok H4 h2
end
end Go.Pv

set_option linter.unusedSimpArgs false
set_option linter.unusedVariables false
namespace Go.Pv
variable {α : Type} {w0 : World} {mine : Mine} {N : Nat} {pb : List Nat} {gh : Gh} {s s' : St} {a : Act} {w : World} {g : Ora} {P : Program} {own : Nat → Nat → Mode}

mutual
theorem renB_id : ∀ v : V, renB (fun i => i) v = v
  | .sc _ => rfl
  | .ls _ _ => rfl
  | .rf _ _ _ => rfl
  | .ep _ _ _ => rfl
  | .fp _ _ _ => rfl
  | .ag cs => by simp only [renB, renBL_id cs]
  | .tu cs => by simp only [renB, renBL_id cs]
  | .bx _ _ => rfl
  | .fn _ cs => by simp only [renB, renBL_id cs]
  | .mp _ => rfl
theorem renBL_id : ∀ l : List V, renBL (fun i => i) l = l
  | [] => rfl
  | v :: l => by simp only [renBL, renB_id v, renBL_id l]
end
theorem renC_id (c : Cell) : renC (fun i => i) c = c := by cases c <;> simp [renC, renBL_id]
section
variable [Glb]
theorem Inv.setT (H : Inv w0 mine N pb gh s a w) {V : V} {t : Nat} (hv : RT gh w.heap V (a.tmps.getD t undef)) : Inv w0 mine N pb gh (s.put (.t t) (.v V)) a w :=
  { H with
    tm := by
      intro m x hx
      simp only [St.put, look_setA] at hx
      split at hx
      · rename_i hm
        subst hm
        injection hx with hx
        subst hx
        exact hv
      · exact H.tm m x hx }
theorem putAll_ok : ∀ (l : List V) (n : Nat) (s : St) (s' : St), Inv w0 mine N pb gh s a w → (∀ (i : Nat) (c : V), l[i]? = some c → RT gh w.heap c (a.tmps.getD (n + i) undef)) → (putAll n l).run g s = some ((), s') → Inv w0 mine N pb gh s' a w
  | [], n, s, s', H, hv, h => by
    simp [putAll, M.run] at h; subst h; exact H
  | v :: l, n, s, s', H, hv, h => by
    simp only [putAll, M.run] at h
    exact putAll_ok l (n + 1) _ s' (H.setT (hv 0 v rfl)) (fun i c hc => by have := hv (i + 1) c (by simpa using hc); rw [show n + 1 + i = n + (i + 1) by omega]; exact this) h
theorem init_ok {sh : BSet} {av : List V} {args : Array Value} {Fs : List BSet} {cs : List Cell} {bl : List Nat} {Gs : List (List BSet)} (G : Given w sh av args.toList Fs cs bl Gs) {fx : List (Nat × Value)} (hfx : ∀ p ∈ fx, args[p.1]? = some p.2) {r : Unit × St} (h : (initM av cs).run g ⟨cs.length, [], [], []⟩ = some r) (n : Nat) :
    ∃ gh, Inv w ⟨mineOf Fs Gs bl, sh, fx⟩ (args ++ Array.replicate (n - args.size) undef).size bl gh r.2 ⟨args ++ Array.replicate (n - args.size) undef, []⟩ w := by
  obtain ⟨u, sf⟩ := r
  obtain ⟨k1, k2, k3⟩ := M.local _ _ _ _ h
  obtain ⟨t', h', q2, q3, q4⟩ := k3 ⟨0, [], [], []⟩ (fun r b _ => by cases r <;> rfl)
  have hget : ∀ r, t'.get r = sf.get r := by
    intro r
    by_cases hw : (r, true) ∈ (initM av cs).foot g ⟨cs.length, [], [], []⟩
    · exact q2 r hw
    · rw [q3 r hw, k1 r hw]; cases r <;> rfl
  generalize hA : (⟨args ++ Array.replicate (n - args.size) undef, []⟩ : Act) = A
  have hAt : A.tmps = args ++ Array.replicate (n - args.size) undef := by rw [← hA]
  have H0 : Inv w ⟨mineOf Fs Gs bl, sh, fx⟩ (args ++ Array.replicate (n - args.size) undef).size [] ⟨sh, fun _ => none, fun _ => none, fun _ => none⟩ ⟨0, [], [], []⟩ A w := by
    exact {
      size := by rw [hAt]
      defers := by rw [← hA]
      tm := fun t v h => by simp [look] at h
      ar := fun n c h => by simp [look] at h
      bx := fun n c h => by simp [look] at h
      ar0 := fun _ _ => ⟨rfl, fun x h => by cases h⟩
      bx0 := fun _ _ => ⟨rfl, fun x h => by cases h⟩
      own := fun x r h => by cases h
      ownb := fun x n h => by cases h
      ownt := fun x n h => by cases h
      sh := G.shLt
      glb := G.glb
      np := rfl
      pbs := by simp
      fix := by
        intro p hp
        have h1 := hfx p hp
        have hlt := (Array.getElem?_eq_some_iff.1 h1).1
        rw [hAt, Array.getD_eq_getD_getElem?, Array.getElem?_append_left hlt, h1]
        rfl
      frm := ⟨Nat.le_refl _, fun _ _ _ => rfl, rfl, rfl, rfl, SameSz.refl _⟩
      shs := fun x hx => .inl hx }
  unfold initM at h'
  have hrl : (List.range cs.length).length = bl.length := by simp [G.lenB]
  have mF : ∀ F ∈ Fs ++ Gs.flatten, ∀ y, F y → mineOf Fs Gs bl y := fun F hF y hy => .inl ⟨F, hF, hy⟩
  obtain ⟨gh1, s1, e1, I1, e2, e3, e4, e5, e6, e7⟩ := newBs_ok (List.range cs.length) bl _ _ _ H0 hrl G.nodup (fun b hb => ⟨rfl, (G.blk b hb).1, (G.blk b hb).2, fun _ => .inr hb⟩) h'
  obtain ⟨d1, d2, d3⟩ := List.pairwise_append.1 G.disj
  have hfree : ∀ F ∈ Fs ++ Gs.flatten, ∀ y, F y → gh1.own y = none := by
    intro F hF y hy
    cases h9 : gh1.own y with
    | none => rfl
    | some q =>
      rcases e6 y q h9 with h8 | h8
      · cases h8
      · exact absurd h8 (G.apart F hF y hy).1
  obtain ⟨xs, i1, i2, i3⟩ := impL_ok (nm := fun i => i) av args.toList Fs 0 G.xr
  rw [renBL_id] at i1 i2 i3
  obtain ⟨gh2, s2, f1, I2, f2, f3, f4, f5, f6, f7⟩ := wrAs_ok _ xs Fs gh1 s1 _ I1 (by rw [e2]; exact i1) d1 (fun F hF y hy => ⟨hfree F (List.mem_append_left _ hF) y hy, fun _ => mF F (List.mem_append_left _ hF) y hy⟩) e1
  have hname : ∀ (j n b : Nat), (List.range cs.length)[j]? = some n → bl[j]? = some b → gh1.bi n = some b ∧ gh1.own b = some (.b n) := e7
  have hnm : ∀ i c, bl[i]? = some c → gh1.bi i = some c := by
    intro i c hi
    have hil := (List.getElem?_eq_some_iff.1 hi).1
    exact (hname i i c (by rw [List.getElem?_range (by rw [← G.lenB]; exact hil)]) hi).1
  have hcs : cs.map (renC fun i => i) = cs := by
    have : (renC fun i => i) = id := funext renC_id
    rw [this]; simp
  rw [← hcs] at f1
  have hcl : (cs.map (renC fun i => i)).length = cs.length := by simp
  obtain ⟨gh3, s3, g1, I3, g2, g3, g4⟩ := back_ok (nm := fun i => i) (bi := fun i => bl[i]?) cs (List.range cs.length) bl Gs _ gh2 s2 _ I2 (by simp) G.lenB G.lenG (fun i c hc => by rw [f3]; exact hnm i c hc)
    (fun j n b h1 h2 => by rw [f3]; exact ⟨(hname j n b h1 h2).1, f7 _ _ (hname j n b h1 h2).2⟩) (fun j b c Gj h1 h2 h3 => by rw [f2, e2]; exact G.bx j b c Gj h1 h2 h3) d2 (fun F hF y hy => by
      refine ⟨?_, fun _ => mF F (List.mem_append_right _ hF) y hy⟩
      cases h9 : gh2.own y with
      | none => rfl
      | some q =>
        rcases f6 y q h9 with h8 | ⟨F', h7, h8⟩
        · rw [hfree F (List.mem_append_right _ hF) y hy] at h8; cases h8
        · exact absurd hy (d3 F' h7 F hF y h8)) (by simpa using f1)
  have hsz : args.toList.length = args.size := by simp
  have I4 := putAll_ok _ 0 s3 t' I3 (fun i c hc => by
    have hil : i < args.size := by have := (List.getElem?_eq_some_iff.1 hc).1; rw [i2] at this; simpa using this
    have hv : args.toList[i]? = some args[i] := by simp [hil]
    have hr := i3 gh2 (by rw [f2, e2]) (fun i c hc => by rw [f3]; exact hnm i c hc) f5 i c args[i] hc hv
    have ht : A.tmps.getD (0 + i) undef = args[i] := by
      rw [hAt, Nat.zero_add, Array.getD_eq_getD_getElem?, Array.getElem?_append_left hil]
      simp [hil]
    rw [ht]
    exact hr.mono (fun b hb => by rw [g2]; exact hb) (fun _ _ => rfl) g3 g4) (by cases u; exact g1)
  have hnp : sf.np = cs.length := k2
  refine ⟨gh3, ?_⟩
  have hl1 : ∀ n, look t'.tm n = look sf.tm n := by
    intro n
    have := hget (.t n)
    simp only [St.get] at this
    cases hx : look t'.tm n with
    | none =>
      cases hy : look sf.tm n with
      | none => rfl
      | some y => rw [hx, hy] at this; simp at this
    | some x =>
      cases hy : look sf.tm n with
      | none => rw [hx, hy] at this; simp at this
      | some y =>
        rw [hx, hy] at this
        simp only [Option.map_some] at this
        injection this with this
        injection this with this
        rw [this]
  have hl2 : ∀ n, look t'.ar n = look sf.ar n := fun n => hget (.a n)
  have hl3 : ∀ n, look t'.bx n = look sf.bx n := fun n => hget (.b n)
  exact { I4 with
    tm := fun n v h => I4.tm n v (by rw [hl1]; exact h)
    ar := fun n c h => I4.ar n c (by rw [hl2]; exact h)
    bx := fun n c h => I4.bx n c (by rw [hl3]; exact h)
    ar0 := fun n h => I4.ar0 n (by rw [hl2]; exact h)
    bx0 := fun n h => I4.bx0 n (by rw [hl3]; exact h)
    np := by rw [hnp]; exact G.lenB.symm
    pbs := fun i b hi => g4 _ _ (by rw [f3]; exact hnm i b hi) }
end
end Go.Pv

set_option linter.unusedSimpArgs false
set_option linter.unusedVariables false
namespace Go.Pv
variable {α : Type} {w0 : World} {mine : Mine} {N : Nat} {pb : List Nat} {gh : Gh} {s s' : St} {a : Act} {w : World} {g : Ora} {P : Program} {own : Nat → Nat → Mode}

def oneOrV : List Value → Value
  | [x] => x
  | xs => .tuple xs.toArray
theorem XRL.one {sh : BSet} {h : Array Obj} {bi : Nat → Option Nat} {f : Nat → Nat} {vs : List V} {xs : List Value} {Fs : List BSet} (H : XRL sh h bi (renBL f vs) xs Fs) :
    XR sh h bi (renB f (oneOr vs)) (oneOrV xs) Fs := by
  cases vs with
  | nil =>
    cases xs with
    | nil => exact .tu _ _ _ H
    | cons x xs => cases H
  | cons u us =>
    cases us with
    | nil =>
      cases xs with
      | nil => cases H
      | cons x xs =>
        cases H with
        | cons _ _ _ _ F1 F2 q1 q2 =>
          cases q2
          rw [List.append_nil]
          exact q1
    | cons u2 us =>
      cases xs with
      | nil => cases H
      | cons x xs =>
        cases xs with
        | nil =>
          cases H with
          | cons _ _ _ _ F1 F2 q1 q2 => cases q2
        | cons x2 xs => exact .tu _ _ _ H
/-- what a function hands back, one by one -/
def resRun (tmps : Array Value) : ResultVar → Sem Value
  | .tmp t => pure (tmps.getD t undef)
  | .cell a t => do loadVar t (← asAddr (tmps.getD a undef))
section
variable [Glb]
theorem getR_ok {r : α × St} (H : Inv w0 mine N pb gh s a w) {x : ResultVar} {ri : RI} (hx : resOf P x = some ri) {k : V → M α} (h : (getR ri k).run g s = some r) :
    ∃ V v, (k V).run g s = some r ∧ RT gh w.heap V v ∧ (resRun a.tmps x).run P w = .ok v w := by
  cases x with
  | tmp t =>
    simp only [resOf] at hx
    injection hx with hx; subst hx
    obtain ⟨V, h1, h2⟩ := get_ok (y := .tmp t) H h
    exact ⟨V, _, h1, h2, by simp [resRun, Act.eval]⟩
  | cell p t =>
    simp only [resOf] at hx
    split at hx
    · rename_i i ag hi hg
      split at hx
      · rename_i h0
        injection hx with hx; subst hx
        simp only [getR] at h
        obtain ⟨V, h1, h2⟩ := get_ok (y := .tmp p) H h
        split at h1
        · rename_i b off
          obtain ⟨bb, h3, h4⟩ := h2.bxV
          have h4' : a.tmps.getD p undef = .pointer (some ⟨bb, off, none⟩) := h4
          obtain ⟨cs, b', h5, h6, h7, ⟨vs, ty, h8, h9, h10⟩, h11⟩ := rdB_ok H h1
          rw [h3] at h6; injection h6 with h6; subst h6
          have hrun : ∀ v, (Instr.loadAt t (.pointer (some ⟨bb, off, none⟩))).run P w = .ok v w → (resRun a.tmps (.cell p t)).run P w = .ok v w := by
            intro v hv
            simp only [Instr.loadAt, Instr.sureAddr, pure_bind] at hv
            simp only [resRun, h4', asAddr, pure_bind]
            exact hv
          split at h11
          · rename_i hag
            subst hag
            split at h11
            · rename_i hle
              refine ⟨_, _, h11, part_ok h9 h10 off i.size hle, hrun _ ?_⟩
              have := load_run (w := w) hi hg h8 (off := off) (fun _ => by omega) (fun h => by cases h)
              simpa using this
            · exact (run_fail_ h11).elim
          · rename_i hag
            simp at hag
            subst hag
            obtain ⟨v, h12, h13⟩ := optK_ok h11
            have hlt : off < vs.size := by rw [← h9]; exact (List.getElem?_eq_some_iff.1 h12).1
            refine ⟨v, vs[off], h13, h10 off v _ h12 (Array.getElem?_eq_getElem hlt), hrun _ ?_⟩
            have := load_run (w := w) hi hg h8 (off := off) (fun h => by cases h) (fun _ => hlt)
            simpa [hlt] using this
        · exact (run_fail_ h1).elim
      · cases hx
    · cases hx
theorem getsR_ok {r : α × St} (H : Inv w0 mine N pb gh s a w) : ∀ {rs : List ResultVar} {ris : List RI} {k : List V → M α}, rs.map (resOf P) = ris.map some → (getsR ris k).run g s = some r →
    ∃ Vs xs, (k Vs).run g s = some r ∧ (rs.mapM (resRun a.tmps)).run P w = .ok xs w ∧ Vs.length = xs.length ∧ ∀ (i : Nat) (c : V) (v : Value), Vs[i]? = some c → xs[i]? = some v → RT gh w.heap c v
  | [], ris, k, hr, h => by
    cases ris with
    | nil => exact ⟨[], [], h, by simp, rfl, by simp⟩
    | cons x l => simp at hr
  | x :: rs, ris, k, hr, h => by
    cases ris with
    | nil => simp at hr
    | cons y ris =>
      simp only [List.map_cons, List.cons.injEq] at hr
      obtain ⟨V, v, h1, h2, h3⟩ := getR_ok H hr.1 h
      obtain ⟨Vs, xs, h4, h5, h6, h7⟩ := getsR_ok H hr.2 h1
      refine ⟨V :: Vs, v :: xs, h4, ?_, by simp [h6], ?_⟩
      · simp [List.mapM_cons, h3, h5]
      · intro i c u hc hu
        cases i with
        | zero => simp at hc hu; subst hc; subst hu; exact h2
        | succ i => exact h7 i c u (by simpa using hc) (by simpa using hu)
end
theorem XRL.split {sh : BSet} {h : Array Obj} {bi : Nat → Option Nat} : ∀ {l1 l2 : List V} {x1 x2 : List Value} {Fs : List BSet}, XRL sh h bi (l1 ++ l2) (x1 ++ x2) Fs → l1.length = x1.length → ∃ F1 F2, Fs = F1 ++ F2 ∧ XRL sh h bi l1 x1 F1 ∧ XRL sh h bi l2 x2 F2
  | [], l2, [], x2, Fs, H, _ => ⟨[], Fs, rfl, .nil, H⟩
  | [], l2, x :: x1, x2, Fs, H, h => by simp at h
  | v :: l1, l2, [], x2, Fs, H, h => by simp at h
  | v :: l1, l2, x :: x1, x2, Fs, H, h => by
    cases H with
    | cons _ _ _ _ F1 F2 q1 q2 =>
      obtain ⟨G1, G2, e, h1, h2⟩ := XRL.split (l1 := l1) (x1 := x1) q2 (by simpa using h)
      subst e
      exact ⟨F1 ++ G1, G2, by simp, .cons _ _ _ _ _ _ q1 h1, h2⟩
theorem XRL.len {sh : BSet} {h : Array Obj} {bi : Nat → Option Nat} : ∀ {l : List V} {x : List Value} {Fs : List BSet}, XRL sh h bi l x Fs → l.length = x.length
  | [], _, _, H => by cases H; rfl
  | v :: l, _, _, H => by
    cases H with
    | cons _ _ _ _ F1 F2 q1 q2 => simp [q2.len]
theorem renBL_append (f : Nat → Nat) : ∀ (a b : List V), renBL f (a ++ b) = renBL f a ++ renBL f b
  | [], b => rfl
  | v :: a, b => by simp [renBL, renBL_append f a b]
theorem XRL.packed {sh : BSet} {h : Array Obj} {bi : Nat → Option Nat} {f : Nat → Nat} {vs : List V} {xs ys : List Value} {Fs : List BSet} (H : XRL sh h bi (renBL f vs) (xs ++ ys) Fs) :
    XRL sh h bi (unpack ys.length (renB f (pack ys.length vs))) (oneOrV xs :: ys) Fs := by
  by_cases hy : ys.length = 0
  · have hy' : ys = [] := List.eq_nil_of_length_eq_zero hy
    subst hy'
    simp only [List.append_nil] at H
    have := XRL.cons _ [] _ [] Fs [] H.one .nil
    rw [List.append_nil] at this
    simpa [unpack, pack] using this
  · have hlen := H.len
    rw [renBL_length, List.length_append] at hlen
    have hsp : vs = vs.take (vs.length - ys.length) ++ vs.drop (vs.length - ys.length) := (List.take_append_drop _ _).symm
    have H2 : XRL sh h bi (renBL f (vs.take (vs.length - ys.length)) ++ renBL f (vs.drop (vs.length - ys.length))) (xs ++ ys) Fs := by
      rw [← renBL_append, ← hsp]; exact H
    obtain ⟨F1, F2, e, h1, h2⟩ := XRL.split H2 (by rw [renBL_length, List.length_take]; omega)
    subst e
    have : unpack ys.length (renB f (pack ys.length vs)) = renB f (oneOr (vs.take (vs.length - ys.length))) :: renBL f (vs.drop (vs.length - ys.length)) := by
      simp [unpack, pack, hy, renB, renBL]
    rw [this]
    exact XRL.cons _ _ _ _ _ _ h1.one h2
theorem getsR_append {α : Type} : ∀ (l m : List RI) (k : List V → M α), getsR (l ++ m) k = getsR l fun vs => getsR m fun us => k (vs ++ us)
  | [], m, k => rfl
  | x :: l, m, k => by
    simp only [List.cons_append, getsR]
    congr 1
    funext v
    rw [getsR_append l m]
theorem mapM_tmps (P : Program) (w : World) (tmps : Array Value) : ∀ (lent : List Nat), ((lent.map ResultVar.tmp).mapM (resRun tmps)).run P w = .ok (lent.map fun i => tmps.getD i undef) w
  | [] => by simp
  | i :: l => by
    have ih := mapM_tmps P w tmps l
    simp only [List.map_cons, List.mapM_cons, resRun, pure_bind, Sem.run_bind, ih, Result.andThen_ok, Sem.run_pure]
section
variable [Glb]
theorem finish_core {m sh0 : BSet} {fx : List (Nat × Value)} (H : Inv w0 ⟨m, sh0, fx⟩ N pb gh s a w) (h0 : ∀ y, sh0 y → y < w0.heap.size ∧ ¬ m y) {v : V} {cs' : List Cell} {s' : St} {lent : List Nat} {Vs : List V} {xs xs1 xs2 : List Value}
    (hxs : xs = xs1 ++ xs2) (hys : xs2 = lent.map fun i => a.tmps.getD i undef) (h2 : Vs.length = xs.length) (h3 : ∀ (i : Nat) (c : V) (v : Value), Vs[i]? = some c → xs[i]? = some v → RT gh w.heap c v)
    (h1 : (expL true Vs fun vs' _ => coll 20 (List.range pb.length ++ bxsOfL vs') [] [] fun bs cs => M.pure (renB (idxOf bs) (pack lent.length vs'), cs.map (renC (idxOf bs)))).run g s = some ((v, cs'), s')) :
    CallPost w0 m sh0 pb (unpack lent.length v) cs' (oneOrV xs1 :: lent.map fun i => a.tmps.getD i undef) w := by
  obtain ⟨gh1, s1, vs', nn, Fs, e1, H1, S1, e4, _, _, X1⟩ := expL_ok true Vs (V × List Cell) gh s ((v, cs'), s') xs _ H h2 h3 h1
  have hn := e4 rfl
  subst hn
  obtain ⟨gh2, s2, D, C, Gs, f1, H2, S2, l1, l2, nd, dead, hpre, f2, f3, X2⟩ := coll_ok 20 (List.range pb.length ++ bxsOfL vs') [] [] gh1 s1 _ H1 List.nodup_nil (by simp) e1
  simp only [List.nil_append] at f1 nd dead f2 f3
  simp only [M.run] at f1
  injection f1 with f1
  injection f1 with f1 _
  injection f1 with hv hcs
  obtain ⟨D2, hD2⟩ := hpre (List.range pb.length) (bxsOfL vs') rfl (by simpa using List.nodup_range)
  have S := S1.trans S2
  have hs2 : gh2.sh = gh.sh := S.sh
  have hbi : gh2.bi = gh.bi := S.bi
  have ownm : ∀ y q, gh.own y = some q → ¬ sh0 y ∧ (m y ∨ w0.heap.size ≤ y) := by
    intro y q hy
    have h5 := (H.own y q hy).2.2
    refine ⟨fun hs => (h0 y hs).2 (h5 (h0 y hs).1), ?_⟩
    by_cases hb : y < w0.heap.size
    · exact .inl (h5 hb)
    · exact .inr (by omega)
  have hno : ∀ F ∈ Fs ++ Gs.flatten, ∀ y, F y → ¬ (gh2.sh y ∨ sh0 y) := by
    intro F hF y hy
    obtain ⟨q1, n, q2⟩ := S.free F hF y hy
    rintro (q | q)
    · rw [hs2] at q; exact (H.own y _ q2).1 q
    · exact (ownm y _ q2).1 q
  have B1 := X1 (fun y => gh2.sh y ∨ sh0 y) (fun x hx => .inl (by rw [hs2]; exact hx)) (by simp) (fun F hF => hno F (List.mem_append_left _ hF))
  have B2 := X2 (fun y => gh2.sh y ∨ sh0 y) ⟨fun x hx => .inl (by rw [S2.sh]; exact hx), by simp, fun F hF => hno F (List.mem_append_right _ hF)⟩
  have hget : ∀ b ∈ D, ∃ bb, gh2.bi b = some bb ∧ gh2.own bb = some (.b b) := by
    intro b hb
    obtain ⟨j, hj, rfl⟩ := List.mem_iff_getElem.1 hb
    obtain ⟨bb, q1, q2, q3⟩ := B2 j _ _ _ (List.getElem?_eq_getElem hj) (List.getElem?_eq_getElem (by omega)) (List.getElem?_eq_getElem (by omega))
    exact ⟨bb, by rw [S2.bi]; exact q1, S2.bown _ _ q2⟩
  have hbl : ∀ (j b : Nat), D[j]? = some b → (D.map fun b => (gh2.bi b).getD 0)[j]? = some ((gh2.bi b).getD 0) := by
    intro j b hb; rw [List.getElem?_map, hb]; rfl
  have hlook : ∀ b ∈ D, ∀ c, gh2.bi b = some c → (D.map fun b => (gh2.bi b).getD 0)[idxOf D b]? = some c := by
    intro b hb c hc
    rw [hbl _ _ (idxOf_get hb), hc]; rfl
  have hblm : ∀ y ∈ D.map (fun b => (gh2.bi b).getD 0), ∃ b, gh2.own y = some (.b b) := by
    intro y hy
    obtain ⟨b, hb, rfl⟩ := List.mem_map.1 hy
    obtain ⟨b', q1, q2⟩ := hget b hb
    exact ⟨b, by rw [q1]; exact q2⟩
  have hsplit : D.map (fun b => (gh2.bi b).getD 0) = pb ++ D2.map fun b => (gh2.bi b).getD 0 := by
    rw [hD2, List.map_append]
    congr 1
    apply List.ext_getElem?
    intro j
    rw [List.getElem?_map]
    by_cases hj : j < pb.length
    · rw [List.getElem?_range hj, List.getElem?_eq_getElem hj]
      have := H2.pbs j _ (List.getElem?_eq_getElem hj)
      simp [this]
    · rw [List.getElem?_eq_none (by simpa using hj), List.getElem?_eq_none (by omega)]
      rfl
  refine ⟨H.frm, (fun y => gh2.sh y ∨ sh0 y), Fs, D2.map (fun b => (gh2.bi b).getD 0), Gs, ?_, fun y hy => .inr hy, ?_⟩
  · rw [← hsplit]
    have hxl : XRL (fun y => gh2.sh y ∨ sh0 y) w.heap (fun i => (D.map fun b => (gh2.bi b).getD 0)[i]?) (renBL (idxOf D) vs') xs Fs := by
      refine B1.ren ?_
      intro b hb c hc
      exact hlook b (f2 b (List.mem_append_right _ hb)) c (by rw [hbi]; exact hc)
    refine ⟨?_, ?_, by rw [← hcs]; simpa using l1, by rw [← hcs]; simpa using l2.symm, ?_, ?_, ?_, S.disj, ?_, fun p hp => ⟨.inl (H2.glb p hp).1, (H2.glb p hp).2⟩⟩
    · rintro x (q | q)
      · exact H2.sh x q
      · exact Nat.lt_of_lt_of_le (h0 x q).1 H.frm.size
    · rw [← hv]
      have hl2 : xs2.length = lent.length := by rw [hys]; simp
      rw [hxs] at hxl
      have := hxl.packed
      rw [hl2, hys] at this
      exact this
    · intro j b c Gj h1 h2 h3
      rw [← hcs] at h2
      rw [List.getElem?_map, Option.map_eq_some_iff] at h1 h2
      obtain ⟨b0, h1, rfl⟩ := h1
      obtain ⟨c0, h2, rfl⟩ := h2
      obtain ⟨bb, q1, q2, q3⟩ := B2 j b0 c0 Gj h1 h2 h3
      have : (gh2.bi b0).getD 0 = bb := by rw [S2.bi, q1]; rfl
      rw [this]
      refine q3.ren ?_
      intro b hb c hc
      exact hlook b (f3 c0 (List.mem_of_getElem? h2) b hb) c (by rw [S2.bi]; exact hc)
    · rw [List.nodup_iff_pairwise_ne, List.pairwise_map]
      refine (List.nodup_iff_pairwise_ne.1 nd).imp_of_mem ?_
      intro x y hx hy hne e
      obtain ⟨bx, q1, q2⟩ := hget x hx
      obtain ⟨by', q3, q4⟩ := hget y hy
      rw [q1, q3] at e
      simp at e; subst e
      rw [q2] at q4; injection q4 with q4; injection q4 with q4
      exact hne q4
    · intro y hy
      obtain ⟨b, q⟩ := hblm y hy
      have h5 := H2.own y _ q
      refine ⟨?_, h5.2.1⟩
      rintro (h6 | h6)
      · exact h5.1 h6
      · exact (ownm y _ (S.sub y _ q)).1 h6
    · intro F hF y hy
      obtain ⟨q1, n, q2⟩ := S.free F hF y hy
      refine ⟨?_, hno F hF y hy, (H.own y _ q2).2.1⟩
      intro hm
      obtain ⟨b, q⟩ := hblm y hm
      rw [q1] at q; cases q
  · rintro y ((h5 | h5) | ⟨F, hF, h5⟩ | h5)
    · rw [hs2] at h5
      rcases H.shs y h5 with h6 | h6 | h6
      · exact .inl h6
      · exact .inr (.inl h6)
      · exact .inr (.inr h6)
    · exact .inl h5
    · obtain ⟨q1, n, q2⟩ := S.free F hF y h5
      exact .inr (ownm y _ q2).2
    · have hm : y ∈ D.map (fun b => (gh2.bi b).getD 0) := by rw [hsplit]; exact List.mem_append_right _ h5
      obtain ⟨b, q⟩ := hblm y hm
      exact .inr (ownm y _ (S.sub y _ q)).2
theorem finish_ok {m sh0 : BSet} {fx : List (Nat × Value)} (H : Inv w0 ⟨m, sh0, fx⟩ N pb gh s a w) (h0 : ∀ y, sh0 y → y < w0.heap.size ∧ ¬ m y) {rs : List ResultVar} {ris : List RI} (hr : allSome (rs.map (resOf P)) = some ris) {v : V} {cs' : List Cell} {s' : St} {lent : List Nat} (h : (finishM ris lent pb.length).run g s = some ((v, cs'), s')) :
    ∃ xs, (rs.mapM (resRun a.tmps)).run P w = .ok xs w ∧ CallPost w0 m sh0 pb (unpack lent.length v) cs' (oneOrV xs :: lent.map fun i => a.tmps.getD i undef) w := by
  unfold finishM at h
  rw [getsR_append] at h
  obtain ⟨Vs1, xs1, h11, hrun, h12, h13⟩ := getsR_ok H (allSome_get hr) h
  obtain ⟨Vs2, xs2, h1, hrun2, h22, h23⟩ := getsR_ok (P := P) (rs := lent.map ResultVar.tmp) H (by simp [resOf]) h11
  have hys : xs2 = lent.map fun i => a.tmps.getD i undef := by
    rw [mapM_tmps] at hrun2
    injection hrun2 with e _
    exact e.symm
  refine ⟨xs1, hrun, ?_⟩
  obtain ⟨Vs, hVs⟩ : ∃ Vs, Vs = Vs1 ++ Vs2 := ⟨_, rfl⟩
  obtain ⟨xs, hxs⟩ : ∃ xs, xs = xs1 ++ xs2 := ⟨_, rfl⟩
  rw [← hVs] at h1
  have h2 : Vs.length = xs.length := by rw [hVs, hxs]; simp [h12, h22]
  have h3 : ∀ (i : Nat) (c : V) (v : Value), Vs[i]? = some c → xs[i]? = some v → RT gh w.heap c v := by
    intro i c v hc hv
    rw [hVs] at hc
    rw [hxs] at hv
    by_cases hi : i < Vs1.length
    · rw [List.getElem?_append_left hi] at hc
      rw [List.getElem?_append_left (by omega)] at hv
      exact h13 i c v hc hv
    · rw [List.getElem?_append_right (by omega)] at hc
      rw [List.getElem?_append_right (by omega), ← h12] at hv
      exact h23 _ c v hc hv
  obtain ⟨ghA, sA, hA, HA, a1, a2, a3⟩ := fillV_ok H h1
  obtain ⟨ghB, sB, hB, HB, b1, b2, b3⟩ := fillB_ok 20 _ _ ghA sA _ HA hA
  exact finish_core HB h0 hxs hys h2 (fun i c v hc hv => RT.congr (gh := gh) (gh' := ghB) (b1.trans a1) (b2.trans a2) (b3.trans a3) (h3 i c v hc hv)) hB
end
end Go.Pv

set_option linter.unusedSimpArgs false
set_option linter.unusedVariables false
namespace Go.Pv
variable {α : Type} {w0 : World} {mine : Mine} {N : Nat} {pb : List Nat} {gh : Gh} {s s' : St} {a : Act} {w : World} {g : Ora} {P : Program} {own : Nat → Nat → Mode} {tk : List Nat}

theorem arr4 {τ : Type} {ops : Array τ} (h : ops.size = 4) : ∃ a b c d, ops = #[a, b, c, d] := by
  obtain ⟨l⟩ := ops
  match l, h with
  | [a, b, c, d], _ => exact ⟨a, b, c, d, rfl⟩
/-! ### loops, round by round -/
def Rounds (P : Program) (c : Code) (Q : Exit → Act → World → Prop) (a : Act) (w : World) : Prop :=
  ∀ (b : Frame) (k : List Item) (cs : List Frame), ∃ e a' w', Q e a' w' ∧ Arrives P (lone (b.at a (.code c :: .inLoop c :: k)) cs w) b k cs e a' w'
theorem Rounds.loop {c : Code} {Q : Exit → Act → World → Prop} (h : Rounds P c Q a w) : (Code.loop c).wp P Q a w := by
  intro b k cs
  obtain ⟨e, a', w', h1, h2⟩ := h b k cs
  exact ⟨e, a', w', h1, .of_steps (.one step_loop) h2⟩
theorem Rounds.round {c : Code} {Q : Exit → Act → World → Prop} (h : c.wp P (Exit.then (Rounds P c Q) Q) a w) : Rounds P c Q a w := by
  intro b k cs
  obtain ⟨e, a₁, w₁, hq, harr⟩ := h b (.inLoop c :: k) cs
  cases e with
  | normal =>
    obtain ⟨e₂, a₂, w₂, hq₂, harr₂⟩ := hq b k cs
    exact ⟨e₂, a₂, w₂, hq₂, .of_steps (Steps.trans harr (.one step_inLoop)) harr₂⟩
  | exit id => exact ⟨_, a₁, w₁, hq, .pass (x := .inLoop c) rfl (fun _ _ => .inl (by simp)) harr⟩
  | goto l => exact ⟨_, a₁, w₁, hq, .pass (x := .inLoop c) rfl (fun _ _ => .inl (by simp)) harr⟩
  | ret => exact ⟨_, a₁, w₁, hq, .pass (x := .inLoop c) rfl (fun _ _ => .inl (by simp)) harr⟩
  | panic ch => exact ⟨_, a₁, w₁, hq, .pass (x := .inLoop c) rfl (fun _ _ => .inl (by simp)) harr⟩
  | outgrown => exact ⟨_, a₁, w₁, hq, .pass (x := .inLoop c) rfl (fun _ _ => .inl (by simp)) harr⟩

def exitEq : Exit' → Exit → Prop
  | .normal, .normal => True
  | .exit i, .exit j => i = j
  | .ret, .ret => True
  | _, _ => False
section
variable [Glb]
def Post (w0 : World) (mine : Mine) (N : Nat) (pb : List Nat) (e : Exit') (s' : St) : Exit → Act → World → Prop := fun e' a' w' => exitEq e e' ∧ ∃ gh', Inv w0 mine N pb gh' s' a' w'
end
def Tr (P : Program) (N : Nat) (fx : List Nat) (c : Code) (ic : IC) : Prop := ∃ tk res es l, ic = keepC res (irC P tk c) es l ∧ dstOk N fx (irC P tk c) = true
section
variable [Glb]
def LoopOk (P : Program) (ev : Task → Option Ans) : Prop := ∀ N0 fx c ic keep out s e s', Tr P N0 fx c ic → loopOf ev ic keep out s = some (e, s') →
  ∀ w0 mine N pb gh a w, N0 ≤ N → (∀ p ∈ mine.fx, p.1 ∈ fx) → Inv w0 mine N pb gh s a w → Rounds P c (Post w0 mine N pb e s') a w
theorem condO_ok (H : Inv w0 mine N pb gh s a w) {c : Operand} {b : Bool} (h : condO (arOf c) s = some b) : a.eval c = .bool b := by
  cases c with
  | tmp t =>
    simp only [arOf, condO] at h
    cases hl : look s.tm t with
    | none => rw [hl] at h; cases h
    | some V =>
      rw [hl] at h
      split at h
      · rename_i hc; injection hc with hc; subst hc; injection h with h; subst h
        exact (H.arg hl).scV.1
      · cases h
  | const v =>
    simp only [arOf] at h
    cases hv : vOf v with
    | none => rw [hv] at h; cases h
    | some V =>
      rw [hv] at h
      cases V with
      | sc u =>
        cases u with
        | bool b' => simp [condO] at h; subst h; exact (vOf_ok hv gh w.heap).scV.1
        | _ => simp [condO] at h
      | _ => simp [condO] at h
  | func f => simp [arOf, condO] at h
  | global n => simp [arOf, condO] at h
theorem region_ok (hm : P.follows .mixedOrders = true) (hg : OraOk P own g) {id : Nat} {ops : Array Oper} {dr : Bool} (hN : ∀ o ∈ ops, ∀ d, o.dst = some d → DOk N mine d) (ha : dr = true → afterOk ops = true) (hrun : runOps own g (ops.toList.map (irIO P tk ops)) s = some s')
    (hconf : dr = true → ∀ p ∈ confOf ops, clash ((feet own g (ops.toList.map (irIO P tk ops)) s).getD p.1 []) ((feet own g (ops.toList.map (irIO P tk ops)) s).getD p.2 []) = false)
    {Q : Exit → Act → World → Prop} (hQ : ∀ gh a w, Inv w0 mine N pb gh s' a w → Q .normal a w) (H : Inv w0 mine N pb gh s a w) : (Code.region id ops dr).wp P Q a w := by
  cases dr with
  | false =>
    refine wp_region ?_
    rw [List.range_eq_range']
    exact ops_ok hg hN hQ ops.size 0 gh s a w (by omega) (by simpa using hrun) H
  | true =>
    refine wp_region_any hm ?_
    exact draw_ok hg hN (ha rfl) hrun (hconf rfl) hQ (H.grow (w' := { w with drawn := w.drawn + 1 }) (fun _ _ => rfl) (Nat.le_refl _) rfl rfl rfl)
theorem any_step (hg : OraOk P own g) {ops : Array Oper} (hN : ∀ o ∈ ops, ∀ d, o.dst = some d → DOk N mine d) {Q : Exit → Act → World → Prop} {fuel : Nat} {listed : Array Bool} {t : St} {l : List Nat} (hl : Region.ready .any ops listed = l) (hne : l ≠ [])
    (hs : ∀ i ∈ l, ∃ o t' li, ops[i]? = some o ∧ (stepM own (irIO P tk ops o)).run g t = some ((), t') ∧ listed.setIfInBounds i true = li ∧ ∀ gh a w, Inv w0 mine N pb gh t' a w → wpAny P .any ops Q fuel li a w) (I : Inv w0 mine N pb gh t a w) : wpAny P .any ops Q (fuel + 1) listed a w := by
  refine ⟨fun h => absurd (hl.symm.trans h) hne, fun i hi => ?_⟩
  rw [hl] at hi
  obtain ⟨o, t', li, ho, hr, hli, next⟩ := hs i hi
  rw [← hli] at next
  have hstep := step_ok (Q := Q) hg I (hN o (Array.mem_of_getElem? ho)) hr
  unfold wpOp
  simp only [ho]
  split at hstep
  · rename_i hw
    rw [if_pos hw]
    exact .inl (Oper.wp_mono (fun a' w' ⟨gh', h⟩ => next gh' a' w' h) hstep)
  · rename_i hw
    rw [if_neg hw]
    obtain ⟨gh', h⟩ := hstep
    exact next gh' _ w h
theorem coin_ok (hm : P.follows .mixedOrders = true) (hg : OraOk P own g) {id : Nat} {ops : Array Oper} (hN : ∀ o ∈ ops, ∀ d, o.dst = some d → DOk N mine d) {o1 o2 : List Opn} (hc : coinOf P tk (.region id ops true) = some (o1, o2)) {s1 s2 : St} (h1 : runOps own g o1 s = some s1) (h2 : runOps own g o2 s = some s2)
    {Q : Exit → Act → World → Prop} (hQ1 : ∀ gh a w, Inv w0 mine N pb gh s1 a w → Q .normal a w) (hQ2 : ∀ gh a w, Inv w0 mine N pb gh s2 a w → Q .normal a w) (H : Inv w0 mine N pb gh s a w) : (Code.region id ops true).wp P Q a w := by
  refine wp_region_any hm ?_
  have H' := H.grow (w' := { w with drawn := w.drawn + 1 }) (fun _ _ => rfl) (Nat.le_refl _) rfl rfl rfl
  generalize ({ w with drawn := w.drawn + 1 } : World) = w at H' ⊢
  simp only [coinOf] at hc
  split at hc
  · rename_i hco
    split at hc
    · rename_i a0 b0 c0 d0 hops
      simp only [Option.some.injEq, Prod.mk.injEq] at hc
      obtain ⟨rfl, rfl⟩ := hc
      simp only [coinOk, Bool.and_eq_true, decide_eq_true_eq, beq_iff_eq] at hco
      obtain ⟨⟨⟨⟨⟨⟨hsz, q0⟩, q1⟩, q2⟩, q3⟩, q4⟩, q5⟩ := hco
      obtain ⟨p0, p1, p2, p3, rfl⟩ := arr4 hsz
      clear hsz
      have hmap : irIO P tk #[p0, p1, p2, p3] p0 = a0 ∧ irIO P tk #[p0, p1, p2, p3] p1 = b0 ∧ irIO P tk #[p0, p1, p2, p3] p2 = c0 ∧ irIO P tk #[p0, p1, p2, p3] p3 = d0 := by simpa using hops
      obtain ⟨rfl, rfl, rfl, rfl⟩ := hmap
      clear hops
      simp only [runOps, bO_eq, Option.some.injEq] at h1 h2
      obtain ⟨⟨_, t1⟩, e1, ⟨_, t2⟩, e2, ⟨_, t3⟩, e3, ⟨_, t4⟩, e4, rfl⟩ := h1
      obtain ⟨⟨_, u1⟩, f1, ⟨_, u2⟩, f2, ⟨_, u3⟩, f3, ⟨_, u4⟩, f4, rfl⟩ := h2
      rw [e1] at f1
      simp only [Option.some.injEq, Prod.mk.injEq, true_and] at f1
      subst f1
      refine any_step (tk := tk) hg hN (fuel := 3) q0 (by simp) (fun i hi => ?_) H'
      simp only [List.mem_singleton] at hi
      subst hi
      refine ⟨p0, t1, #[true, false, false, false], rfl, e1, rfl, fun gh a w I => ?_⟩
      refine any_step (tk := tk) hg hN (fuel := 2) q1 (by simp) (fun i hi => ?_) I
      simp only [List.mem_cons, List.mem_nil_iff, or_false] at hi
      rcases hi with rfl | rfl
      · refine ⟨p1, t2, #[true, true, false, false], rfl, e2, rfl, fun gh a w I => ?_⟩
        refine any_step (tk := tk) hg hN (fuel := 1) q2 (by simp) (fun i hi => ?_) I
        simp only [List.mem_singleton] at hi
        subst hi
        refine ⟨p2, t3, #[true, true, true, false], rfl, e3, rfl, fun gh a w I => ?_⟩
        refine any_step (tk := tk) hg hN (fuel := 0) q4 (by simp) (fun i hi => ?_) I
        simp only [List.mem_singleton] at hi
        subst hi
        exact ⟨p3, t4, #[true, true, true, true], rfl, e4, rfl, fun gh a w I => ⟨q5, hQ1 gh a w I⟩⟩
      · refine ⟨p2, u2, #[true, false, true, false], rfl, f2, rfl, fun gh a w I => ?_⟩
        refine any_step (tk := tk) hg hN (fuel := 1) q3 (by simp) (fun i hi => ?_) I
        simp only [List.mem_singleton] at hi
        subst hi
        refine ⟨p1, u3, #[true, true, true, false], rfl, f3, rfl, fun gh a w I => ?_⟩
        refine any_step (tk := tk) hg hN (fuel := 0) q4 (by simp) (fun i hi => ?_) I
        simp only [List.mem_singleton] at hi
        subst hi
        exact ⟨p3, u4, #[true, true, true, true], rfl, f4, rfl, fun gh a w I => ⟨q5, hQ2 gh a w I⟩⟩
    · cases hc
  · cases hc
theorem exec_ok (hm : P.follows .mixedOrders = true) {ev : Task → Option Ans} (hg : OraOk P own (callOf ev)) (hl : LoopOk P ev) {N0 : Nat} (hN0 : N0 ≤ N) {fx : List Nat} (hfx : ∀ p ∈ mine.fx, p.1 ∈ fx) : ∀ (c : Code) (res : List Nat) (es : List (Nat × List Nat)) (l : List Nat) (gh : Gh) (s : St) (e : Exit') (s' : St) (a : Act) (w : World),
    exec own ev (keepC res (irC P tk c) es l) s = some (e, s') → dstOk N0 fx (irC P tk c) = true → Inv w0 mine N pb gh s a w → c.wp P (Post w0 mine N pb e s') a w
  | .skip, res, es, l, gh, s, e, s', a, w, h, hd, H => by
    simp [irC, keepC, exec] at h
    obtain ⟨rfl, rfl⟩ := h
    exact wp_skip ⟨trivial, gh, H⟩
  | .region id ops dr, res, es, l, gh, s, e, s', a, w, h, hd, H => by
    have hdst : ∀ {ops : Array Oper} {cf : List (Nat × Nat)}, dstOk N0 fx (.region (ops.toList.map (irIO P tk ops)) cf) = true → ∀ o ∈ ops, ∀ d, o.dst = some d → DOk N mine d := by
      intro ops cf hd o ho d hdst
      simp only [dstOk, List.all_eq_true] at hd
      have := hd (irIO P tk ops o) (List.mem_map.2 ⟨o, by simpa using ho, rfl⟩)
      have hdd : (irIO P tk ops o).dst = o.dst := by
        unfold irIO
        split
        · rfl
        · split <;> rfl
      rw [hdd, hdst] at this
      have h3 : d < N0 ∧ ¬ d ∈ fx := by simpa using this
      exact ⟨Nat.lt_of_lt_of_le h3.1 hN0, fun p hp e => h3.2 (e ▸ hfx p hp)⟩
    cases dr with
    | false =>
      simp only [irC, Bool.false_and, Bool.false_eq_true, if_false] at h hd
      simp only [keepC, exec, bO_eq] at h
      obtain ⟨s1, h1, h2⟩ := h
      simp at h2
      obtain ⟨rfl, rfl⟩ := h2
      exact region_ok hm hg (hdst hd) (fun h => by cases h) h1 (fun h => by cases h) (fun gh a w I => ⟨trivial, gh, I⟩) H
    | true =>
      cases hao : afterOk ops with
      | false => simp [irC, hao, keepC, exec] at h
      | true =>
        simp only [irC, hao, Bool.not_true, Bool.and_false, Bool.false_eq_true, if_false, if_true] at h hd
        simp only [keepC, exec, bO_eq] at h
        obtain ⟨s1, h1, h2⟩ := h
        split at h2
        · rename_i hcf
          injection h2 with h2; injection h2 with h2 h3
          subst h2; subst h3
          refine region_ok hm hg (hdst hd) (fun _ => hao) h1 ?_ (fun gh a w I => ⟨trivial, gh, I⟩) H
          intro _ p hp
          rw [Bool.or_eq_true] at hcf
          rcases hcf with h3 | h3
          · have : confOf ops = [] := by simpa using h3
            rw [this] at hp; cases hp
          · have := List.all_eq_true.1 h3 p hp
            simpa using this
        · cases h2
  | .seq x y, res, es, l, gh, s, e, s', a, w, h, hd, H => by
    cases hco : coinOf P tk x with
    | some p =>
      obtain ⟨o1, o2⟩ := p
      simp only [irC, hco, seqC, keepC, exec, bO_eq] at h
      obtain ⟨s1, h1, s2, h2, ⟨e1, r1⟩, h3, ⟨e2, r2⟩, h4, n1, h5, n2, h6, h7⟩ := h
      simp only [irC, hco, seqC, dstOk, Bool.and_eq_true, List.all_eq_true] at hd
      split at h7
      · rename_i hs
        unfold sameA at hs
        have hs := @of_decide_eq_true _ (Classical.propDecidable _) hs
        simp only [Prod.mk.injEq] at hs
        obtain ⟨rfl, rfl⟩ := hs
        injection h7 with h7; injection h7 with h7 h8; subst h7; subst h8
        cases x with
        | region id ops dr =>
          cases dr with
          | false => cases hco
          | true =>
            have hdst : ∀ o ∈ ops, ∀ d, o.dst = some d → DOk N mine d := by
              intro o ho d hdst
              have hmem : irIO P tk ops o ∈ o1 := by
                simp only [coinOf] at hco
                split at hco
                · split at hco
                  · rename_i a b c d' hops
                    simp only [Option.some.injEq, Prod.mk.injEq] at hco
                    rw [← hco.1, ← hops]
                    exact List.mem_map.2 ⟨o, by simpa using ho, rfl⟩
                  · cases hco
                · cases hco
              have := hd.1 _ hmem
              have hdd : (irIO P tk ops o).dst = o.dst := by
                unfold irIO
                split
                · rfl
                · split <;> rfl
              rw [hdd, hdst] at this
              have h3 : d < N0 ∧ ¬ d ∈ fx := by simpa using this
              exact ⟨Nat.lt_of_lt_of_le h3.1 hN0, fun p hp e => h3.2 (e ▸ hfx p hp)⟩
            have fin : ∀ (k : List Nat) (s1 r1 n1 : St) (gh : Gh) (a : Act) (w : World), exec own ev (keepC res (irC P tk y) es l) s1 = some (e1, r1) → norm k r1 = some n1 → Inv w0 mine N pb gh s1 a w → y.wp P (Post w0 mine N pb e1 n1) a w := by
              intro k s1 r1 n1 gh a w h3 h5 I
              refine wp_mono (exec_ok hm hg hl hN0 hfx y res es l gh s1 e1 r1 a w h3 hd.2 I) ?_
              rintro e' a' w' ⟨he, gh', I'⟩
              obtain ⟨gh2, I2⟩ := norm_ok I' h5
              exact ⟨he, gh2, I2⟩
            refine wp_seq (coin_ok hm hg hdst hco h1 h2 (fun gh a w I => fin _ s1 r1 n1 gh a w h3 h5 I) (fun gh a w I => fin _ s2 r2 n1 gh a w h4 h6 I) H)
        | _ => cases hco
      · cases h7
    | none =>
    simp only [irC, hco, seqC, keepC, exec, bO_eq] at h
    obtain ⟨⟨e1, s1⟩, h1, h2⟩ := h
    simp only [irC, hco, seqC, dstOk, Bool.and_eq_true] at hd
    refine wp_seq (wp_mono (exec_ok hm hg hl hN0 hfx x res es _ gh s e1 s1 a w h1 hd.1 H) ?_)
    intro e' a' w' hp
    obtain ⟨he, gh', I⟩ := hp
    cases e1 with
    | normal =>
      cases e' with
      | normal =>
        simp only [Exit'.isN, if_true] at h2
        exact exec_ok hm hg hl hN0 hfx y res es l gh' s1 e s' a' w' h2 hd.2 I
      | _ => exact he.elim
    | exit i =>
      simp only [Exit'.isN, Bool.false_eq_true, if_false] at h2
      injection h2 with h2; injection h2 with h2 h3; subst h2; subst h3
      cases e' with
      | exit j => exact ⟨he, gh', I⟩
      | _ => exact he.elim
    | ret =>
      simp only [Exit'.isN, Bool.false_eq_true, if_false] at h2
      injection h2 with h2; injection h2 with h2 h3; subst h2; subst h3
      cases e' with
      | ret => exact ⟨he, gh', I⟩
      | _ => exact he.elim
  | .cond c x y, res, es, l, gh, s, e, s', a, w, h, hd, H => by
    simp only [irC, keepC, exec, bO_eq] at h
    obtain ⟨b, h1, h2⟩ := h
    simp only [irC, dstOk, Bool.and_eq_true] at hd
    have hb := condO_ok H h1
    refine wp_cond hb ?_
    cases b with
    | true => exact exec_ok hm hg hl hN0 hfx x res es l gh s e s' a w (by simpa using h2) hd.1 H
    | false => exact exec_ok hm hg hl hN0 hfx y res es l gh s e s' a w (by simpa using h2) hd.2 H
  | .block id c, res, es, l, gh, s, e, s', a, w, h, hd, H => by
    simp only [irC, keepC, exec, bO_eq] at h
    obtain ⟨⟨e1, s1⟩, h1, h2⟩ := h
    simp only [irC, dstOk] at hd
    injection h2 with h2; injection h2 with h2 h3; subst h2; subst h3
    refine wp_block (wp_mono (exec_ok hm hg hl hN0 hfx c res _ l gh s e1 s1 a w h1 hd H) ?_)
    intro e' a' w' hp
    obtain ⟨he, gh', I⟩ := hp
    cases e1 with
    | normal =>
      cases e' with
      | normal => exact ⟨trivial, gh', I⟩
      | _ => exact he.elim
    | exit i =>
      cases e' with
      | exit j =>
        have he' : i = j := he
        subst he'
        simp only [Exit.inBlock, Exit'.outOf]
        by_cases hij : i = id
        · rw [if_pos hij, if_pos hij]; exact ⟨trivial, gh', I⟩
        · rw [if_neg hij, if_neg hij]; exact ⟨rfl, gh', I⟩
      | _ => exact he.elim
    | ret =>
      cases e' with
      | ret => exact ⟨trivial, gh', I⟩
      | _ => exact he.elim
  | .loop c, res, es, l, gh, s, e, s', a, w, h, hd, H => by
    simp only [irC, keepC, exec, bO_eq] at h
    obtain ⟨s1, h1, h2⟩ := h
    simp only [irC, dstOk] at hd
    obtain ⟨gh', I⟩ := norm_ok H h1
    exact (hl N0 fx c _ _ _ s1 e s' ⟨_, _, _, _, rfl, hd⟩ h2 w0 mine N pb gh' a w hN0 hfx I).loop
  | .exit id, res, es, l, gh, s, e, s', a, w, h, hd, H => by
    simp [irC, keepC, exec] at h
    obtain ⟨rfl, rfl⟩ := h
    exact wp_exit ⟨rfl, gh, H⟩
  | .ret, res, es, l, gh, s, e, s', a, w, h, hd, H => by
    simp [irC, keepC, exec] at h
    obtain ⟨rfl, rfl⟩ := h
    exact wp_ret ⟨trivial, gh, H⟩
  | .label _, res, es, l, gh, s, e, s', a, w, h, hd, H => by simp [irC, keepC, exec] at h
  | .goto _, res, es, l, gh, s, e, s', a, w, h, hd, H => by simp [irC, keepC, exec] at h
  | .scope _, res, es, l, gh, s, e, s', a, w, h, hd, H => by simp [irC, keepC, exec] at h
  | .rangeFunc _ _ _ _, res, es, l, gh, s, e, s', a, w, h, hd, H => by simp [irC, keepC, exec] at h
  | .refuse _, res, es, l, gh, s, e, s', a, w, h, hd, H => by simp [irC, keepC, exec] at h
end
end Go.Pv

set_option linter.unusedSimpArgs false
set_option linter.unusedVariables false
namespace Go.Pv
variable {α : Type} {w0 : World} {mine : Mine} {N : Nat} {pb : List Nat} {gh : Gh} {s s' : St} {a : Act} {w : World} {g : Ora} {P : Program} {own : Nat → Nat → Mode}

theorem results_ok {fn : Func} {tmps : Array Value} {xs : List Value} (h : (fn.results.toList.mapM (resRun tmps)).run P w = .ok xs w) : (results fn tmps).run P w = .ok (oneOrV xs) w := by
  unfold results
  rw [Array.mapM_eq_mapM_toList]
  simp only [map_eq_pure_bind, Sem.run_bind, bind_assoc, pure_bind]
  have hf : (fun x => (match x with | .tmp t => pure (tmps.getD t undef) | .cell a t => do loadVar t (← asAddr (tmps.getD a undef)) : Sem Value)) = resRun tmps := by
    funext x
    cases x <;> rfl
  rw [← hf] at h
  refine Eq.trans (congrArg (fun r => Result.andThen r _) h) ?_
  simp only [Result.andThen_ok, Sem.run_pure]
  cases xs with
  | nil => simp [oneOrV]
  | cons x xs =>
    cases xs with
    | nil => simp [oneOrV]
    | cons y xs => simp [oneOrV]
section
variable [Glb]
/-- what is told of the library's functions is true -/
def LibOk (P : Program) (E : Env) : Prop := ∀ f av cs v cs', E.fn f = none → E.lib f av cs = some (v, cs') → IsFn P f ∧ CallSpec P f (lentOf (E.own f) av.length) av cs v cs'
theorem sound_all (hm : P.follows .mixedOrders = true) {E : Env} (hE : ∀ f F, E.fn f = some F → irOf P F.lent F.tk f = some F) (hLib : LibOk P E) : ∀ n, OraOk P E.own (callOf (it E n)) ∧ LoopOk P (it E n)
  | 0 => by
    constructor
    · intro f av cs v cs' h; simp [callOf, it] at h
    · intro N0 fx c ic keep out s e s' ht h; simp [loopOf, it] at h
  | n + 1 => by
    obtain ⟨ihc, ihl⟩ := sound_all hm hE hLib n
    constructor
    · intro f av cs v cs' h
      unfold callOf at h
      split at h
      · rename_i v1 cs1 hb
        injection h with h; injection h with h1 h2; subst h1; subst h2
        simp only [it, body] at hb
        split at hb
        · rename_i q1
          simp only [bO_eq] at hb
          obtain ⟨x, q2, q3⟩ := hb
          injection q3 with q3; injection q3 with q3 q4
          exact hLib f av cs _ _ q1 (by rw [q2, ← q3, ← q4])
        rename_i F q1
        simp only [bO_eq] at hb
        obtain ⟨u, qu, i, q2, r, q3, q4⟩ := hb
        have hlent : F.lent = lentOf (E.own f) av.length := by
          split at qu
          · assumption
          · cases qu
        split at q4
        · cases q4
        · rename_i hx
          simp only [bO_eq] at q4
          obtain ⟨x, q5, q6⟩ := q4
          injection q6 with q6; injection q6 with q6 q7
          have hir := hE f F q1
          simp only [irOf, Option.bind_eq_some_iff] at hir
          obtain ⟨fn, z1, c, z2, res, z3, z4⟩ := hir
          split at z4
          · rename_i z5
            injection z4 with z4
            obtain ⟨lent, hL⟩ : ∃ lent, lent = F.lent := ⟨_, rfl⟩
            obtain ⟨tk, hT⟩ : ∃ tk, tk = F.tk := ⟨_, rfl⟩
            rw [← hL, ← hT] at z4 z5
            rw [← hL] at hlent
            subst z4
            simp only [Bool.and_eq_true, bne_iff_ne, ne_eq] at z5
            refine ⟨⟨fn, z1, by rw [z2]; rfl, by simpa using z5.2⟩, ?_⟩
            intro w sh args Fs bl Gs G
            have hargs : args.size = av.length := by
              have := G.xr.len
              simpa using this.symm
            have hlt : ∀ i ∈ lent, i < args.size := by
              intro i hi
              rw [hlent] at hi
              simp only [lentOf, List.mem_filter, List.mem_range] at hi
              omega
            obtain ⟨gh, I⟩ := init_ok G (fx := lent.map fun i => (i, args.getD i undef)) (by
              intro p hp
              obtain ⟨i, hi, rfl⟩ := List.mem_map.1 hp
              have := hlt i hi
              simp [this]) q2 fn.ntmps
            have hfx : ∀ p ∈ (⟨mineOf Fs Gs bl, sh, lent.map fun i => (i, args.getD i undef)⟩ : Mine).fx, p.1 ∈ lent := by
              intro p hp
              obtain ⟨i, hi, rfl⟩ := List.mem_map.1 hp
              exact hi
            refine calls_of_wp z1 z2 ?_
            have hsz : fn.ntmps ≤ (args ++ Array.replicate (fn.ntmps - args.size) undef).size := by simp; omega
            refine wp_mono (exec_ok hm ihc ihl hsz hfx c (res.map RI.tmp ++ lent) [] (res.map RI.tmp ++ lent) gh i.2 r.1 r.2 _ w q3 z5.1 I) ?_
            rintro e' a' w' ⟨he, gh', I'⟩
            have hfin : a'.defers = [] ∧ ∃ v, (results fn a'.tmps).run P w' = .ok v w' ∧ ∃ x, Ending.returned v = .returned x ∧ CallPost w (mineOf Fs Gs bl) sh bl (unpack (lentOf (E.own f) av.length).length v1) cs1 (x :: (lentOf (E.own f) av.length).map fun i => args.getD i undef) w' := by
              have hlen : cs.length = bl.length := G.lenB.symm
              rw [hlen] at q5
              obtain ⟨xs, hxs, hpost⟩ := finish_ok (P := P) (m := mineOf Fs Gs bl) (sh0 := sh) I' (by
                intro y hy
                refine ⟨G.shLt y hy, ?_⟩
                rintro (⟨F, hF, hFy⟩ | hb)
                · exact (G.apart F hF y hFy).2.1 hy
                · exact (G.blk y hb).1 hy) z3 (s' := x.2) (v := v1) (cs' := cs1) (by rw [q5, ← q6, ← q7])
              rw [← hlent]
              refine ⟨I'.defers, _, results_ok hxs, _, rfl, ?_⟩
              have : (lent.map fun i => a'.tmps.getD i undef) = lent.map fun i => args.getD i undef := by
                apply List.map_congr_left
                intro i hi
                exact I'.fix (i, args.getD i undef) (List.mem_map.2 ⟨i, hi, rfl⟩)
              rw [← this]
              exact hpost
            obtain ⟨re, rs⟩ := r
            cases re with
            | normal =>
              cases e' with
              | normal => exact hfin
              | _ => exact he.elim
            | exit j => simp [Exit'.isX] at hx
            | ret =>
              cases e' with
              | ret => exact hfin
              | _ => exact he.elim
          · cases z4
      · cases h
    · intro N0 fx c ic keep out s e s' ht h w0 mine N pb gh a w hN hfx H
      unfold loopOf at h
      split at h
      · rename_i e1 s1 hb
        injection h with h; injection h with h1 h2; subst h1; subst h2
        simp only [it, body, bO_eq] at hb
        obtain ⟨r, q1, q2⟩ := hb
        have ht' := ht
        obtain ⟨tk, res, es, l, rfl, hd⟩ := ht
        refine Rounds.round (wp_mono (exec_ok hm ihc ihl hN hfx c res es l gh s r.1 r.2 a w q1 hd H) ?_)
        rintro e' a' w' ⟨he, gh', I'⟩
        obtain ⟨re, rs⟩ := r
        cases re with
        | normal =>
          simp only [Exit'.isN, if_true, bO_eq] at q2
          obtain ⟨s2, q3, x, q4, q5⟩ := q2
          injection q5 with q5; injection q5 with q5 q6; subst q5; subst q6
          cases e' with
          | normal =>
            obtain ⟨gh2, I2⟩ := norm_ok I' q3
            exact ihl N0 fx c _ _ _ s2 _ _ ht' q4 w0 mine N pb gh2 a' w' hN hfx I2
          | _ => exact he.elim
        | exit j =>
          simp only [Exit'.isN, Bool.false_eq_true, if_false, bO_eq] at q2
          obtain ⟨s2, q3, q5⟩ := q2
          injection q5 with q5; injection q5 with q5 q6; subst q5; subst q6
          obtain ⟨gh2, I2⟩ := norm_ok I' q3
          cases e' with
          | exit j' => exact ⟨he, gh2, I2⟩
          | _ => exact he.elim
        | ret =>
          simp only [Exit'.isN, Bool.false_eq_true, if_false, bO_eq] at q2
          obtain ⟨s2, q3, q5⟩ := q2
          injection q5 with q5; injection q5 with q5 q6; subst q5; subst q6
          obtain ⟨gh2, I2⟩ := norm_ok I' q3
          cases e' with
          | ret => exact ⟨trivial, gh2, I2⟩
          | _ => exact he.elim
      · cases h
/-- **the evaluation tells the truth** -/
theorem ev_sound (hm : P.follows .mixedOrders = true) {E : Env} (hE : ∀ f F, E.fn f = some F → irOf P F.lent F.tk f = some F) (hLib : LibOk P E) {f : Nat} {av : List V} {cs : List Cell} {v : V} {cs' : List Cell} (h : ev E (.call f av cs) = some (.val v cs')) : CallSpec P f (lentOf (E.own f) av.length) av cs v cs' := by
  obtain ⟨n, hn⟩ : ∃ n, it E n (.call f av cs) = some (.val v cs') := by
    unfold ev at h
    split at h
    · rename_i hex
      rw [← h]
      exact hex.choose_spec
    · cases h
  exact ((sound_all hm hE hLib n).1 f av cs v cs' (by unfold callOf; rw [hn])).2
end
end Go.Pv
