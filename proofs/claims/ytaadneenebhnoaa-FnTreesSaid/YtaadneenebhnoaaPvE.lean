/- Proof: calls tell the truth. No condition. -/
import Derived.Test.YtaadneenebhnoaaPvD
set_option autoImplicit true
set_option relaxedAutoImplicit true
set_option linter.unusedSimpArgs false
set_option linter.unusedVariables false
set_option linter.unusedSimpArgs false
set_option linter.unusedVariables false
namespace Go.Pv
variable {α : Type} {w0 : World} {mine : Mine} {N : Nat} {pb : List Nat} {gh : Gh} {s : St} {a : Act} {w : World} {g : Ora} {r : α × St} {P : Program} {own : Nat → Nat → Mode}

theorem cap1_ren (f : Nat → Nat) (v : V) : cap1 (renB f v) = cap1 v := by cases v <;> simp [renB, cap1]
theorem cap1_renL (f : Nat → Nat) : ∀ l : List V, (renBL f l).all cap1 = l.all cap1
  | [] => rfl
  | v :: l => by simp only [renBL, List.all_cons, cap1_ren, cap1_renL f l]
mutual
theorem XR.ren {sh : BSet} {h : Array Obj} {bi bi' : Nat → Option Nat} {f : Nat → Nat} : ∀ {v : V} {x : Value} {Fs : List BSet}, XR sh h bi v x Fs → (∀ b ∈ bxsOf v, ∀ c, bi b = some c → bi' (f b) = some c) → XR sh h bi' (renB f v) x Fs
  | .sc v, _, _, H, hb => by cases H with | sc _ ho => exact .sc v ho
  | .ls o xs, _, _, H, hb => by
    cases H with
    | fz _ _ hf => exact .fz xs _ hf
    | own _ _ F ho => exact .own xs _ F ho
  | .rf _ _ _, _, _, H, hb => by cases H
  | .ep _ _ _, _, _, H, hb => by cases H
  | .fp _ _ _, _, _, H, hb => by cases H
  | .ag cs, _, _, H, hb => by cases H with | ag _ vs Fs hl => exact .ag _ vs _ (hl.ren hb)
  | .tu cs, _, _, H, hb => by cases H with | tu _ vs Fs hl => exact .tu _ vs _ (hl.ren hb)
  | .bx n off, _, _, H, hb => by cases H with | bx _ _ b h1 => exact .bx _ off b (hb n (by simp [bxsOf]) b h1)
  | .fn g cs, _, _, H, hb => by cases H with | fn _ _ vs h1 hl => exact .fn g _ vs (by rw [cap1_renL]; exact h1) (hl.ren hb)
  | .mp n, _, _, H, hb => by cases H with | mp _ b h1 => exact .mp _ b (hb n (by simp [bxsOf]) b h1)
theorem XRL.ren {sh : BSet} {h : Array Obj} {bi bi' : Nat → Option Nat} {f : Nat → Nat} : ∀ {l : List V} {xs : List Value} {Fs : List BSet}, XRL sh h bi l xs Fs → (∀ b ∈ bxsOfL l, ∀ c, bi b = some c → bi' (f b) = some c) → XRL sh h bi' (renBL f l) xs Fs
  | [], _, _, H, hb => by cases H; exact .nil
  | v :: l, _, _, H, hb => by
    cases H with
    | cons _ _ x xs Fs Gs h1 h2 => exact .cons _ _ x xs Fs Gs (h1.ren fun b hm => hb b (by simp [bxsOfL, hm])) (h2.ren fun b hm => hb b (by simp [bxsOfL, hm]))
end
theorem BoxX.ren {sh : BSet} {h : Array Obj} {bi bi' : Nat → Option Nat} {f : Nat → Nat} {b : Nat} {c : Cell} {Gs : List BSet} (H : BoxX sh h bi b c Gs) (hb : ∀ b ∈ cellBs c, ∀ c, bi b = some c → bi' (f b) = some c) : BoxX sh h bi' b (renC f c) Gs := by
  cases c with
  | b vs => obtain ⟨vals, t, h1, h2⟩ := H; exact ⟨vals, t, h1, h2.ren hb⟩
  | m es => exact H
  | _ => exact H.elim
/-! nothing that is only held -/
theorem hasFzL_mem : ∀ {l : List V}, hasFzL l = false → ∀ v ∈ l, hasFz v = false
  | [], _, v, hv => by cases hv
  | u :: l, h, v, hv => by
    simp only [hasFzL, Bool.or_eq_false_iff] at h
    rcases List.mem_cons.1 hv with rfl | hv
    · exact h.1
    · exact hasFzL_mem h.2 v hv
theorem hasFzR_mem : ∀ {l : List (List V)}, hasFzR l = false → ∀ v ∈ l, hasFzL v = false
  | [], _, v, hv => by cases hv
  | u :: l, h, v, hv => by
    simp only [hasFzR, Bool.or_eq_false_iff] at h
    rcases List.mem_cons.1 hv with rfl | hv
    · exact h.1
    · exact hasFzR_mem h.2 v hv
theorem OR.held {sh sh0 : BSet} {h : Array Obj} {v : V} {x : Value} {F : BSet} (H : OR sh h v x F) : hasFz v = false → (∀ y, F y → ¬ sh0 y) → OR sh0 h v x F := by
  induction H with
  | sc v F ho e => intro _ _; exact .sc v F ho e
  | fz xs x F hf e => intro h1 _; simp [hasFz] at h1
  | nil A F e => intro _ _; exact .nil A F e
  | own xs b base s cap c t f Fs F hne hc hl hz h1 h2 h3 hb hFb h4 h5 h6 ih =>
    intro hf hF
    refine .own xs b base s cap c t f Fs F hne hc hl hz h1 h2 ?_ (hF b hFb) hFb h4 h5 h6
    intro i cs j v hi hj
    have hil : i < xs.length := (List.getElem?_eq_some_iff.1 hi).1
    have hjl : j < s := by rw [← h1 i cs hi]; exact (List.getElem?_eq_some_iff.1 hj).1
    exact ih i cs j v hi hj (hasFzL_mem (hasFzR_mem (by simpa [hasFz] using hf) cs (List.mem_of_getElem? hi)) v (List.mem_of_getElem? hj)) fun y hy => hF y (h4 i j y hil hjl hy).1
mutual
theorem XR.held {sh sh0 : BSet} {h : Array Obj} {bi : Nat → Option Nat} : ∀ {v : V} {x : Value} {Fs : List BSet}, XR sh h bi v x Fs → hasFz v = false → (∀ F ∈ Fs, ∀ y, F y → ¬ sh0 y) → XR sh0 h bi v x Fs
  | .sc v, _, _, H, hb, hF => by cases H with | sc _ ho => exact .sc v ho
  | .ls o xs, _, _, H, hb, hF => by
    cases H with
    | fz _ _ hf => simp [hasFz] at hb
    | own _ _ F ho => exact .own xs _ F (ho.held hb (hF F (by simp)))
  | .rf _ _ _, _, _, H, hb, hF => by cases H
  | .ep _ _ _, _, _, H, hb, hF => by cases H
  | .fp _ _ _, _, _, H, hb, hF => by cases H
  | .ag cs, _, _, H, hb, hF => by cases H with | ag _ vs Fs hl => exact .ag _ vs _ (hl.held (by simpa [hasFz] using hb) hF)
  | .tu cs, _, _, H, hb, hF => by cases H with | tu _ vs Fs hl => exact .tu _ vs _ (hl.held (by simpa [hasFz] using hb) hF)
  | .bx n off, _, _, H, hb, hF => by cases H with | bx _ _ b h1 => exact .bx _ off b h1
  | .fn g cs, _, _, H, hb, hF => by cases H with | fn _ _ vs h1 hl => exact .fn g _ vs h1 (hl.capH h1)
  | .mp n, _, _, H, hb, hF => by cases H with | mp _ b h1 => exact .mp _ b h1
theorem XRL.held {sh sh0 : BSet} {h : Array Obj} {bi : Nat → Option Nat} : ∀ {l : List V} {xs : List Value} {Fs : List BSet}, XRL sh h bi l xs Fs → hasFzL l = false → (∀ F ∈ Fs, ∀ y, F y → ¬ sh0 y) → XRL sh0 h bi l xs Fs
  | [], _, _, H, hb, hF => by cases H; exact .nil
  | v :: l, _, _, H, hb, hF => by
    simp only [hasFzL, Bool.or_eq_false_iff] at hb
    cases H with
    | cons _ _ x xs Fs Gs h1 h2 => exact .cons _ _ x xs Fs Gs (h1.held hb.1 fun F hm => hF F (List.mem_append_left _ hm)) (h2.held hb.2 fun F hm => hF F (List.mem_append_right _ hm))
theorem XRL.capH {sh sh0 : BSet} {h : Array Obj} {bi : Nat → Option Nat} : ∀ {l : List V} {xs : List Value}, XRL sh h bi l xs [] → l.all cap1 = true → XRL sh0 h bi l xs []
  | [], _, H, hb => by cases H; exact .nil
  | v :: l, _, H, hb => by
    simp only [List.all_cons, Bool.and_eq_true] at hb
    generalize hE : ([] : List BSet) = E at H
    cases H with
    | cons _ _ x xs Fs Gs h1 h2 =>
      obtain ⟨e1, e2⟩ := List.append_eq_nil_iff.1 hE.symm
      subst e1; subst e2
      refine .cons _ _ x xs [] [] ?_ (h2.capH hb.2)
      cases v <;> simp [cap1] at hb
      case sc u => cases h1 with | sc _ ho => exact .sc _ ho
      case bx n off => cases h1 with | bx _ _ b h3 => exact .bx n off b h3
      case mp n => cases h1 with | mp _ b h3 => exact .mp n b h3
end
theorem BoxX.held {sh sh0 : BSet} {h : Array Obj} {bi : Nat → Option Nat} {b : Nat} {c : Cell} {Gs : List BSet} (H : BoxX sh h bi b c Gs) (hb : hasFzC [c] = false) (hF : ∀ F ∈ Gs, ∀ y, F y → ¬ sh0 y) : BoxX sh0 h bi b c Gs := by
  cases c with
  | b vs => obtain ⟨vals, t, h1, h2⟩ := H; exact ⟨vals, t, h1, h2.held (by simpa [hasFzC] using hb) hF⟩
  | m es => exact H
  | _ => exact H.elim

/-! ### the contract of a call -/
section
variable [Glb]
structure Given (w : World) (sh : BSet) (av : List V) (args : List Value) (Fs : List BSet) (cs : List Cell) (bl : List Nat) (Gs : List (List BSet)) : Prop where
  shLt : ∀ x, sh x → x < w.heap.size
  xr : XRL sh w.heap (fun i => bl[i]?) av args Fs
  lenB : bl.length = cs.length
  lenG : Gs.length = cs.length
  bx : ∀ (j b : Nat) (c : Cell) (G : List BSet), bl[j]? = some b → cs[j]? = some c → Gs[j]? = some G → BoxX sh w.heap (fun i => bl[i]?) b c G
  nodup : bl.Nodup
  blk : ∀ b ∈ bl, ¬ sh b ∧ b < w.heap.size
  disj : (Fs ++ Gs.flatten).Pairwise Disj
  apart : ∀ F ∈ Fs ++ Gs.flatten, ∀ x, F x → x ∉ bl ∧ ¬ sh x ∧ x < w.heap.size
  glb : ∀ p ∈ Glb.l, sh p.1 ∧ w.heap[p.1]? = some p.2
end
def mineOf (Fs : List BSet) (Gs : List (List BSet)) (bl : List Nat) : BSet := fun x => (∃ F ∈ Fs ++ Gs.flatten, F x) ∨ x ∈ bl
section
variable [Glb]
def CallPost (w : World) (m : BSet) (sh : BSet) (bl : List Nat) (vs : List V) (cs' : List Cell) (xs : List Value) (w' : World) : Prop :=
  Frm w m w' ∧ ∃ (sh' : BSet) (Fs' : List BSet) (new : List Nat) (Gs' : List (List BSet)), Given w' sh' vs xs Fs' cs' (bl ++ new) Gs' ∧ (∀ y, sh y → sh' y) ∧
    ∀ y, (sh' y ∨ (∃ F ∈ Fs' ++ Gs'.flatten, F y) ∨ y ∈ new) → sh y ∨ m y ∨ w.heap.size ≤ y
/-- 'L': the arguments that are lent -/
def CallSpec (P : Program) (f : Nat) (L : List Nat) (av : List V) (cs : List Cell) (v : V) (cs' : List Cell) : Prop :=
  ∀ (w : World) (sh : BSet) (args : Array Value) (Fs : List BSet) (bl : List Nat) (Gs : List (List BSet)), Given w sh av args.toList Fs cs bl Gs →
    Calls P f args w fun e w' => ∃ x, e = .returned x ∧ CallPost w (mineOf Fs Gs bl) sh bl (unpack L.length v) cs' (x :: L.map fun i => args.getD i undef) w'

/-! ### after the call -/
theorem Inv.call (H : Inv w0 mine N pb gh s a w) {w' : World} {m : BSet} (hf : Frm w m w') (hm : ∀ y, m y → (gh.own y = none ∧ ¬ gh.sh y ∧ (y < w0.heap.size → mine y)) ∨ ∃ n, gh.own y = some (.b n) ∧ look s.bx n = some .dead) : Inv w0 mine N pb gh s a w' := by
  have hb : ∀ x n, gh.own x = some (.b n) → gh.bi n = some x := H.ownb
  refine H.step (gh' := gh) (s' := s) (w' := w') (fun q => ∃ n, q = .b n ∧ look s.bx n = some .dead) (fun _ h => h) (fun _ _ h => h) (fun _ _ h => h) ?_ (fun _ _ _ => Iff.rfl) rfl rfl (fun _ _ => rfl) (fun _ _ => rfl) (fun _ _ => rfl) (fun _ _ => rfl) ?_ ?_ ?_ (fun x n _ h => H.ownb x n h) H.ownt ?_ ?_
  · intro x hx
    have hlt : x < w.heap.size := by
      rcases hx with hx | ⟨q, hx, _⟩
      · exact H.sh x hx
      · exact (H.own x q hx).2.1
    refine hf.keep x hlt ?_
    intro h1
    rcases hm x h1 with ⟨h2, h3, _⟩ | ⟨n, h2, h3⟩
    · rcases hx with hx | ⟨q, hx, _⟩
      · exact h3 hx
      · rw [h2] at hx; cases hx
    · rcases hx with hx | ⟨q, hx, hq⟩
      · exact (H.own x _ h2).1 hx
      · rw [h2] at hx; injection hx with hx; exact hq ⟨n, hx.symm, h3⟩
  · rintro n ⟨m', h, _⟩; cases h
  · rintro n ⟨m', h, h2⟩
    injection h with h; subst h
    obtain ⟨b, e1, e2, _⟩ := H.bx n _ h2
    exact ⟨.dead, b, h2, e1, e2, trivial⟩
  · intro x q hx
    have := H.own x q hx
    exact ⟨this.1, Nat.lt_of_lt_of_le this.2.1 hf.size, this.2.2⟩
  · intro x hx; exact Nat.lt_of_lt_of_le (H.sh x hx) hf.size
  · refine ⟨Nat.le_trans H.frm.size hf.size, ?_, by rw [hf.os]; exact H.frm.os, by rw [hf.tape]; exact H.frm.tape, by rw [hf.output]; exact H.frm.output, H.frm.szs.trans hf.szs⟩
    intro x hx hnm
    rw [hf.keep x (Nat.lt_of_lt_of_le hx H.frm.size)]
    · exact H.frm.keep x hx hnm
    · intro h1
      rcases hm x h1 with ⟨_, _, h4⟩ | ⟨n, h2, h3⟩
      · exact hnm (h4 hx)
      · exact hnm ((H.own x _ h2).2.2 hx)
end
theorem freezeA_run : ∀ {l : List Nat} {k : M α} {s : St}, (freezeA l k).run g s = some r → ∃ s', k.run g s' = some r ∧ s'.tm = s.tm ∧ s'.bx = s.bx ∧ s'.np = s.np ∧
    ∀ n, (n ∈ l → ∃ fz xs, look s.ar n = some (.a fz xs) ∧ look s'.ar n = some (.a true xs)) ∧ (n ∉ l → look s'.ar n = look s.ar n)
  | [], k, s, h => ⟨s, h, rfl, rfl, rfl, fun n => ⟨fun h => absurd h (by simp), fun _ => rfl⟩⟩
  | m :: l, k, s, h => by
    simp only [freezeA, rdA, M.run, St.get] at h
    split at h
    · rename_i fz xs hl
      simp only [M.run] at h
      obtain ⟨s', h1, h2, h3, h4, h5⟩ := freezeA_run h
      have hlk : ∀ n, look (s.put (.a m) (.a true xs)).ar n = if m = n then some (.a true xs) else look s.ar n := by intro n; simp only [St.put, look_setA]
      refine ⟨s', h1, h2, h3, h4, fun n => ⟨fun hn => ?_, fun hn => ?_⟩⟩
      · by_cases hm : m = n
        · subst hm
          by_cases hin : m ∈ l
          · obtain ⟨fz', xs', e1, e2⟩ := (h5 m).1 hin
            rw [hlk, if_pos rfl] at e1
            injection e1 with e1; injection e1 with _ e1; subst e1
            exact ⟨fz, xs, hl, e2⟩
          · have := (h5 m).2 hin
            rw [hlk, if_pos rfl] at this
            exact ⟨fz, xs, hl, this⟩
        · have hin : n ∈ l := by rcases List.mem_cons.1 hn with h | h; exact absurd h.symm hm; exact h
          obtain ⟨fz', xs', e1, e2⟩ := (h5 n).1 hin
          rw [hlk, if_neg hm] at e1
          exact ⟨fz', xs', e1, e2⟩
      · have hm : m ≠ n := fun e => hn (e ▸ List.mem_cons_self)
        have := (h5 n).2 fun h => hn (List.mem_cons_of_mem _ h)
        rw [hlk, if_neg hm] at this
        exact this
    · exact (run_fail_ h).elim
open Classical in
noncomputable def Gh.hold (gh : Gh) (sh' : BSet) (l : List Nat) : Gh := { gh with sh := sh', own := fun x => if ∃ n ∈ l, gh.own x = some (.a n) then none else gh.own x }
theorem Gh.hold_own {sh' : BSet} {l : List Nat} {x : Nat} {q : Res} : (gh.hold sh' l).own x = some q ↔ gh.own x = some q ∧ ∀ n ∈ l, q ≠ .a n := by
  simp only [Gh.hold]
  split
  · rename_i h
    obtain ⟨n, hn, h⟩ := h
    constructor
    · intro e; cases e
    · rintro ⟨e, h2⟩; rw [h] at e; injection e with e; exact absurd e.symm (h2 n hn)
  · rename_i h
    constructor
    · intro e; exact ⟨e, fun n hn e2 => h ⟨n, hn, by rw [e, e2]⟩⟩
    · exact fun e => e.1
section
variable [Glb]
theorem Inv.freeze (H : Inv w0 mine N pb gh s a w) {sh' : BSet} {l : List Nat} {k : M α} (h1 : ∀ y, gh.sh y → sh' y) (h2 : ∀ y, sh' y → y < w.heap.size ∧ ∀ q, gh.own y = some q → ∃ n ∈ l, q = .a n) (h3 : ∀ n ∈ l, ∀ y, gh.own y = some (.a n) → sh' y) (h4 : ∀ y, sh' y → mine.sh y ∨ mine y ∨ w0.heap.size ≤ y)
    (hr : (freezeA l k).run g s = some r) : ∃ s', k.run g s' = some r ∧ Inv w0 mine N pb (gh.hold sh' l) s' a w ∧ s'.bx = s.bx := by
  obtain ⟨s', e1, e2, e3, e4, e5⟩ := freezeA_run hr
  refine ⟨s', e1, ?_, e3⟩
  refine H.step (gh' := gh.hold sh' l) (s' := s') (w' := w) (fun q => ∃ n ∈ l, q = .a n) h1 (fun _ _ h => h) (fun _ _ h => h) (fun _ _ => rfl) ?_ e2 e4 ?_ (fun _ _ => by rw [e3]) (fun _ _ => rfl) (fun _ _ => rfl) ?_ (fun n h => by obtain ⟨m, _, h⟩ := h; cases h) ?_ (fun x n h => by obtain ⟨m, _, h⟩ := h; cases h) ?_ (fun x hx => (h2 x hx).1) H.frm h4
  · intro q hq x
    rw [Gh.hold_own]
    exact ⟨fun h => h.1, fun h => ⟨h, fun n hn e => hq ⟨n, hn, e⟩⟩⟩
  · intro n hn
    exact (e5 n).2 fun h => hn ⟨n, h, rfl⟩
  · rintro n ⟨m, hm, e⟩
    injection e with e; subst e
    obtain ⟨fz, xs, q1, q2⟩ := (e5 n).1 hm
    obtain ⟨ai, q3, q4⟩ := H.ar n _ q1
    refine ⟨.a true xs, ai, q2, q3, ?_⟩
    simp only [CellA, RowOk] at q4 ⊢
    cases fz with
    | true => exact ⟨q4.1.mono h1 fun _ _ => rfl, q4.2⟩
    | false =>
      rcases q4 with ⟨rfl, _, _⟩ | ⟨q5, q6, _⟩
      · exact ⟨.nil false _ _, by simp⟩
      · exact ⟨(q5.toFR h1 fun b hb => h3 n hm b hb).flag false, q6⟩
  · intro x q hx
    obtain ⟨z1, z2⟩ := Gh.hold_own.1 hx
    have := H.own x q z1
    refine ⟨fun hs => ?_, this.2⟩
    obtain ⟨n, hn, e⟩ := (h2 x hs).2 q z1
    exact z2 n hn e
  · intro x n hx
    exact H.ownt x n (Gh.hold_own.1 hx).1
end
end Go.Pv

set_option linter.unusedSimpArgs false
set_option linter.unusedVariables false
namespace Go.Pv
variable {α : Type} {w0 : World} {mine : Mine} {N : Nat} {pb : List Nat} {gh : Gh} {s : St} {a : Act} {w : World} {g : Ora} {r : α × St} {P : Program} {own : Nat → Nat → Mode}

section
variable [Glb]
theorem newBs_ok : ∀ (L bls : List Nat) (gh : Gh) (s : St) (k : M α), Inv w0 mine N pb gh s a w → L.length = bls.length → bls.Nodup → (∀ b ∈ bls, gh.own b = none ∧ ¬ gh.sh b ∧ b < w.heap.size ∧ (b < w0.heap.size → mine b)) → (newBs L k).run g s = some r →
    ∃ gh' s', k.run g s' = some r ∧ Inv w0 mine N pb gh' s' a w ∧ gh'.sh = gh.sh ∧ gh'.ai = gh.ai ∧ (∀ n b, gh.bi n = some b → gh'.bi n = some b) ∧ (∀ y q, gh.own y = some q → gh'.own y = some q) ∧
      (∀ y q, gh'.own y = some q → gh.own y = some q ∨ y ∈ bls) ∧ (∀ (j n b : Nat), L[j]? = some n → bls[j]? = some b → gh'.bi n = some b ∧ gh'.own b = some (.b n))
  | [], bls, gh, s, k, H, hl, hn, hb, h => by
    exact ⟨gh, s, h, H, rfl, rfl, fun _ _ h => h, fun _ _ h => h, fun _ _ h => .inl h, by simp⟩
  | n :: L, [], gh, s, k, H, hl, hn, hb, h => by simp at hl
  | n :: L, b :: bls, gh, s, k, H, hl, hn, hb, h => by
    obtain ⟨h1, h2⟩ := newR_ok h
    have h1' : look s.bx n = none := h1
    have h0 := H.bx0 n h1'
    obtain ⟨q1, q2, q3, q4⟩ := hb b List.mem_cons_self
    have H1 : Inv w0 mine N pb (gh.setB n b) (s.put (.b n) .dead) a w := H.setB (.inl ⟨h0.1, q1, q2, q4⟩) (fun _ _ _ => rfl) (Nat.le_refl _) q3 rfl rfl rfl trivial
    rw [List.nodup_cons] at hn
    have hown : ∀ y, y ≠ b → (gh.setB n b).own y = gh.own y := fun y hy => by simp [Gh.setB, hy]
    obtain ⟨gh', s', e1, e2, e3, e4, e5, e6, e7, e8⟩ := newBs_ok L bls (gh.setB n b) _ k H1 (by simpa using hl) hn.2 (by
      intro b' hb'
      have hne : b' ≠ b := fun e => hn.1 (e ▸ hb')
      obtain ⟨z1, z2, z3, z4⟩ := hb b' (List.mem_cons_of_mem _ hb')
      exact ⟨by rw [hown _ hne]; exact z1, z2, z3, z4⟩) (by simpa only [M.run] using h2)
    have hbi : ∀ m c, gh.bi m = some c → (gh.setB n b).bi m = some c := by
      intro m c hm
      simp only [Gh.setB]
      split
      · rename_i e; subst e; rw [h0.1] at hm; cases hm
      · exact hm
    refine ⟨gh', s', e1, e2, e3, e4, fun m c hm => e5 _ _ (hbi m c hm), ?_, ?_, ?_⟩
    · intro y q hy
      refine e6 y q ?_
      rw [hown]
      · exact hy
      · rintro rfl; rw [q1] at hy; cases hy
    · intro y q hy
      rcases e7 y q hy with h3 | h3
      · by_cases hyb : y = b
        · exact .inr (by simp [hyb])
        · rw [hown y hyb] at h3; exact .inl h3
      · exact .inr (List.mem_cons_of_mem _ h3)
    · intro j m c hm hc
      cases j with
      | zero =>
        simp at hm hc; subst hm; subst hc
        exact ⟨e5 _ _ (by simp [Gh.setB]), e6 _ _ (by simp [Gh.setB])⟩
      | succ j => exact e8 j m c (by simpa using hm) (by simpa using hc)

end
/-- rows that come in -/
inductive RowsX (sh : BSet) (h : Array Obj) : List (Nat × List (List V)) → List Value → List BSet → Prop where
  | nil : RowsX sh h [] [] []
  | cons (n : Nat) (rows : List (List V)) (x : Value) (F : BSet) (l : List (Nat × List (List V))) (xs : List Value) (Fs : List BSet) : OR sh h (.ls true rows) x F → RowsX sh h l xs Fs → RowsX sh h ((n, rows) :: l) (x :: xs) (F :: Fs)
theorem RowsX.append {sh : BSet} {h : Array Obj} {l l' : List (Nat × List (List V))} {xs xs' : List Value} {Fs Fs' : List BSet} (H : RowsX sh h l xs Fs) (H' : RowsX sh h l' xs' Fs') : RowsX sh h (l ++ l') (xs ++ xs') (Fs ++ Fs') := by
  induction H with
  | nil => exact H'
  | cons n rows x F l xs Fs h1 h2 ih => exact .cons n rows x F _ _ _ h1 ih
theorem RowsX.length {sh : BSet} {h : Array Obj} {l : List (Nat × List (List V))} {xs : List Value} {Fs : List BSet} (H : RowsX sh h l xs Fs) : l.length = xs.length := by
  induction H with
  | nil => rfl
  | cons n rows x F l xs Fs h1 h2 ih => simp [ih]
def Got (gh : Gh) (h : Array Obj) (l : List (Nat × List (List V))) (xs : List Value) : Prop := ∀ (i : Nat) (p : Nat × List (List V)) (x : Value), l[i]? = some p → xs[i]? = some x → RT gh h (.rf p.1 0 p.2.length) x
theorem Got.append {gh : Gh} {h : Array Obj} {l l' : List (Nat × List (List V))} {xs xs' : List Value} (hl : l.length = xs.length) (H : Got gh h (l ++ l') (xs ++ xs')) : Got gh h l xs ∧ Got gh h l' xs' := by
  constructor
  · intro i p x h1 h2
    exact H i p x (by rw [List.getElem?_append_left (List.getElem?_eq_some_iff.1 h1).1]; exact h1) (by rw [List.getElem?_append_left (List.getElem?_eq_some_iff.1 h2).1]; exact h2)
  · intro i p x h1 h2
    refine H (l.length + i) p x ?_ ?_
    · rw [List.getElem?_append_right (by omega)]; simpa using h1
    · rw [hl, List.getElem?_append_right (by omega)]; simpa using h2
theorem XRL.caps {gh : Gh} {sh : BSet} {h : Array Obj} {bi : Nat → Option Nat} {nm : Nat → Nat} (hb : ∀ i c, bi i = some c → gh.bi (nm i) = some c) : ∀ {l : List V} {xs : List Value} {Fs : List BSet}, XRL sh h bi l xs Fs → l.all cap1 = true →
    l.length = xs.length ∧ ∀ (i : Nat) (c : V) (v : Value), (renBL nm l)[i]? = some c → xs[i]? = some v → RT gh h c v
  | [], _, _, H, hc => by cases H; exact ⟨rfl, by simp⟩
  | v :: l, _, _, H, hc => by
    simp only [List.all_cons, Bool.and_eq_true] at hc
    cases H with
    | cons _ _ x xs Fs Gs h1 h2 =>
      obtain ⟨e1, e2⟩ := h2.caps hb hc.2
      refine ⟨by simp [e1], ?_⟩
      intro i c u hi hu
      cases i with
      | zero =>
        simp [renBL] at hi hu
        subst hi; subst hu
        cases v <;> simp [cap1] at hc
        case sc y => cases h1 with | sc _ ho => exact .sc _ ho
        case bx n off => cases h1 with | bx _ _ b h3 => exact .bx _ off b (hb _ _ h3)
        case mp n => cases h1 with | mp _ b h3 => exact .mp _ b (hb _ _ h3)
      | succ i => exact e2 i c u (by simpa [renBL] using hi) (by simpa using hu)
theorem renBL_length (f : Nat → Nat) : ∀ l : List V, (renBL f l).length = l.length
  | [] => rfl
  | v :: l => by simp [renBL, renBL_length f l]
mutual
theorem imp_ok {sh : BSet} {h : Array Obj} {bi : Nat → Option Nat} {nm : Nat → Nat} : ∀ (v : V) (x : Value) (Fs : List BSet) (n : Nat), XR sh h bi v x Fs → ∃ xs, RowsX sh h (imp (renB nm v) n).2.2 xs Fs ∧
    ∀ gh : Gh, gh.sh = sh → (∀ i c, bi i = some c → gh.bi (nm i) = some c) → Got gh h (imp (renB nm v) n).2.2 xs → RT gh h (imp (renB nm v) n).1 x
  | .sc v, x, Fs, n, H => by
    cases H with | sc _ ho => exact ⟨[], .nil, fun _ _ _ _ => .sc _ ho⟩
  | .ls true xs, x, Fs, n, H => by
    cases H with
    | own _ _ F ho => exact ⟨[x], .cons n xs x F [] [] [] ho .nil, fun gh _ _ hg => hg 0 (n, xs) x rfl rfl⟩
  | .ls false xs, x, Fs, n, H => by
    cases H with
    | fz _ _ hf => exact ⟨[], .nil, fun gh hs _ _ => .fz xs x (by rw [hs]; exact hf)⟩
  | .rf _ _ _, x, Fs, n, H => by cases H
  | .ep _ _ _, x, Fs, n, H => by cases H
  | .fp _ _ _, x, Fs, n, H => by cases H
  | .ag cs, x, Fs, n, H => by
    cases H with
    | ag _ vs _ hl =>
      obtain ⟨xs, h1, h2, h3⟩ := impL_ok (nm := nm) cs vs.toList Fs n hl
      exact ⟨xs, h1, fun gh hs hb hg => .ag _ vs (by simpa using h2) fun i c v hc hv => h3 gh hs hb hg i c v hc (by simpa using hv)⟩
  | .tu cs, x, Fs, n, H => by
    cases H with
    | tu _ vs _ hl =>
      obtain ⟨xs, h1, h2, h3⟩ := impL_ok (nm := nm) cs vs.toList Fs n hl
      exact ⟨xs, h1, fun gh hs hb hg => .tu _ vs (by simpa using h2) fun i c v hc hv => h3 gh hs hb hg i c v hc (by simpa using hv)⟩
  | .bx m off, x, Fs, n, H => by
    cases H with | bx _ _ b h1 => exact ⟨[], .nil, fun gh _ hb _ => .bx _ off b (hb _ _ h1)⟩
  | .fn f cs, x, Fs, n, H => by
    cases H with
    | fn _ _ vs h1 hl =>
      exact ⟨[], .nil, fun gh _ hb _ => by
        obtain ⟨e1, e2⟩ := hl.caps (gh := gh) hb h1
        exact .fn f _ vs (by rw [renBL_length]; simpa using e1) fun i c v hc hv => e2 i c v hc (by simpa using hv)⟩
  | .mp m, x, Fs, n, H => by
    cases H with | mp _ b h1 => exact ⟨[], .nil, fun gh _ hb _ => .mp _ b (hb _ _ h1)⟩
theorem impL_ok {sh : BSet} {h : Array Obj} {bi : Nat → Option Nat} {nm : Nat → Nat} : ∀ (l : List V) (us : List Value) (Fs : List BSet) (n : Nat), XRL sh h bi l us Fs → ∃ xs, RowsX sh h (impL (renBL nm l) n).2.2 xs Fs ∧ (impL (renBL nm l) n).1.length = us.length ∧
    ∀ gh : Gh, gh.sh = sh → (∀ i c, bi i = some c → gh.bi (nm i) = some c) → Got gh h (impL (renBL nm l) n).2.2 xs → ∀ (i : Nat) (c : V) (v : Value), (impL (renBL nm l) n).1[i]? = some c → us[i]? = some v → RT gh h c v
  | [], us, Fs, n, H => by
    cases H; exact ⟨[], .nil, rfl, fun _ _ _ _ => by simp [renBL, impL]⟩
  | v :: l, us, Fs, n, H => by
    cases H with
    | cons _ _ x us' Fs1 Gs h1 h2 =>
      obtain ⟨xs1, a1, a2⟩ := imp_ok (nm := nm) v x Fs1 n h1
      obtain ⟨xs2, b1, b2, b3⟩ := impL_ok (nm := nm) l us' Gs (imp (renB nm v) n).2.1 h2
      refine ⟨xs1 ++ xs2, a1.append b1, by simp [renBL, impL, b2], ?_⟩
      intro gh hs hb hg i c u hi hu
      obtain ⟨g1, g2⟩ := Got.append a1.length hg
      cases i with
      | zero =>
        simp [renBL, impL] at hi hu
        subst hi; subst hu
        exact a2 gh hs hb g1
      | succ i => exact b3 gh hs hb g2 i c u (by simpa [renBL, impL] using hi) (by simpa using hu)
end
section
variable [Glb]
theorem wrAs_ok : ∀ (l : List (Nat × List (List V))) (xs : List Value) (Fs : List BSet) (gh : Gh) (s : St) (k : M α), Inv w0 mine N pb gh s a w → RowsX gh.sh w.heap l xs Fs → Fs.Pairwise Disj → (∀ F ∈ Fs, ∀ y, F y → gh.own y = none ∧ (y < w0.heap.size → mine y)) → (wrAs l k).run g s = some r →
    ∃ gh' s', k.run g s' = some r ∧ Inv w0 mine N pb gh' s' a w ∧ gh'.sh = gh.sh ∧ gh'.bi = gh.bi ∧ (∀ n x, gh.ai n = some x → gh'.ai n = some x) ∧ Got gh' w.heap l xs ∧
      (∀ y q, gh'.own y = some q → gh.own y = some q ∨ ∃ F ∈ Fs, F y) ∧ (∀ y n, gh.own y = some (.b n) → gh'.own y = some (.b n))
  | [], xs, Fs, gh, s, k, H, hx, hd, hf, h => ⟨gh, s, h, H, rfl, rfl, fun _ _ h => h, fun i p x h => by simp at h, fun _ _ h => .inl h, fun _ _ h => h⟩
  | (n, rows) :: l, xs, Fs, gh, s, k, H, hx, hd, hf, h => by
    cases hx with
    | cons _ _ x F _ xs Fs h1 h2 =>
      obtain ⟨q1, q2⟩ := newR_ok h
      have h0 := H.ar0 n q1
      rw [List.pairwise_cons] at hd
      have hF := hf F List.mem_cons_self
      obtain ⟨ai, I, T⟩ : ∃ ai, Inv w0 mine N pb (gh.setA n ai F) (s.put (.a n) (.a false rows)) a w ∧ RT (gh.setA n ai F) w.heap (.rf n 0 rows.length) x := by
        have hall : ∀ y, F y → (gh.own y = none ∨ gh.own y = some (.a n)) ∧ ¬ gh.sh y ∧ y < w.heap.size ∧ (y < w0.heap.size → mine y) := fun y hy => ⟨.inl (hF y hy).1, (h1.blk y hy).2, (h1.blk y hy).1, (hF y hy).2⟩
        by_cases hr : rows = []
        · subst hr
          generalize hX : V.ls true [] = X at h1
          cases h1 with
          | sc => cases hX
          | fz => cases hX
          | nil A _ e =>
            exact ⟨⟨0, 0, 0, 0⟩, H.setA (.inl h0.1) hall (fun _ _ _ => rfl) (Nat.le_refl _) rfl rfl rfl (.inl ⟨rfl, rfl, e⟩), .rf n 0 0 ⟨0, 0, 0, 0⟩ A 0 (by simp [Gh.setA]) (Nat.le_refl _) (Nat.le_refl _) (.inl rfl)⟩
          | own xs' b base s' cap c t f Fs' _ hne => injection hX with _ e; exact absurd e.symm hne
        · have hsl : ∃ A m c, x = .slice A m c := by
            generalize hX : V.ls true rows = X at h1
            cases h1 with
            | sc => cases hX
            | fz => cases hX
            | nil A _ e => exact ⟨_, _, _, rfl⟩
            | own => exact ⟨_, _, _, rfl⟩
          obtain ⟨A, m, c, rfl⟩ := hsl
          obtain ⟨rfl, b, base, s', cl, t, f, Gs', rfl, R⟩ := h1.row hr
          exact ⟨⟨b, base, s', c⟩, H.setA (.inl h0.1) hall (fun _ _ _ => rfl) (Nat.le_refl _) rfl rfl rfl (.inr R.rowOk), .rf n 0 rows.length ⟨b, base, s', c⟩ _ c (by simp [Gh.setA]) R.le (by simp) (.inr (by simp))⟩
      have hown : ∀ y q, (gh.setA n ai F).own y = some q → gh.own y = some q ∨ F y := by
        intro y q hy
        simp only [Gh.setA] at hy
        split at hy
        · exact .inr ‹_›
        · split at hy
          · cases hy
          · exact .inl hy
      have hai : ∀ m z, gh.ai m = some z → (gh.setA n ai F).ai m = some z := by
        intro m z hm
        simp only [Gh.setA]
        split
        · rename_i e; subst e; rw [h0.1] at hm; cases hm
        · exact hm
      obtain ⟨gh', s', e1, e2, e3, e4, e5, e6, e7, e8⟩ := wrAs_ok l xs Fs (gh.setA n ai F) (s.put (.a n) (.a false rows)) k I h2 hd.2 (by
        intro G hG y hy
        obtain ⟨z1, z2⟩ := hf G (List.mem_cons_of_mem _ hG) y hy
        refine ⟨?_, z2⟩
        cases h9 : (gh.setA n ai F).own y with
        | none => rfl
        | some q =>
          rcases hown y q h9 with h8 | h8
          · rw [z1] at h8; cases h8
          · exact absurd hy (hd.1 G hG y h8)) (by simpa only [M.run] using q2)
      refine ⟨gh', s', e1, e2, e3, e4, fun m z hm => e5 _ _ (hai m z hm), ?_, ?_, ?_⟩
      · intro i p y hi hy
        cases i with
        | zero =>
          simp at hi hy; subst hi; subst hy
          exact T.mono (fun b hb => by rw [e3]; exact hb) (fun _ _ => rfl) e5 (fun m z hm => by rw [e4]; exact hm)
        | succ i => exact e6 i p y (by simpa using hi) (by simpa using hy)
      · intro y q hy
        rcases e7 y q hy with h8 | ⟨G, h8, h9⟩
        · rcases hown y q h8 with h9 | h9
          · exact .inl h9
          · exact .inr ⟨F, List.mem_cons_self, h9⟩
        · exact .inr ⟨G, List.mem_cons_of_mem _ h8, h9⟩
      · intro y m hy
        refine e8 y m ?_
        simp only [Gh.setA]
        rw [if_neg, if_neg]
        · exact hy
        · rw [hy]; intro e; cases e
        · intro hFy; rw [(hF y hFy).1] at hy; cases hy
end
end Go.Pv

set_option linter.unusedSimpArgs false
set_option linter.unusedVariables false
namespace Go.Pv
variable {α : Type} {w0 : World} {mine : Mine} {N : Nat} {pb : List Nat} {gh : Gh} {s : St} {a : Act} {w : World} {g : Ora} {r : α × St} {P : Program} {own : Nat → Nat → Mode}

/-! ### rows are taken out of rows -/
theorem tk_ok {hol : Bool} {h : Array Obj} : ∀ (p : List V) (us : List Value) (Fj : Nat → BSet) (n : Nat), p.length = us.length → p.all tk1 = true →
    (∀ (j : Nat) (v : V) (x : Value), p[j]? = some v → us[j]? = some x → ElX hol gh h v x (Fj j)) → (∀ j j' y, j < p.length → j' < p.length → Fj j y → Fj j' y → j = j') →
    ∃ xs Fs, RowsX gh.sh h (impL p n).2.2 xs Fs ∧ (impL p n).1.length = p.length ∧ (∀ F ∈ Fs, ∀ y, F y → ∃ j, j < p.length ∧ Fj j y) ∧ Fs.Pairwise Disj ∧
      ∀ gh' : Gh, gh'.sh = gh.sh → (∀ m y, gh.ai m = some y → gh'.ai m = some y) → Got gh' h (impL p n).2.2 xs → ∀ (j : Nat) (v : V) (x : Value), (impL p n).1[j]? = some v → us[j]? = some x →
        RT gh' h v x ∧ (isRf v = true ∨ OR gh.sh h v x noB)
  | [], us, Fj, n, hl, hk, he, hi => ⟨[], [], .nil, rfl, by simp, .nil, fun _ _ _ _ j v x hv => by simp [impL] at hv⟩
  | v :: p, us, Fj, n, hl, hk, he, hi => by
    cases us with
    | nil => simp at hl
    | cons u us =>
      simp only [List.all_cons, Bool.and_eq_true] at hk
      have e0 := he 0 v u rfl rfl
      obtain ⟨xs, Fs, R, l1, f1, f2, k⟩ := tk_ok (hol := hol) (h := h) p us (fun j => Fj (j + 1)) (imp v n).2.1 (by simpa using hl) hk.2 (fun j v x hv hx => he (j + 1) v x (by simpa using hv) (by simpa using hx))
        (fun j j' y h1 h2 h3 h4 => by have := hi (j + 1) (j' + 1) y (by simp; omega) (by simp; omega) h3 h4; omega)
      have plain : (imp v n).2.2 = [] → (imp v n).1 = v → (∀ gh' : Gh, gh'.sh = gh.sh → (∀ m y, gh.ai m = some y → gh'.ai m = some y) → RT gh' h v u ∧ (isRf v = true ∨ OR gh.sh h v u noB)) →
          ∃ xs Fs, RowsX gh.sh h (impL (v :: p) n).2.2 xs Fs ∧ (impL (v :: p) n).1.length = (v :: p).length ∧ (∀ F ∈ Fs, ∀ y, F y → ∃ j, j < (v :: p).length ∧ Fj j y) ∧ Fs.Pairwise Disj ∧
          ∀ gh' : Gh, gh'.sh = gh.sh → (∀ m y, gh.ai m = some y → gh'.ai m = some y) → Got gh' h (impL (v :: p) n).2.2 xs → ∀ (j : Nat) (v' : V) (x : Value), (impL (v :: p) n).1[j]? = some v' → (u :: us)[j]? = some x →
            RT gh' h v' x ∧ (isRf v' = true ∨ OR gh.sh h v' x noB) := by
        intro q1 q2 q3
        refine ⟨xs, Fs, by simpa [impL, q1] using R, by simp [impL, l1], fun F hF y hy => ?_, f2, ?_⟩
        · obtain ⟨j, h1, h2⟩ := f1 F hF y hy
          exact ⟨j + 1, by simp; omega, h2⟩
        · intro gh' h1 h2 h3 j v' x hv hx
          cases j with
          | zero =>
            simp [impL, q2] at hv hx
            subst hv; subst hx
            exact q3 gh' h1 h2
          | succ j => exact k gh' h1 h2 (by simpa [impL, q1] using h3) j v' x (by simpa [impL] using hv) (by simpa using hx)
      cases v with
      | sc y =>
        rcases e0 with e0 | ⟨_, e0, _⟩
        · cases e0 with
          | sc _ _ ho _ => exact plain rfl rfl fun gh' _ _ => ⟨.sc _ ho, .inr (.sc _ noB ho fun _ h => h)⟩
        · cases e0
      | ls o ys =>
        rcases e0 with e0 | ⟨_, e0, _⟩
        · cases o with
          | false =>
            cases e0 with
            | fz _ _ _ hf _ => exact plain rfl rfl fun gh' h1 _ => ⟨.fz _ _ (by rw [h1]; exact hf), .inr (.fz _ _ noB hf fun _ h => h)⟩
          | true =>
            refine ⟨u :: xs, Fj 0 :: Fs, .cons n ys u (Fj 0) _ xs Fs e0 (by simpa [impL, imp] using R), by simpa [impL, imp] using l1, ?_, ?_, ?_⟩
            · intro F hF y hy
              rcases List.mem_cons.1 hF with rfl | hF
              · exact ⟨0, by simp, hy⟩
              · obtain ⟨j, h1, h2⟩ := f1 F hF y hy
                exact ⟨j + 1, by simp; omega, h2⟩
            · refine List.pairwise_cons.2 ⟨fun F hF y hy hy' => ?_, f2⟩
              obtain ⟨j, h1, h2⟩ := f1 F hF y hy'
              have := hi 0 (j + 1) y (by simp) (by simp; omega) hy h2
              omega
            · intro gh' h1 h2 h3 j v' x hv hx
              cases j with
              | zero =>
                simp [impL, imp] at hv hx
                subst hv; subst hx
                exact ⟨h3 0 (n, ys) u rfl rfl, .inl rfl⟩
              | succ j =>
                refine k gh' h1 h2 (fun i p x hp hx => h3 (i + 1) p x ?_ (by simpa using hx)) j v' x (by simpa [impL] using hv) (by simpa using hx)
                simpa [impL, imp] using hp
        · cases e0
      | rf m o l =>
        rcases e0 with e0 | ⟨_, _, e0, _⟩
        · cases e0
        · exact plain rfl rfl fun gh' h1 h2 => ⟨by
            obtain ⟨ai, A, c, q1, q2, q3, q4, q5⟩ := e0.rfV
            rw [q5]; exact .rf m o l ai A c (h2 _ _ q1) q2 q3 q4, .inl rfl⟩
      | _ => simp [tk1] at hk
section
variable [Glb]
theorem takeM_ok {o : Oper} {t : TypeId} {x : Operand} {i : TypeInfo} {ag : Bool} (ho : o.op = .load t x) (hi : P.info? t = some i) (hg : aggT P t = some ag) (h0 : i.size ≠ 0) (H : Inv w0 mine N pb gh s a w)
    {n e off d : Nat} {ai : AI} (hx : a.eval x = .pointer (some ⟨ai.b, ai.base + e * ai.s + off, none⟩)) (hn : gh.ai n = some ai) {hol : Bool} {xs : List (List V)} {c : Array Value} {tt : TypeId} {f : Nat → Nat → Value} {Fs : Nat → Nat → BSet}
    (R : BRow gh w.heap n ai xs c tt f Fs) (hE : ∀ (i : Nat) (cs : List V) (j : Nat) (v : V), xs[i]? = some cs → cs[j]? = some v → ElX hol gh w.heap v (f i j) (Fs i j))
    (hcov : ∀ x, gh.own x = some (.a n) → x = ai.b ∨ ∃ i j, i < xs.length ∧ j < ai.s ∧ Fs i j x) {k : V → M α}
    (h : (takeM i.size ag n xs e off d k).run g s = some r) :
    ∃ gh' s1 V v w', (k V).run g s1 = some r ∧ OpVal P o a w v w' ∧ Inv w0 mine N pb gh' s1 a w' ∧ RT gh' w'.heap V v := by
  unfold takeM at h
  split at h
  case h_2 => exact (run_fail_ h).elim
  rename_i cs hcs
  try dsimp only at h
  obtain ⟨hc, h1⟩ := chk_ok h
  simp only [Bool.and_eq_true, decide_eq_true_eq] at hc
  obtain ⟨⟨⟨hle, hm0⟩, htk⟩, hall⟩ := hc
  generalize hm : (if ag = true then i.size else 1) = m at h1 hle hm0 htk
  have hcl := R.len e cs hcs
  have hel : e < xs.length := (List.getElem?_eq_some_iff.1 hcs).1
  have hpl : ((cs.drop off).take m).length = m := by simp; omega
  generalize hp : (cs.drop off).take m = p at h1 htk hpl
  have hpg : ∀ (j : Nat) (v : V), p[j]? = some v → j < m ∧ cs[off + j]? = some v := by
    intro j v hv
    rw [← hp, List.getElem?_take] at hv
    split at hv
    · exact ⟨‹_›, by simpa using hv⟩
    · cases hv
  have hus : ∀ (j : Nat) (y : Value), ((List.range m).map fun j => f e (off + j))[j]? = some y → j < m ∧ y = f e (off + j) := by
    intro j y hy
    rw [List.getElem?_map] at hy
    obtain ⟨z, hz, rfl⟩ := Option.map_eq_some_iff.1 hy
    have hzl := (List.getElem?_eq_some_iff.1 hz).1
    simp at hzl
    rw [List.getElem?_range hzl] at hz
    injection hz with hz; subst hz
    exact ⟨hzl, rfl⟩
  obtain ⟨us, Gs, X, l1, f1, f2, kk⟩ := tk_ok (hol := hol) (gh := gh) (h := w.heap) p ((List.range m).map fun j => f e (off + j)) (fun j => Fs e (off + j)) d (by simp [hpl]) htk
    (fun j v y hv hy => by
      obtain ⟨h2, h3⟩ := hpg j v hv
      obtain ⟨_, rfl⟩ := hus j y hy
      exact hE e cs _ v hcs h3)
    (fun j j' y h2 h3 h4 h5 => by
      have := R.inj e (off + j) e (off + j') y hel (by omega) hel (by omega) h4 h5
      omega)
  simp only [M.run] at h1
  have K := H.kill hn
  have hGs : ∀ F ∈ Gs, ∀ y, F y → gh.own y = some (.a n) ∧ ∃ j, j < m ∧ Fs e (off + j) y := by
    intro F hF y hy
    obtain ⟨j, h2, h3⟩ := f1 F hF y hy
    exact ⟨(R.sub e (off + j) y hel (by omega) h3).1, j, by omega, h3⟩
  have hkown : ∀ y, gh.own y = some (.a n) → (gh.kill n).own y = none := fun y hy => by simp [Gh.kill, hy]
  obtain ⟨gh2, s2, r1, I2, r2, r3, r4, r5, r6, r7⟩ := wrAs_ok (impL p d).2.2 us Gs (gh.kill n) _ _ K X f2 (fun F hF y hy => ⟨hkown y (hGs F hF y hy).1, (H.own y _ (hGs F hF y hy).1).2.2⟩) h1
  simp only [M.run] at r1
  have hai2 : gh2.ai n = some ai := r4 n ai hn
  obtain ⟨Fs', hFs'⟩ : ∃ Fs' : Nat → Nat → BSet, Fs' = fun i' j' => if i' = e ∧ off ≤ j' ∧ j' < off + m then noB else Fs i' j' := ⟨_, rfl⟩
  have hF' : ∀ {i' j' y}, Fs' i' j' y → Fs i' j' y ∧ ¬ (i' = e ∧ off ≤ j' ∧ j' < off + m) := by
    intro i' j' y hy
    rw [hFs'] at hy
    split at hy
    · exact hy.elim
    · exact ⟨hy, ‹_›⟩
  have hno2 : ∀ i' j' y, i' < xs.length → j' < ai.s → Fs' i' j' y → gh2.own y = none := by
    intro i' j' y h2 h3 hy
    obtain ⟨hy, hnot⟩ := hF' hy
    cases h9 : gh2.own y with
    | none => rfl
    | some q =>
      exfalso
      have hyo := (R.sub i' j' y h2 h3 hy).1
      rcases r6 y q h9 with h8 | ⟨F, hF, h8⟩
      · rw [hkown y hyo] at h8; cases h8
      · obtain ⟨_, j, hj, hj2⟩ := hGs F hF y h8
        have := R.inj i' j' e (off + j) y h2 h3 hel (by omega) hy hj2
        exact hnot ⟨this.1, by omega, by omega⟩
  have hnb2 : gh2.own ai.b = none := by
    cases h9 : gh2.own ai.b with
    | none => rfl
    | some q =>
      exfalso
      rcases r6 _ q h9 with h8 | ⟨F, hF, h8⟩
      · rw [hkown _ R.fb] at h8; cases h8
      · obtain ⟨_, j, hj, hj2⟩ := hGs F hF _ h8
        exact (R.sub e (off + j) _ hel (by omega) hj2).2 rfl
  have hFx : ∀ y, (y = ai.b ∨ ∃ i' j', i' < xs.length ∧ j' < ai.s ∧ Fs' i' j' y) → (gh2.own y = none ∨ gh2.own y = some (.a n)) ∧ ¬ gh2.sh y ∧ y < w.heap.size ∧ (y < w0.heap.size → mine y) := by
    intro y hy
    have ho : gh.own y = some (.a n) ∧ gh2.own y = none := by
      rcases hy with rfl | ⟨i', j', h2, h3, h4⟩
      · exact ⟨R.fb, hnb2⟩
      · exact ⟨(R.sub i' j' y h2 h3 (hF' h4).1).1, hno2 i' j' y h2 h3 h4⟩
    have := H.own y _ ho.1
    exact ⟨.inl ho.2, by rw [r2]; exact this.1, this.2⟩
  have hxl : (xs.set e (setAt cs off (impL p d).1)).length = xs.length := by simp
  have mono3 : ∀ v y, RT gh2 w.heap v y → RT (gh2.setA n ai fun y => y = ai.b ∨ ∃ i' j', i' < xs.length ∧ j' < ai.s ∧ Fs' i' j' y) w.heap v y := by
    intro v y hv
    refine RT.mono (gh := gh2) (h := w.heap) ?_ (fun _ _ => rfl) ?_ ?_ hv
    · exact fun _ h => h
    case refine_3 => exact fun _ _ h => h
    intro m y hm
    simp only [Gh.setA]
    split
    · rename_i e; subst e; rw [hai2] at hm; exact hm
    · exact hm
  have mono2 : ∀ v y, RT gh w.heap v y → RT gh2 w.heap v y := fun v y hv => (RT.congr (gh := gh) (gh' := gh.kill n) rfl rfl rfl hv).mono (by rw [r2]; exact fun _ h => h) (fun _ _ => rfl) r4 (by rw [r3]; exact fun _ _ h => h)
  have hrt := kk gh2 r2 r4 r5
  have I3 := I2.setC (n := n) (ai := ai) (F := fun y => y = ai.b ∨ ∃ i' j', i' < xs.length ∧ j' < ai.s ∧ Fs' i' j' y) (cc := .h (xs.set e (setAt cs off (impL p d).1))) (.inr hai2) hFx (fun _ _ _ => rfl) (Nat.le_refl _) rfl rfl rfl ⟨c, tt, f, Fs', by
    refine ⟨by intro h2; rw [h2] at hxl; simp at hxl; exact R.ne (List.eq_nil_of_length_eq_zero hxl.symm), R.blk, by rw [hxl]; exact R.le, R.room, ?_, ?_, ?_, (Gh.setA_own _).2 (.inl rfl), ?_, ?_, ?_⟩
    · intro q cs' hq
      rw [List.getElem?_set] at hq
      split at hq
      · injection hq with hq; subst hq; rw [setAt_length]; exact hcl
      · exact R.len q cs' hq
    · intro i' cs' j' v hi' hj'
      have hin : i' < xs.length := by rw [← hxl]; exact (List.getElem?_eq_some_iff.1 hi').1
      have hjn : j' < ai.s := by
        have h3 := (List.getElem?_eq_some_iff.1 hj').1
        rw [List.getElem?_set] at hi'
        split at hi'
        · injection hi' with hi'; subst hi'; rw [setAt_length, hcl] at h3; exact h3
        · rw [R.len i' cs' hi'] at h3; exact h3
      have h3 := List.getElem?_eq_getElem hin
      have h4 := R.len i' _ h3
      exact R.cell i' _ j' _ h3 (List.getElem?_eq_getElem (by omega))
    · intro i' cs' j' v hi' hj'
      have old : ∀ (cs0 : List V), xs[i']? = some cs0 → cs0[j']? = some v → ¬ (i' = e ∧ off ≤ j' ∧ j' < off + m) → OR (gh2.setA n ai fun y => y = ai.b ∨ ∃ i' j', i' < xs.length ∧ j' < ai.s ∧ Fs' i' j' y).sh w.heap v (f i' j') (Fs' i' j') ∨ (isRf v = true ∧ RT (gh2.setA n ai fun y => y = ai.b ∨ ∃ i' j', i' < xs.length ∧ j' < ai.s ∧ Fs' i' j' y) w.heap v (f i' j') ∧ ∀ x, ¬ Fs' i' j' x) := by
        intro cs0 q1 q2 q3
        have hsame : Fs' i' j' = Fs i' j' := by rw [hFs']; simp only; rw [if_neg q3]
        rw [hsame]
        rcases hE i' cs0 j' v q1 q2 with q | ⟨_, q, q', q''⟩
        · left
          show OR gh2.sh w.heap v _ _
          rw [r2]; exact q
        · exact .inr ⟨q, mono3 _ _ (mono2 _ _ q'), q''⟩
      rw [List.getElem?_set] at hi'
      split at hi'
      · rename_i he
        subst he
        injection hi' with hi'; subst hi'
        rw [setAt_get, l1, hpl] at hj'
        split at hj'
        · rename_i hin
          have hv := hrt (j' - off) v (f e j') hj' (by
            rw [List.getElem?_map, List.getElem?_range (by omega)]
            simp; congr 1; omega)
          have hsame : Fs' e j' = noB := by rw [hFs']; simp only; rw [if_pos ⟨trivial, hin.1, hin.2.1⟩]
          rw [hsame]
          rcases hv.2 with q | q
          · exact .inr ⟨q, mono3 _ _ hv.1, fun _ h => h⟩
          · left
            show OR gh2.sh w.heap v _ _
            rw [r2]; exact q
        · rename_i hin
          have hjl := (List.getElem?_eq_some_iff.1 hj').1
          exact old cs hcs hj' (fun hh => hin ⟨hh.2.1, hh.2.2, hjl⟩)
      · rename_i he
        exact old cs' hi' hj' (fun hh => he hh.1.symm)
    · intro i' j' y h2 h3 hy
      rw [hxl] at h2
      exact ⟨(Gh.setA_own _).2 (.inr ⟨i', j', h2, h3, hy⟩), (R.sub i' j' y h2 h3 (hF' hy).1).2⟩
    · intro i1 j1 i2 j2 y h2 h3 h4 h5 h6 h7
      rw [hxl] at h2 h4
      exact R.inj i1 j1 i2 j2 y h2 h3 h4 h5 (hF' h6).1 (hF' h7).1
    · intro y hy
      rw [hxl]
      exact (Gh.setA_own _).1 hy⟩
  have hsz : ai.base + e * ai.s + (off + m) ≤ c.size := by
    have q1 : (e + 1) * ai.s ≤ xs.length * ai.s := Nat.mul_le_mul_right _ hel
    have q2 : xs.length * ai.s ≤ ai.cap * ai.s := Nat.mul_le_mul_right _ R.le
    have q3 := R.room
    rw [Nat.add_mul] at q1
    omega
  have hcell : ∀ j, j < m → c[ai.base + e * ai.s + off + j]? = some (f e (off + j)) := by
    intro j hj
    rw [show ai.base + e * ai.s + off + j = ai.base + e * ai.s + (off + j) by omega]
    exact R.cell e cs (off + j) _ hcs (List.getElem?_eq_getElem (by omega))
  have hrun := load_run (P := P) (w := w) hi hg R.blk (off := ai.base + e * ai.s + off) (fun h2 => by rw [h2] at hm; simp at hm; omega) (fun h2 => by rw [h2] at hm; simp at hm; omega)
  have hex : execOp a.eval o = (do pure (Next.value (← Instr.loadAt t (a.eval x)))) := by simp [execOp, ho]
  refine ⟨_, _, _, _, w, r1, .inl (eval_v hex (by rw [hx]; exact hrun)), I3, ?_⟩
  cases ag with
  | true =>
    simp only [if_true] at hm ⊢
    refine .ag _ _ (by simp [l1, hpl]; omega) ?_
    intro j v y hv hy
    have hj : j < m := by have := (List.getElem?_eq_some_iff.1 hv).1; rw [l1, hpl] at this; exact this
    refine mono3 _ _ (hrt j v y hv ?_).1
    rw [List.getElem?_map, List.getElem?_range hj]
    simp only [List.getElem?_toArray, List.getElem?_take] at hy
    rw [if_pos (by omega), List.getElem?_drop] at hy
    have := hcell j hj
    simp only [Array.getElem?_toList] at hy
    rw [this] at hy
    injection hy with hy
    rw [← hy]; rfl
  | false =>
    simp only [Bool.false_eq_true, if_false] at hm ⊢
    subst hm
    have hl0 : 0 < (impL p d).1.length := by rw [l1, hpl]; omega
    have hv0 := List.getElem?_eq_getElem hl0
    have hc0 := hcell 0 (by omega)
    have : (impL p d).1.getD 0 (.tu []) = (impL p d).1[0] := by simp [List.getD_eq_getElem?_getD, hv0]
    rw [this]
    have h2 : c.getD (ai.base + e * ai.s + off) undef = f e off := by
      rw [Array.getD_eq_getD_getElem?]
      simp only [Nat.add_zero] at hc0
      rw [hc0]; rfl
    rw [h2]
    exact mono3 _ _ (hrt 0 _ (f e off) hv0 (by simp)).1
theorem take_ok {o : Oper} {t : TypeId} {x : Operand} {i : TypeInfo} {ag : Bool} (ho : o.op = .load t x) (hi : P.info? t = some i) (hg : aggT P t = some ag) (h0 : i.size ≠ 0) : SemOK P own o (.take i.size ag (arOf x)) := by
  intro α w0 mine N pb gh s a w g dst k r H h
  simp only [sem] at h
  have old : ∀ (fz : Prop), (sem own dst (.load i.size ag (arOf x)) k).run g s = some r → ∃ gh' s1 V v w', (k V).run g s1 = some r ∧ OpVal P o a w v w' ∧ Inv w0 mine N pb gh' s1 a w' ∧ RT gh' w'.heap V v :=
    fun _ h => load_ok ho hi hg h0 α w0 mine N pb gh s a w g dst k r H h
  obtain ⟨V, h1, h2⟩ := get_ok H h
  have hex : execOp a.eval o = (do pure (Next.value (← Instr.loadAt t (a.eval x)))) := by simp [execOp, ho]
  split at h1
  · rename_i n e off
    obtain ⟨ai, q1, q2⟩ := h2.epV
    simp only [M.run, St.get] at h1
    split at h1
    · rename_i fz xs hl
      obtain ⟨ai', q3, q4⟩ := H.ar n _ hl
      rw [q1] at q3; injection q3 with q3; subst q3
      cases fz with
      | true =>
        simp only [if_true] at h1
        split at h1
        · rename_i cs hcs
          obtain ⟨U, h9, h10⟩ := optK_ok h1
          obtain ⟨h11, c, ty, z, h12, h13⟩ := RowOk.at q4 hcs
          obtain ⟨v, h14, h15⟩ := ldN_ok (fz := true) hi hg h0 h12 h13 h9
          exact quiet_ok H h10 (eval_v hex (by rw [q2]; exact h14)) h15
        · exact (run_fail_ h1).elim
      | false =>
        simp only [Bool.false_eq_true, if_false] at h1
        by_cases hne : xs = []
        · subst hne
          simp [takeM] at h1
          exact (run_fail_ h1).elim
        · obtain ⟨c, t', f, Fs, R⟩ := RowOk.orow q4 hne
          exact takeM_ok ho hi hg h0 H q2 q1 (hol := false) ⟨R.ne, R.blk, R.le, R.room, R.len, R.cell, R.fb, R.sub, R.inj⟩ (fun i cs j v hi hj => .inl (R.el i cs j v hi hj)) R.cov h1
    · rename_i xs hl
      obtain ⟨ai', q3, c, t', f, Fs, R⟩ := H.ar n _ hl
      rw [q1] at q3; injection q3 with q3; subst q3
      refine takeM_ok ho hi hg h0 H q2 q1 (hol := true) ⟨R.ne, R.blk, R.le, R.room, R.len, R.cell, R.fb, R.sub, R.inj⟩ (fun i cs j v hi hj => ?_) R.cov h1
      rcases R.el i cs j v hi hj with h0 | ⟨h0, h3, h4⟩
      · exact .inl h0
      · exact .inr ⟨rfl, h0, h3, h4⟩
    · exact (run_fail_ h1).elim
  · rename_i b off
    obtain ⟨bb, h3, h4⟩ := h2.bxV
    obtain ⟨cs, b', h5, h6, h7, ⟨vs, ty, h8, h9, h10⟩, h11⟩ := rdB_ok H h1
    rw [h3] at h6; injection h6 with h6; subst h6
    split at h11
    · rename_i hag
      subst hag
      split at h11
      · rename_i hle
        refine quiet_ok H h11 (eval_v hex ?_) (part_ok h9 h10 off i.size hle)
        rw [h4]
        have := load_run (w := w) hi hg h8 (off := off) (fun _ => by omega) (fun h => by cases h)
        simpa using this
      · exact (run_fail_ h11).elim
    · rename_i hag
      simp at hag
      subst hag
      obtain ⟨v, h12, h13⟩ := optK_ok h11
      have hlt : off < vs.size := by rw [← h9]; exact (List.getElem?_eq_some_iff.1 h12).1
      refine quiet_ok H h13 (v := vs[off]) (eval_v hex ?_) (h10 off v _ h12 (Array.getElem?_eq_getElem hlt))
      rw [h4]
      have := load_run (w := w) hi hg h8 (off := off) (fun h => by cases h) (fun _ => hlt)
      simpa [hlt] using this
  · rename_i xs ix off
    obtain ⟨b, base, s', cap, h3, h4, h5, h6⟩ := h2.fpV
    split at h1
    · rename_i cs hcs
      obtain ⟨U, h9, h10⟩ := optK_ok h1
      obtain ⟨s'', c, ty, z, h11, h12, h13, h14⟩ := h3.at hcs
      have : s'' = s' := by rw [← h13 _ _ hcs, h5 _ _ hcs]
      subst this
      obtain ⟨v, h15, h16⟩ := ldN_ok (fz := true) hi hg h0 h12 (by simpa using h14) h9
      exact quiet_ok H h10 (eval_v hex (by rw [h6]; exact h15)) h16
    · exact (run_fail_ h1).elim
  · exact (run_fail_ h1).elim
end
end Go.Pv

set_option linter.unusedSimpArgs false
set_option linter.unusedVariables false
namespace Go.Pv
variable {α : Type} {w0 : World} {mine : Mine} {N : Nat} {pb : List Nat} {gh : Gh} {s : St} {a : Act} {w : World} {g : Ora} {r : α × St} {P : Program} {own : Nat → Nat → Mode}

/-! ### what was taken out is put back -/
theorem OR.noRf {sh : BSet} {h : Array Obj} {v : V} {x : Value} {F : BSet} (H : OR sh h v x F) : isRf v = false := by cases H <;> rfl
section
variable [Glb]
theorem fillC_ok : ∀ (cs : List V) (gh : Gh) (s : St) (k : List V → M α), Inv w0 mine N pb gh s a w → (fillC cs k).run g s = some r →
    ∃ gh' s' cs', ∃ G : Nat → BSet, (k cs').run g s' = some r ∧ Inv w0 mine N pb gh' s' a w ∧ gh'.sh = gh.sh ∧ gh'.ai = gh.ai ∧ gh'.bi = gh.bi ∧ (∀ x q, gh'.own x = some q → gh.own x = some q) ∧ cs'.length = cs.length ∧
      (∀ (j : Nat) (v : V), cs[j]? = some v → isRf v = false → cs'[j]? = some v) ∧
      (∀ (j : Nat) (v : V) (x : Value), cs[j]? = some v → isRf v = true → RT gh w.heap v x → ∃ v', cs'[j]? = some v' ∧ OR gh.sh w.heap v' x (G j)) ∧
      (∀ j y, G j y → gh'.own y = none ∧ ∃ m, gh.own y = some (.a m)) ∧ (∀ j j' y, G j y → G j' y → j = j')
  | [], gh, s, k, H, h => ⟨gh, s, [], fun _ => noB, h, H, rfl, rfl, rfl, fun _ _ h => h, rfl, fun j v hv => by simp at hv, fun j v x hv => by simp at hv, fun _ _ h => h.elim, fun _ _ _ h => h.elim⟩
  | v :: l, gh, s, k, H, h => by
    by_cases hv : isRf v = true
    · cases v with
      | rf m off len =>
        simp only [fillC] at h
        obtain ⟨fz, ys, ai, e1, e2, e3, e4⟩ := rdA_ok H h
        obtain ⟨hc, e5⟩ := chk_ok e4
        simp only [Bool.and_eq_true, decide_eq_true_eq, Bool.not_eq_true'] at hc
        obtain ⟨⟨hoff, hlen⟩, hfz⟩ := hc
        subst hfz
        simp only [M.run] at e5
        have K := H.kill e2
        obtain ⟨gh', s', cs', G, q1, q2, q3, q4, q5, q6, q7, q8, q9, q10, q11⟩ := fillC_ok l (gh.kill m) _ _ K e5
        have ksub : ∀ x q, (gh.kill m).own x = some q → gh.own x = some q := by
          intro x q hx
          simp only [Gh.kill] at hx
          split at hx
          · cases hx
          · exact hx
        have hk0 : ∀ y, gh.own y = some (.a m) → gh'.own y = none := by
          intro y hy
          cases h9 : gh'.own y with
          | none => rfl
          | some q =>
            have := q6 y q h9
            simp [Gh.kill, hy] at this
        obtain ⟨G0, hG0⟩ : ∃ G0 : BSet, (∀ y, G0 y → gh.own y = some (.a m)) ∧ ∀ x, RT gh w.heap (.rf m off len) x → OR gh.sh w.heap (.ls true ys) x G0 := by
          by_cases hys : ys = []
          · subst hys
            refine ⟨noB, fun _ h => h.elim, fun x hx => ?_⟩
            obtain ⟨ai', A, c, p1, p2, p3, p4, p5⟩ := hx.rfV
            rw [p1] at e2; injection e2 with e2; subst e2
            have hcap : ai'.cap = 0 := by
              rcases e3 with ⟨_, h0, _⟩ | ⟨h1, _⟩
              · exact h0
              · generalize hX : Value.slice (some ⟨ai'.b, ai'.base, none⟩) ([] : List (List V)).length ai'.cap = X at h1
                cases h1 with
                | nil A' _ e => injection hX with q1 q2 q3
                | own _ b base s cap' c t f Fs _ h0 => exact absurd rfl h0
            have : c = 0 := by omega
            subst this
            simp at hlen
            subst hlen
            rw [p5]
            exact .nil A noB fun _ h => h
          · by_cases hex : ∃ x, RT gh w.heap (.rf m off len) x
            · refine ⟨fun y => gh.own y = some (.a m) ∧ ∃ x, RT gh w.heap (.rf m off len) x, fun y h => h.1, fun x hx => ?_⟩
              have hFe : (fun y => gh.own y = some (.a m) ∧ ∃ x, RT gh w.heap (.rf m off len) x) = fun y => gh.own y = some (.a m) := funext fun y => propext ⟨fun h => h.1, fun h => ⟨h, hex⟩⟩
              rw [hFe]
              obtain ⟨ai', A, c, p1, p2, p3, p4, p5⟩ := hx.rfV
              rw [p1] at e2; injection e2 with e2; subst e2
              obtain ⟨cl, t, f, Fs, R⟩ := RowOk.orow e3 hys
              have hc0 : c ≠ 0 := by have := List.length_pos_iff.2 hys; omega
              have hA := p4.resolve_left hc0
              rw [hoff] at hA
              simp only [Nat.zero_mul, Nat.add_zero] at hA
              rw [p5, hA, hlen]
              have hroom : ai'.base + c * ai'.s ≤ cl.size := by
                calc ai'.base + c * ai'.s ≤ ai'.base + ai'.cap * ai'.s := Nat.add_le_add_left (Nat.mul_le_mul_right _ (by omega)) _
                  _ ≤ cl.size := R.room
              have R' : ORow gh.sh w.heap ys ai'.b ai'.base ai'.s c cl t f Fs (fun y => gh.own y = some (.a m)) := { R with le := by omega, room := hroom }
              exact R'.or
            · exact ⟨noB, fun _ h => h.elim, fun x hx => absurd ⟨x, hx⟩ hex⟩
        refine ⟨gh', s', .ls true ys :: cs', fun j => match j with | 0 => G0 | j + 1 => G j, q1, q2, q3, q4, q5, fun x q hx => ksub x q (q6 x q hx), by simp [q7], ?_, ?_, ?_, ?_⟩
        · intro j u hu hr
          cases j with
          | zero => simp at hu; subst hu; cases hr
          | succ j => simpa using q8 j u (by simpa using hu) hr
        · intro j u x hu hr hx
          cases j with
          | zero => simp at hu; subst hu; exact ⟨_, rfl, hG0.2 x hx⟩
          | succ j =>
            obtain ⟨v', z1, z2⟩ := q9 j u x (by simpa using hu) hr (RT.congr (gh := gh) (gh' := gh.kill m) rfl rfl rfl hx)
            exact ⟨v', by simpa using z1, z2⟩
        · intro j y hy
          cases j with
          | zero => exact ⟨hk0 y (hG0.1 y hy), m, hG0.1 y hy⟩
          | succ j =>
            obtain ⟨z1, m', z2⟩ := q10 j y hy
            exact ⟨z1, m', ksub _ _ z2⟩
        · intro j j' y hy hy'
          cases j with
          | zero =>
            cases j' with
            | zero => rfl
            | succ j' =>
              exfalso
              obtain ⟨_, m', z2⟩ := q10 j' y hy'
              simp [Gh.kill, hG0.1 y hy] at z2
          | succ j =>
            cases j' with
            | zero =>
              exfalso
              obtain ⟨_, m', z2⟩ := q10 j y hy
              simp [Gh.kill, hG0.1 y hy'] at z2
            | succ j' => rw [q11 j j' y hy hy']
      | _ => cases hv
    · simp only [Bool.not_eq_true] at hv
      have h' : (fillC l fun l' => k (v :: l')).run g s = some r := by
        cases v <;> first | exact h | cases hv
      obtain ⟨gh', s', cs', G, q1, q2, q3, q4, q5, q6, q7, q8, q9, q10, q11⟩ := fillC_ok l gh s _ H h'
      refine ⟨gh', s', v :: cs', fun j => match j with | 0 => noB | j + 1 => G j, q1, q2, q3, q4, q5, q6, by simp [q7], ?_, ?_, ?_, ?_⟩
      · intro j u hu hr
        cases j with
        | zero => simpa using hu
        | succ j => simpa using q8 j u (by simpa using hu) hr
      · intro j u x hu hr hx
        cases j with
        | zero => simp at hu; subst hu; rw [hv] at hr; cases hr
        | succ j => simpa using q9 j u x (by simpa using hu) hr hx
      · intro j y hy
        cases j with
        | zero => exact hy.elim
        | succ j => exact q10 j y hy
      · intro j j' y hy hy'
        cases j with
        | zero => exact hy.elim
        | succ j =>
          cases j' with
          | zero => exact hy'.elim
          | succ j' => rw [q11 j j' y hy hy']
theorem fillX_ok : ∀ (xs : List (List V)) (gh : Gh) (s : St) (k : List (List V) → M α), Inv w0 mine N pb gh s a w → (fillX xs k).run g s = some r →
    ∃ gh' s' xs', ∃ G : Nat → Nat → BSet, (k xs').run g s' = some r ∧ Inv w0 mine N pb gh' s' a w ∧ gh'.sh = gh.sh ∧ gh'.ai = gh.ai ∧ gh'.bi = gh.bi ∧ (∀ x q, gh'.own x = some q → gh.own x = some q) ∧ xs'.length = xs.length ∧
      (∀ (i : Nat) (cs' : List V), xs'[i]? = some cs' → ∃ cs, xs[i]? = some cs ∧ cs'.length = cs.length ∧ (∀ (j : Nat) (v : V), cs[j]? = some v → isRf v = false → cs'[j]? = some v) ∧
        (∀ (j : Nat) (v : V) (x : Value), cs[j]? = some v → isRf v = true → RT gh w.heap v x → ∃ v', cs'[j]? = some v' ∧ OR gh.sh w.heap v' x (G i j))) ∧
      (∀ i j y, G i j y → gh'.own y = none ∧ ∃ m, gh.own y = some (.a m)) ∧ (∀ i j i' j' y, G i j y → G i' j' y → i = i' ∧ j = j')
  | [], gh, s, k, H, h => ⟨gh, s, [], fun _ _ => noB, h, H, rfl, rfl, rfl, fun _ _ h => h, rfl, fun j v hv => by simp at hv, fun _ _ _ h => h.elim, fun _ _ _ _ _ h => h.elim⟩
  | cs :: l, gh, s, k, H, h => by
    simp only [fillX] at h
    obtain ⟨gh1, s1, cs1, G1, p1, p2, p3, p4, p5, p6, p7, p8, p9, p10, p11⟩ := fillC_ok cs gh s _ H h
    obtain ⟨gh', s', xs', G, q1, q2, q3, q4, q5, q6, q7, q8, q9, q10⟩ := fillX_ok l gh1 s1 _ p2 p1
    refine ⟨gh', s', cs1 :: xs', fun i j => match i with | 0 => G1 j | i + 1 => G i j, q1, q2, q3.trans p3, q4.trans p4, q5.trans p5, fun x q hx => p6 x q (q6 x q hx), by simp [q7], ?_, ?_, ?_⟩
    · intro i cs' hi
      cases i with
      | zero => simp at hi; subst hi; exact ⟨cs, rfl, p7, p8, p9⟩
      | succ i =>
        obtain ⟨cs0, z1, z2, z3, z4⟩ := q8 i cs' (by simpa using hi)
        refine ⟨cs0, by simpa using z1, z2, z3, fun j v x hv hr hx => ?_⟩
        have := z4 j v x hv hr (RT.congr (gh := gh) (gh' := gh1) p3 p4 p5 hx)
        rw [p3] at this
        exact this
    · intro i j y hy
      cases i with
      | zero =>
        obtain ⟨z1, z2⟩ := p10 j y hy
        refine ⟨?_, z2⟩
        cases h9 : gh'.own y with
        | none => rfl
        | some q => have := q6 y q h9; rw [z1] at this; cases this
      | succ i =>
        obtain ⟨z1, m, z2⟩ := q9 i j y hy
        exact ⟨z1, m, p6 _ _ z2⟩
    · intro i j i' j' y hy hy'
      cases i with
      | zero =>
        cases i' with
        | zero => exact ⟨rfl, p11 j j' y hy hy'⟩
        | succ i' =>
          exfalso
          obtain ⟨z1, _⟩ := p10 j y hy
          obtain ⟨_, m, z2⟩ := q9 i' j' y hy'
          rw [z1] at z2; cases z2
      | succ i =>
        cases i' with
        | zero =>
          exfalso
          obtain ⟨z1, _⟩ := p10 j' y hy'
          obtain ⟨_, m, z2⟩ := q9 i j y hy
          rw [z1] at z2; cases z2
        | succ i' =>
          obtain ⟨z1, z2⟩ := q10 i j i' j' y hy hy'
          exact ⟨by rw [z1], z2⟩
open Classical in
theorem fillA_ok : ∀ (n : Nat) (l : List Nat) (gh : Gh) (s : St) (k : M α), Inv w0 mine N pb gh s a w → (fillA n l k).run g s = some r →
    ∃ gh' s', k.run g s' = some r ∧ Inv w0 mine N pb gh' s' a w ∧ gh'.sh = gh.sh ∧ gh'.ai = gh.ai ∧ gh'.bi = gh.bi
  | 0, l, gh, s, k, H, h => ⟨gh, s, h, H, rfl, rfl, rfl⟩
  | n + 1, [], gh, s, k, H, h => ⟨gh, s, h, H, rfl, rfl, rfl⟩
  | n + 1, b :: l, gh, s, k, H, h => by
    simp only [fillA, M.run] at h
    split at h
    · obtain ⟨gh1, s1, h1, H1, p3, p4, p5⟩ := fillA_ok n _ gh s _ H h
      simp only [M.run] at h1
      split at h1
      · rename_i xs hl
        obtain ⟨ai, e1, c, t, f, Fs, R⟩ := H1.ar b _ (by simpa [St.get] using hl)
        have K := H1.kill e1
        simp only [M.run] at h1
        obtain ⟨gh2, s2, xs', G, q1, q2, q3, q4, q5, q6, q7, q8, q9, q10⟩ := fillX_ok xs (gh1.kill b) _ _ K h1
        simp only [M.run] at q1
        have hko : ∀ y, gh1.own y = some (.a b) → gh2.own y = none := by
          intro y hy
          cases h9 : gh2.own y with
          | none => rfl
          | some q => have := q6 y q h9; simp [Gh.kill, hy] at this
        have hGo : ∀ {i j y}, G i j y → gh2.own y = none ∧ ∃ m, gh1.own y = some (.a m) ∧ m ≠ b := by
          intro i j y hy
          obtain ⟨z1, m, z2⟩ := q9 i j y hy
          refine ⟨z1, m, ?_⟩
          simp only [Gh.kill] at z2
          split at z2
          · cases z2
          · rename_i hne
            exact ⟨z2, fun e => hne (by rw [z2, e])⟩
        obtain ⟨Rf, hRf⟩ : ∃ Rf : Nat → Nat → Prop, ∀ i j, Rf i j ↔ ∃ cs v, xs[i]? = some cs ∧ cs[j]? = some v ∧ isRf v = true := ⟨fun i j => ∃ cs v, xs[i]? = some cs ∧ cs[j]? = some v ∧ isRf v = true, fun _ _ => Iff.rfl⟩
        obtain ⟨F2, hF2⟩ : ∃ F2 : Nat → Nat → BSet, ∀ i j, F2 i j = if Rf i j then G i j else Fs i j := ⟨fun i j => if Rf i j then G i j else Fs i j, fun _ _ => rfl⟩
        have hF2' : ∀ {i j y}, F2 i j y → G i j y ∨ Fs i j y := by
          intro i j y hy
          rw [hF2] at hy
          split at hy
          · exact .inl hy
          · exact .inr hy
        have hxne : xs' ≠ [] := by intro h0; rw [h0] at q7; exact R.ne (List.eq_nil_of_length_eq_zero q7.symm)
        have hok : ∀ i j y, i < xs.length → j < ai.s → F2 i j y → gh2.own y = none ∧ (∃ m, gh1.own y = some (.a m)) ∧ y ≠ ai.b := by
          intro i j y hi hj hy
          rcases hF2' hy with hy | hy
          · obtain ⟨z1, m, z2, z3⟩ := hGo hy
            refine ⟨z1, ⟨m, z2⟩, fun e => ?_⟩
            rw [e, R.fb] at z2; injection z2 with z2; injection z2 with z2; exact z3 z2.symm
          · obtain ⟨z1, z2⟩ := R.sub i j y hi hj hy
            exact ⟨hko y z1, ⟨b, z1⟩, z2⟩
        have R2 : ORow gh2.sh w.heap xs' ai.b ai.base ai.s ai.cap c t f F2 (fun y => y = ai.b ∨ ∃ i j, i < xs.length ∧ j < ai.s ∧ F2 i j y) := by
          refine ⟨hxne, R.blk, by rw [q7]; exact R.le, R.room, ?_, ?_, ?_, ?_, .inl rfl, ?_, ?_, ?_⟩
          · intro i cs' hi
            obtain ⟨cs, z1, z2, _⟩ := q8 i cs' hi
            rw [z2]; exact R.len i cs z1
          · intro i cs' j v hi hj
            obtain ⟨cs, z1, z2, _⟩ := q8 i cs' hi
            have hjl := (List.getElem?_eq_some_iff.1 hj).1
            exact R.cell i cs j _ z1 (List.getElem?_eq_getElem (by omega))
          · intro i cs' j v hi hj
            obtain ⟨cs, z1, z2, z3, z4⟩ := q8 i cs' hi
            have hjl := (List.getElem?_eq_some_iff.1 hj).1
            have hu := List.getElem?_eq_getElem (l := cs) (i := j) (by omega)
            have hel := R.el i cs j _ z1 hu
            have hsh : gh2.sh = gh1.sh := q3
            rw [hsh]
            rw [hF2]
            by_cases hr : isRf cs[j] = true
            · rw [if_pos ((hRf i j).2 ⟨cs, _, z1, hu, hr⟩)]
              rcases hel with hel | ⟨_, hel, _⟩
              · rw [hel.noRf] at hr; cases hr
              · obtain ⟨v', y1, y2⟩ := z4 j _ _ hu hr (RT.congr (gh := gh1) (gh' := gh1.kill b) rfl rfl rfl hel)
                rw [y1] at hj; injection hj with hj; subst hj
                exact y2
            · simp only [Bool.not_eq_true] at hr
              rw [if_neg (fun hh => by
                obtain ⟨cs1, v1, y1, y2, y3⟩ := (hRf i j).1 hh
                rw [z1] at y1; injection y1 with y1; subst y1
                rw [hu] at y2; injection y2 with y2; subst y2
                rw [hr] at y3; cases y3)]
              have := z3 j _ hu hr
              rw [this] at hj; injection hj with hj; subst hj
              rcases hel with hel | ⟨hel, _, _⟩
              · exact hel
              · rw [hr] at hel; cases hel
          · show ¬ gh2.sh ai.b
            rw [show gh2.sh = gh1.sh from q3]
            exact (H1.own _ _ R.fb).1
          · intro i j y hi hj hy
            rw [q7] at hi
            exact ⟨.inr ⟨i, j, hi, hj, hy⟩, (hok i j y hi hj hy).2.2⟩
          · intro i j i' j' y hi hj hi' hj' hy hy'
            rw [q7] at hi hi'
            rcases hF2' hy with z | z
            · rcases hF2' hy' with z' | z'
              · exact q10 i j i' j' y z z'
              · exfalso
                obtain ⟨_, m, z2, z3⟩ := hGo z
                rw [(R.sub i' j' y hi' hj' z').1] at z2; injection z2 with z2; injection z2 with z2; exact z3 z2.symm
            · rcases hF2' hy' with z' | z'
              · exfalso
                obtain ⟨_, m, z2, z3⟩ := hGo z'
                rw [(R.sub i j y hi hj z).1] at z2; injection z2 with z2; injection z2 with z2; exact z3 z2.symm
              · exact R.inj i j i' j' y hi hj hi' hj' z z'
          · intro y hy; rw [q7]; exact hy
        have hai2 : gh2.ai b = some ai := by rw [show gh2.ai = gh1.ai from q4]; exact e1
        have I3 := q2.setA (n := b) (ai := ai) (F := fun y => y = ai.b ∨ ∃ i j, i < xs.length ∧ j < ai.s ∧ F2 i j y) (xs := xs') (.inr hai2) (by
          intro y hy
          have hh : gh2.own y = none ∧ ∃ m, gh1.own y = some (.a m) := by
            rcases hy with rfl | ⟨i, j, hi, hj, hy⟩
            · exact ⟨hko _ R.fb, b, R.fb⟩
            · exact ⟨(hok i j y hi hj hy).1, (hok i j y hi hj hy).2.1⟩
          obtain ⟨z1, m, z2⟩ := hh
          have := H1.own y _ z2
          exact ⟨.inl z1, by rw [show gh2.sh = gh1.sh from q3]; exact this.1, this.2⟩) (fun _ _ _ => rfl) (Nat.le_refl _) rfl rfl rfl (.inr R2.rowOk)
        obtain ⟨gh', s', z1, z2, z3, z4, z5⟩ := fillA_ok n l _ _ k I3 q1
        refine ⟨gh', s', z1, z2, ?_, ?_, ?_⟩
        · rw [z3]; exact q3.trans p3
        · rw [z4]
          have : (gh2.setA b ai fun y => y = ai.b ∨ ∃ i j, i < xs.length ∧ j < ai.s ∧ F2 i j y).ai = gh2.ai := by
            funext y
            simp only [Gh.setA]
            split
            · rename_i e; subst e; exact hai2.symm
            · rfl
          rw [this]; exact q4.trans p4
        · rw [z5]; exact q5.trans p5
      · exact (run_fail_ h1).elim
    · exact fillA_ok n l gh s k H h
theorem fillB_ok : ∀ (n : Nat) (l done : List Nat) (gh : Gh) (s : St) (k : M α), Inv w0 mine N pb gh s a w → (fillB n l done k).run g s = some r →
    ∃ gh' s', k.run g s' = some r ∧ Inv w0 mine N pb gh' s' a w ∧ gh'.sh = gh.sh ∧ gh'.ai = gh.ai ∧ gh'.bi = gh.bi
  | 0, l, done, gh, s, k, H, h => ⟨gh, s, h, H, rfl, rfl, rfl⟩
  | n + 1, [], done, gh, s, k, H, h => ⟨gh, s, h, H, rfl, rfl, rfl⟩
  | n + 1, b :: l, done, gh, s, k, H, h => by
    simp only [fillB] at h
    split at h
    · exact fillB_ok n l done gh s k H h
    · simp only [M.run] at h
      split at h
      · obtain ⟨gh1, s1, h1, H1, p3, p4, p5⟩ := fillA_ok 40 _ gh s _ H h
        obtain ⟨gh', s', z1, z2, z3, z4, z5⟩ := fillB_ok n _ _ gh1 s1 k H1 h1
        exact ⟨gh', s', z1, z2, z3.trans p3, z4.trans p4, z5.trans p5⟩
      · exact fillB_ok n _ _ gh s k H h
theorem fillV_ok {vs : List V} {k : M α} (H : Inv w0 mine N pb gh s a w) (h : (fillV vs k).run g s = some r) :
    ∃ gh' s', k.run g s' = some r ∧ Inv w0 mine N pb gh' s' a w ∧ gh'.sh = gh.sh ∧ gh'.ai = gh.ai ∧ gh'.bi = gh.bi := by
  obtain ⟨gh1, s1, h1, H1, p3, p4, p5⟩ := fillA_ok 40 _ gh s _ H h
  obtain ⟨gh', s', z1, z2, z3, z4, z5⟩ := fillB_ok 20 _ _ gh1 s1 k H1 h1
  exact ⟨gh', s', z1, z2, z3.trans p3, z4.trans p4, z5.trans p5⟩
end
end Go.Pv

set_option linter.unusedSimpArgs false
set_option linter.unusedVariables false
namespace Go.Pv
variable {α : Type} {w0 : World} {mine : Mine} {N : Nat} {pb : List Nat} {gh : Gh} {s : St} {a : Act} {w : World} {g : Ora} {r : α × St} {P : Program} {own : Nat → Nat → Mode}

section
variable [Glb]
theorem back_ok {nm : Nat → Nat} {bi : Nat → Option Nat} : ∀ (cs : List Cell) (bs bls : List Nat) (Gs : List (List BSet)) (n : Nat) (gh : Gh) (s : St) (k : M α), Inv w0 mine N pb gh s a w → bs.length = cs.length → bls.length = cs.length → Gs.length = cs.length →
    (∀ i c, bi i = some c → gh.bi (nm i) = some c) → (∀ (j n b : Nat), bs[j]? = some n → bls[j]? = some b → gh.bi n = some b ∧ gh.own b = some (.b n)) →
    (∀ (j b : Nat) (c : Cell) (G : List BSet), bls[j]? = some b → cs[j]? = some c → Gs[j]? = some G → BoxX gh.sh w.heap bi b c G) →
    Gs.flatten.Pairwise Disj → (∀ F ∈ Gs.flatten, ∀ y, F y → gh.own y = none ∧ (y < w0.heap.size → mine y)) →
    (back bs (cs.map (renC nm)) n k).run g s = some r →
    ∃ gh' s', k.run g s' = some r ∧ Inv w0 mine N pb gh' s' a w ∧ gh'.sh = gh.sh ∧ (∀ n x, gh.ai n = some x → gh'.ai n = some x) ∧ (∀ n x, gh.bi n = some x → gh'.bi n = some x)
  | [], [], bls, Gs, n, gh, s, k, H, l1, l2, l3, hb, ho, hx, hd, hf, h => ⟨gh, s, h, H, rfl, fun _ _ h => h, fun _ _ h => h⟩
  | [], _ :: _, bls, Gs, n, gh, s, k, H, l1, l2, l3, hb, ho, hx, hd, hf, h => by simp at l1
  | _ :: _, [], bls, Gs, n, gh, s, k, H, l1, l2, l3, hb, ho, hx, hd, hf, h => by simp at l1
  | _ :: _, _ :: _, [], Gs, n, gh, s, k, H, l1, l2, l3, hb, ho, hx, hd, hf, h => by simp at l2
  | _ :: _, _ :: _, _ :: _, [], n, gh, s, k, H, l1, l2, l3, hb, ho, hx, hd, hf, h => by simp at l3
  | c :: cs, m :: bs, b :: bls, G :: Gs, n, gh, s, k, H, l1, l2, l3, hb, ho, hx, hd, hf, h => by
    obtain ⟨o1, o2⟩ := ho 0 m b rfl rfl
    have x0 := hx 0 b c G rfl rfl rfl
    simp only [List.flatten_cons] at hd hf
    obtain ⟨d1, d2, d3⟩ := List.pairwise_append.1 hd
    cases c with
    | b vs =>
      obtain ⟨vals, t, z1, z2⟩ := x0
      simp only [List.map_cons, renC, back] at h
      obtain ⟨xs, i1, i2, i3⟩ := impL_ok (nm := nm) vs vals.toList G n z2
      obtain ⟨gh1, s1, e1, e2, e3, e4, e5, e6, e7, e8⟩ := wrAs_ok _ xs G gh s _ H i1 d1 (fun F hF => hf F (List.mem_append_left _ hF)) h
      have hb1 : gh1.bi m = some b := by rw [e4]; exact o1
      have ho1 : gh1.own b = some (.b m) := e8 _ _ o2
      have I := e2.setB (n := m) (b := b) (c := .b (impL (renBL nm vs) n).1) (w' := w) (.inr ⟨hb1, ho1⟩) (fun _ _ _ => rfl) (Nat.le_refl _) (H.own _ _ o2).2.1 rfl rfl rfl
        ⟨vals, t, z1, by simpa using i2, fun i c v hc hv => setB_mono (.inr hb1) (fun _ _ => rfl) (i3 gh1 e3 (fun i c hc => by rw [e4]; exact hb i c hc) e6 i c v hc (by simpa using hv))⟩
      have hbi : ∀ q x, gh1.bi q = some x → (gh1.setB m b).bi q = some x := by
        intro q x hq
        simp only [Gh.setB]
        split
        · rename_i e; subst e; rw [hb1] at hq; injection hq with hq; rw [hq]
        · exact hq
      have hown : ∀ y, y ≠ b → (gh1.setB m b).own y = gh1.own y := fun y hy => by simp [Gh.setB, hy]
      obtain ⟨gh2, s2, f1, f2, f3, f4, f5⟩ := back_ok cs bs bls Gs (impL (renBL nm vs) n).2.1 (gh1.setB m b) _ k I (by simpa using l1) (by simpa using l2) (by simpa using l3)
        (fun i c hc => hbi _ _ (by rw [e4]; exact hb i c hc)) (fun j q b' hq hb' => by
          obtain ⟨p1, p2⟩ := ho (j + 1) q b' (by simpa using hq) (by simpa using hb')
          refine ⟨hbi _ _ (by rw [e4]; exact p1), ?_⟩
          by_cases hbb : b' = b
          · subst hbb; rw [o2] at p2; injection p2 with p2; injection p2 with p2; subst p2; simp [Gh.setB]
          · rw [hown _ hbb]; exact e8 _ _ p2)
        (fun j b' c' G' h1 h2 h3 => by
          have := hx (j + 1) b' c' G' (by simpa using h1) (by simpa using h2) (by simpa using h3)
          rw [← e3] at this
          exact this) d2 (fun F hF y hy => by
          obtain ⟨p1, p2⟩ := hf F (List.mem_append_right _ hF) y hy
          refine ⟨?_, p2⟩
          have hne : y ≠ b := by rintro rfl; rw [o2] at p1; cases p1
          rw [hown _ hne]
          cases h9 : gh1.own y with
          | none => rfl
          | some q =>
            rcases e7 y q h9 with h8 | ⟨F', h7, h8⟩
            · rw [p1] at h8; cases h8
            · exact absurd hy (d3 F' h7 F hF y h8)) (by simpa only [M.run] using e1)
      exact ⟨gh2, s2, f1, f2, by rw [f3]; exact e3, fun q x hq => f4 _ _ (e5 _ _ hq), fun q x hq => f5 _ _ (hbi _ _ (by rw [e4]; exact hq))⟩
    | m es =>
      obtain ⟨z1, rfl⟩ := x0
      simp only [List.map_cons, renC, back] at h
      have I := H.setB (n := m) (b := b) (c := .m es) (w' := w) (.inr ⟨o1, o2⟩) (fun _ _ _ => rfl) (Nat.le_refl _) (H.own _ _ o2).2.1 rfl rfl rfl z1
      have hbi : ∀ q x, gh.bi q = some x → (gh.setB m b).bi q = some x := by
        intro q x hq
        simp only [Gh.setB]
        split
        · rename_i e; subst e; rw [o1] at hq; injection hq with hq; rw [hq]
        · exact hq
      have hown : ∀ y, y ≠ b → (gh.setB m b).own y = gh.own y := fun y hy => by simp [Gh.setB, hy]
      obtain ⟨gh2, s2, f1, f2, f3, f4, f5⟩ := back_ok cs bs bls Gs n (gh.setB m b) _ k I (by simpa using l1) (by simpa using l2) (by simpa using l3)
        (fun i c hc => hbi _ _ (hb i c hc)) (fun j q b' hq hb' => by
          obtain ⟨p1, p2⟩ := ho (j + 1) q b' (by simpa using hq) (by simpa using hb')
          refine ⟨hbi _ _ p1, ?_⟩
          by_cases hbb : b' = b
          · subst hbb; rw [o2] at p2; injection p2 with p2; injection p2 with p2; subst p2; simp [Gh.setB]
          · rw [hown _ hbb]; exact p2)
        (fun j b' c' G' h1 h2 h3 => hx (j + 1) b' c' G' (by simpa using h1) (by simpa using h2) (by simpa using h3)) d2 (fun F hF y hy => by
          obtain ⟨p1, p2⟩ := hf F (List.mem_append_right _ hF) y hy
          refine ⟨?_, p2⟩
          have hne : y ≠ b := by rintro rfl; rw [o2] at p1; cases p1
          rw [hown _ hne]; exact p1) (by simpa only [M.run] using h)
      exact ⟨gh2, s2, f1, f2, f3, f4, fun q x hq => f5 _ _ (hbi _ _ hq)⟩
    | _ => exact x0.elim
end
theorem idxOf_get : ∀ {D : List Nat} {b : Nat}, b ∈ D → D[idxOf D b]? = some b
  | [], b, h => by cases h
  | y :: D, b, h => by
    simp only [idxOf]
    split
    · rename_i e; subst e; rfl
    · rename_i e
      rcases List.mem_cons.1 h with h | h
      · exact absurd h.symm e
      · simpa using idxOf_get h
theorem Calls.mono' {f : FuncId} {args : Array Value} {R R' : Ending → World → Prop} (h : Calls P f args w R) (hr : ∀ e w', R e w' → R' e w') : Calls P f args w R' :=
  fun cs => let ⟨e, w', fr, q, r⟩ := h cs; ⟨e, w', fr, hr _ _ q, r⟩
end Go.Pv

set_option linter.unusedSimpArgs false
set_option linter.unusedVariables false
namespace Go.Pv
variable {α : Type} {w0 : World} {mine : Mine} {N : Nat} {pb : List Nat} {gh : Gh} {s : St} {a : Act} {w : World} {g : Ora} {r : α × St} {P : Program} {own : Nat → Nat → Mode}

theorem BoxX.heldC {sh sh0 : BSet} {h : Array Obj} {bi : Nat → Option Nat} : ∀ {cs : List Cell}, hasFzC cs = false → ∀ {j b : Nat} {c : Cell} {G : List BSet}, cs[j]? = some c → BoxX sh h bi b c G → (∀ F ∈ G, ∀ y, F y → ¬ sh0 y) → BoxX sh0 h bi b c G
  | [], _, j, b, c, G, hj, _, _ => by simp at hj
  | x :: cs, hc, 0, b, c, G, hj, H, hF => by
    simp at hj; subst hj
    refine H.held ?_ hF
    cases x <;> simp [hasFzC] at hc ⊢
    exact hc.1
  | x :: cs, hc, j + 1, b, c, G, hj, H, hF => by
    refine BoxX.heldC (cs := cs) ?_ (by simpa using hj) H hF
    cases x <;> simp [hasFzC] at hc ⊢
    all_goals first | exact hc | exact hc.2
section
variable [Glb]
theorem ret_ok (H : Inv w0 mine N pb gh s a w) {D bl shown : List Nat} {Fs : List BSet} {Gs : List (List BSet)} {d : Nat} {vs : List V} {hz : Bool} {cs' : List Cell} {xs : List Value} {w' : World} {k : List V → M α}
    (hl : bl.length = D.length) (hD : ∀ (j b bb : Nat), D[j]? = some b → bl[j]? = some bb → gh.bi b = some bb ∧ gh.own bb = some (.b b) ∧ look s.bx b = some .dead)
    (hF : ∀ F ∈ Fs ++ Gs.flatten, ∀ y, F y → gh.own y = none ∧ ¬ gh.sh y ∧ (y < w0.heap.size → mine y))
    (hp : CallPost w (mineOf Fs Gs bl) (fun y => gh.sh y ∨ ∃ n ∈ shown, gh.own y = some (.a n)) bl vs cs' xs w') (hhz : hz = false → hasFzL vs = false ∧ hasFzC cs' = false)
    (h : (freezeA (if hz then shown else []) (newBs ((List.range (cs'.length - D.length)).map fun j => d + j)
      (wrAs (impL (renBL (fun i => (D ++ (List.range (cs'.length - D.length)).map fun j => d + j).getD i 0) vs) d).2.2
        (back (D ++ (List.range (cs'.length - D.length)).map fun j => d + j) (cs'.map (renC (fun i => (D ++ (List.range (cs'.length - D.length)).map fun j => d + j).getD i 0)))
          (impL (renBL (fun i => (D ++ (List.range (cs'.length - D.length)).map fun j => d + j).getD i 0) vs) d).2.1 (k (impL (renBL (fun i => (D ++ (List.range (cs'.length - D.length)).map fun j => d + j).getD i 0) vs) d).1))))).run g s = some r) :
    ∃ gh' s' Vs, (k Vs).run g s' = some r ∧ Inv w0 mine N pb gh' s' a w' ∧ Vs.length = xs.length ∧ (∀ n z, gh.ai n = some z → gh'.ai n = some z) ∧ ∀ (i : Nat) (c : V) (v : Value), Vs[i]? = some c → xs[i]? = some v → RT gh' w'.heap c v := by
  obtain ⟨hfrm, sh', Fs', new, Gs', G, hsub, hnew⟩ := hp
  have hblD : ∀ y ∈ bl, ∃ b, gh.own y = some (.b b) ∧ look s.bx b = some .dead := by
    intro y hy
    obtain ⟨j, hj, rfl⟩ := List.mem_iff_getElem.1 hy
    have h1 := List.getElem?_eq_getElem (l := D) (i := j) (by omega)
    obtain ⟨_, h2, h3⟩ := hD j _ _ h1 (List.getElem?_eq_getElem hj)
    exact ⟨_, h2, h3⟩
  have hm : ∀ y, mineOf Fs Gs bl y → (gh.own y = none ∧ ¬ gh.sh y ∧ (y < w0.heap.size → mine y)) ∨ ∃ n, gh.own y = some (.b n) ∧ look s.bx n = some .dead := by
    rintro y (⟨F, h1, h2⟩ | h1)
    · exact .inl (hF F h1 y h2)
    · exact .inr (hblD y h1)
  have H1 : Inv w0 mine N pb gh s a w' := H.call hfrm hm
  -- what is new to us
  have fresh : ∀ y, y ∉ bl → ¬ sh' y → (mineOf Fs Gs bl y ∨ w.heap.size ≤ y) → gh.own y = none ∧ (y < w0.heap.size → mine y) := by
    intro y hb hs hy
    rcases hy with (⟨F, h1, h2⟩ | h1) | h1
    · exact ⟨(hF F h1 y h2).1, (hF F h1 y h2).2.2⟩
    · exact absurd h1 hb
    · refine ⟨?_, fun h2 => by have := H.frm.size; omega⟩
      cases h9 : gh.own y with
      | none => rfl
      | some q => have := (H.own y q h9).2.1; omega
  have freshF : ∀ F ∈ Fs' ++ Gs'.flatten, ∀ y, F y → gh.own y = none ∧ ¬ sh' y ∧ y ∉ new ∧ (y < w0.heap.size → mine y) := by
    intro F hFm y hy
    obtain ⟨h1, h2, _⟩ := G.apart F hFm y hy
    have h3 : y ∉ bl := fun h => h1 (List.mem_append_left _ h)
    have h4 := (hnew y (.inr (.inl ⟨F, hFm, hy⟩))).resolve_left (fun h => h2 (hsub y h))
    have h5 := fresh y h3 h2 h4
    exact ⟨h5.1, h2, fun h => h1 (List.mem_append_right _ h), h5.2⟩
  have freshN : ∀ b ∈ new, gh.own b = none ∧ ¬ sh' b ∧ b < w'.heap.size ∧ (b < w0.heap.size → mine b) := by
    intro b hb
    obtain ⟨h1, h2⟩ := G.blk b (List.mem_append_right _ hb)
    have h3 : b ∉ bl := fun h => (List.nodup_append.1 G.nodup).2.2 b h b hb rfl
    have h4 := (hnew b (.inr (.inr hb))).resolve_left (fun h => h1 (hsub b h))
    have h5 := fresh b h3 h1 h4
    exact ⟨h5.1, h1, h2, h5.2⟩
  -- held, or not
  obtain ⟨gh3, s3, e1, I3, e2, eA, e3, e4, e5, e6, e7, e8⟩ : ∃ gh3 s3, (newBs ((List.range (cs'.length - D.length)).map fun j => d + j)
      (wrAs (impL (renBL (fun i => (D ++ (List.range (cs'.length - D.length)).map fun j => d + j).getD i 0) vs) d).2.2
        (back (D ++ (List.range (cs'.length - D.length)).map fun j => d + j) (cs'.map (renC (fun i => (D ++ (List.range (cs'.length - D.length)).map fun j => d + j).getD i 0)))
          (impL (renBL (fun i => (D ++ (List.range (cs'.length - D.length)).map fun j => d + j).getD i 0) vs) d).2.1 (k (impL (renBL (fun i => (D ++ (List.range (cs'.length - D.length)).map fun j => d + j).getD i 0) vs) d).1)))).run g s3 = some r ∧
      Inv w0 mine N pb gh3 s3 a w' ∧ gh3.bi = gh.bi ∧ gh3.ai = gh.ai ∧ (∀ y q, gh3.own y = some q → gh.own y = some q) ∧ (∀ y n, gh.own y = some (.b n) → gh3.own y = some (.b n)) ∧ s3.bx = s.bx ∧ (∀ y, gh3.sh y → sh' y) ∧
      XRL gh3.sh w'.heap (fun i => (bl ++ new)[i]?) vs xs Fs' ∧ (∀ (j b : Nat) (c : Cell) (Gj : List BSet), (bl ++ new)[j]? = some b → cs'[j]? = some c → Gs'[j]? = some Gj → BoxX gh3.sh w'.heap (fun i => (bl ++ new)[i]?) b c Gj) := by
    have hxr := G.xr
    by_cases hz : hz = true
    · rw [if_pos hz] at h
      obtain ⟨s3, q1, q2, q3⟩ := H1.freeze (sh' := sh') (l := shown) (fun y hy => hsub y (.inl hy)) (by
        intro y hy
        refine ⟨G.shLt y hy, ?_⟩
        intro q hq
        rcases hnew y (.inl hy) with (h1 | ⟨n, h1, h2⟩) | (⟨F, h1, h2⟩ | h1) | h1
        · exact absurd h1 (H.own y q hq).1
        · rw [hq] at h2; injection h2 with h2; exact ⟨n, h1, h2⟩
        · rw [(hF F h1 y h2).1] at hq; cases hq
        · exact absurd hy (G.blk y (List.mem_append_left _ h1)).1
        · have := (H.own y q hq).2.1; omega) (fun n hn y hy => hsub y (.inr ⟨n, hn, hy⟩)) (by
        intro y hy
        have hlt : ∀ {q : Prop}, (y < w0.heap.size → mine y) → mine.sh y ∨ mine y ∨ w0.heap.size ≤ y := by
          intro _ h
          by_cases hb : y < w0.heap.size
          · exact .inr (.inl (h hb))
          · exact .inr (.inr (by omega))
        rcases hnew y (.inl hy) with (h1 | ⟨n, h1, h2⟩) | (⟨F, h1, h2⟩ | h1) | h1
        · exact H.shs y h1
        · exact hlt (q := True) (H.own y _ h2).2.2
        · exact hlt (q := True) (hF F h1 y h2).2.2
        · obtain ⟨b, h2, _⟩ := hblD y h1
          exact hlt (q := True) (H.own y _ h2).2.2
        · exact .inr (.inr (Nat.le_trans H.frm.size h1))) h
      exact ⟨_, s3, q1, q2, rfl, rfl, fun y q hq => (Gh.hold_own.1 hq).1, fun y n hq => Gh.hold_own.2 ⟨hq, fun m _ e => by cases e⟩, q3, fun y hy => hy, hxr, G.bx⟩
    · rw [if_neg hz] at h
      simp only [freezeA] at h
      have hz' := hhz (by simpa using hz)
      refine ⟨gh, s, h, H1, rfl, rfl, fun _ _ h => h, fun _ _ h => h, rfl, fun y hy => hsub y (.inl hy), hxr.held hz'.1 ?_, ?_⟩
      · intro F hFm y hy hs
        exact (freshF F (List.mem_append_left _ hFm) y hy).2.1 (hsub y (.inl hs))
      · intro j b c Gj h1 h2 h3
        refine BoxX.heldC hz'.2 h2 (G.bx j b c Gj h1 h2 h3) ?_
        intro F hFm y hy hs
        refine (freshF F (List.mem_append_right _ (List.mem_flatten.2 ⟨Gj, List.mem_of_getElem? h3, hFm⟩)) y hy).2.1 (hsub y (.inl hs))
  have hcl : (bl ++ new).length = cs'.length := G.lenB
  have hnl : new.length = cs'.length - D.length := by simp at hcl; omega
  have ho3 : ∀ y, gh.own y = none → gh3.own y = none := by
    intro y hy
    cases h9 : gh3.own y with
    | none => rfl
    | some q => rw [e3 y q h9] at hy; cases hy
  obtain ⟨gh4, s4, f1, I4, f2, f3, f4, f5, f6, f7⟩ := newBs_ok _ new gh3 s3 _ I3 (by simp [hnl]) (List.nodup_append.1 G.nodup).2.1 (fun b hb => by
    obtain ⟨h1, h2, h3, h4⟩ := freshN b hb
    exact ⟨ho3 b h1, fun hs => h2 (e6 b hs), h3, h4⟩) e1
  generalize hL : (List.range (cs'.length - D.length)).map (fun j => d + j) = L at f1 f7
  have hLl : L.length = new.length := by rw [← hL]; simp [hnl]
  have hall : ∀ (j n b : Nat), (D ++ L)[j]? = some n → (bl ++ new)[j]? = some b → gh4.bi n = some b ∧ gh4.own b = some (.b n) := by
    intro j n b h1 h2
    by_cases hj : j < D.length
    · rw [List.getElem?_append_left hj] at h1
      rw [List.getElem?_append_left (by omega)] at h2
      obtain ⟨q1, q2, _⟩ := hD j n b h1 h2
      exact ⟨f4 _ _ (by rw [e2]; exact q1), f5 _ _ (e4 _ _ q2)⟩
    · rw [List.getElem?_append_right (by omega)] at h1
      rw [List.getElem?_append_right (by omega)] at h2
      rw [hl] at h2
      exact f7 _ n b h1 h2
  have hnm : ∀ i c, (bl ++ new)[i]? = some c → gh4.bi ((D ++ L).getD i 0) = some c := by
    intro i c hi
    have hil := (List.getElem?_eq_some_iff.1 hi).1
    have h1 := List.getElem?_eq_getElem (l := D ++ L) (i := i) (by simp at hil ⊢; omega)
    rw [List.getD_eq_getElem?_getD, h1]
    exact (hall i _ c h1 hi).1
  have fr4 : ∀ F ∈ Fs' ++ Gs'.flatten, ∀ y, F y → gh4.own y = none ∧ (y < w0.heap.size → mine y) := by
    intro F hFm y hy
    obtain ⟨h1, h2, h3, h4⟩ := freshF F hFm y hy
    refine ⟨?_, h4⟩
    cases h9 : gh4.own y with
    | none => rfl
    | some q =>
      rcases f6 y q h9 with h8 | h8
      · rw [ho3 y h1] at h8; cases h8
      · exact absurd h8 h3
  obtain ⟨d1, d2, d3⟩ := List.pairwise_append.1 G.disj
  obtain ⟨us, i1, iL, i2⟩ := impL_ok (nm := fun i => (D ++ L).getD i 0) vs xs Fs' d e7
  rw [← f2] at i1
  obtain ⟨gh5, s5, g1, I5, g2, g3, g4, g5, g6, g7⟩ := wrAs_ok _ us Fs' gh4 s4 _ I4 i1 d1 (fun F hFm => fr4 F (List.mem_append_left _ hFm)) f1
  obtain ⟨gh6, s6, k1, I6, k2, k3, k4⟩ := back_ok (bi := fun i => (bl ++ new)[i]?) cs' (D ++ L) (bl ++ new) Gs' _ gh5 s5 _ I5 (by simp at hcl ⊢; omega) hcl G.lenG (fun i c hc => by rw [g3]; exact hnm i c hc)
    (fun j n b h1 h2 => by rw [g3]; exact ⟨(hall j n b h1 h2).1, g7 _ _ (hall j n b h1 h2).2⟩) (fun j b c Gj h1 h2 h3 => by rw [g2, f2]; exact e8 j b c Gj h1 h2 h3) d2 (fun F hFm y hy => by
      obtain ⟨q1, q2⟩ := fr4 F (List.mem_append_right _ hFm) y hy
      refine ⟨?_, q2⟩
      cases h9 : gh5.own y with
      | none => rfl
      | some q =>
        rcases g6 y q h9 with h8 | ⟨F', h7, h8⟩
        · rw [q1] at h8; cases h8
        · exact absurd hy (d3 F' h7 F hFm y h8)) g1
  refine ⟨gh6, s6, _, k1, I6, iL, fun n z hn => k3 _ _ (g4 _ _ (by rw [f3, eA]; exact hn)), ?_⟩
  intro i c v hc hv
  exact (i2 gh5 (by rw [g2, f2]) (fun i c hc => by rw [g3]; exact hnm i c hc) g5 i c v hc hv).mono (fun b hb => by rw [k2]; exact hb) (fun _ _ => rfl) k3 k4
end
/-- what is known of a row that is lent: 'w': behind the call -/
def LentOk (gh : Gh) (h : Array Obj) (V0 U0 : V) (x : Value) : Prop := ∀ n off len xs0, V0 = .rf n off len → U0 = .ls true xs0 → ∃ ai A c, gh.ai n = some ai ∧ x = .slice A len c ∧ len ≤ c ∧ c ≤ ai.cap ∧ (c = 0 ∨ A = some ⟨ai.b, ai.base, none⟩) ∧ (xs0 = [] → ai.cap = 0) ∧
  (xs0 ≠ [] → (∀ cs : List V, cs ∈ xs0 → cs.length = ai.s) ∧ ∃ cl t z, h[ai.b]? = some (.cells cl t z) ∧ ai.base + ai.cap * ai.s ≤ cl.size)
section
variable [Glb]
theorem revive_ok : ∀ (l : List ((V × V) × V)) (gh : Gh) (s : St) (k : M α), Inv w0 mine N pb gh s a w → (∀ p ∈ l, ∃ x, RT gh w.heap p.2 x ∧ LentOk gh w.heap p.1.1 p.1.2 x) → (revive l k).run g s = some r →
    ∃ gh' s', k.run g s' = some r ∧ Inv w0 mine N pb gh' s' a w ∧ gh'.sh = gh.sh ∧ gh'.ai = gh.ai ∧ gh'.bi = gh.bi
  | [], gh, s, k, H, hp, h => ⟨gh, s, h, H, rfl, rfl, rfl⟩
  | p :: l, gh, s, k, H, hp, h => by
    rw [revive] at h
    split at h
    · rename_i n o1 l1 xs0 d off m e1 e2 e3
      obtain ⟨x, hx, hL⟩ := hp p List.mem_cons_self
      rw [e3] at hx
      obtain ⟨ai, A, c, q1, q2, q3, q4, q5, q6, q7⟩ := hL n o1 l1 xs0 e1 e2
      obtain ⟨aid, A', c', p1, p2, p3, p4, p5⟩ := hx.rfV
      rw [q2] at p5
      injection p5 with p5 p6 p7
      subst p5; subst p6; subst p7
      obtain ⟨fz, xs, aid', f1, f2, f3, f4⟩ := rdA_ok H h
      rw [p1] at f2; injection f2 with f2; subst f2
      obtain ⟨g1, g2⟩ := chk_ok f4
      simp only [Bool.and_eq_true, decide_eq_true_eq, Bool.not_eq_true'] at g1
      obtain ⟨⟨hfz, hoff, hm, hlen⟩, hsame⟩ := g1
      subst hfz
      simp only [M.run] at g2
      have K := H.kill p1
      have hai' : (gh.kill d).ai n = some ai := q1
      have key : ∃ F : BSet, Inv w0 mine N pb ((gh.kill d).setA n ai F) ((s.put (.a d) .dead).put (.a n) (.a false xs)) a w := by
        by_cases hx0 : xs = []
        · subst hx0
          have h00 : xs0 = [] := List.eq_nil_of_length_eq_zero (by simpa using hlen.symm)
          exact ⟨noB, K.setA (.inr hai') (fun _ h => h.elim) (fun _ _ _ => rfl) (Nat.le_refl _) rfl rfl rfl (.inl ⟨rfl, q6 h00, fun _ h => h⟩)⟩
        · obtain ⟨cd, td, f, Fs, R⟩ := f3.orow hx0
          have hx00 : xs0 ≠ [] := by rintro rfl; simp at hlen; exact hx0 hlen
          obtain ⟨r1, cl, t, z, r2, r3⟩ := q7 hx00
          have hc0 : c ≠ 0 := by have := List.length_pos_iff.2 hx0; omega
          have hA1 := q5.resolve_left hc0
          have hA2 := p4.resolve_left hc0
          rw [hA1, hoff] at hA2
          injection hA2 with hA2
          injection hA2 with hb hbase
          simp only [Nat.zero_mul, Nat.add_zero] at hbase
          have hss : aid.s = ai.s := by
            obtain ⟨y, ys, rfl⟩ := List.exists_cons_of_ne_nil hx00
            have hy := List.all_eq_true.1 hsame y List.mem_cons_self
            have hi := List.getElem?_eq_getElem (l := xs) (i := 0) (List.length_pos_iff.2 hx0)
            rw [← R.len _ _ hi, allLen_get hy hi, r1 y List.mem_cons_self]
          have hcl : cd = cl := by
            have := R.blk
            rw [← hb, r2] at this
            injection this with this; injection this with this; exact this.symm
          have R' : ORow gh.sh w.heap xs ai.b ai.base ai.s ai.cap cd td f Fs (fun x => gh.own x = some (.a d)) := by
            refine { R with blk := by rw [hb]; exact R.blk, le := by omega, room := by rw [hcl]; exact r3, len := by rw [← hss]; exact R.len, cell := by rw [hbase, ← hss]; exact R.cell, nsh := by rw [hb]; exact R.nsh, fb := by rw [hb]; exact R.fb, sub := by rw [hb, ← hss]; exact R.sub, inj := by rw [← hss]; exact R.inj, cov := by rw [hb, ← hss]; exact R.cov }
          refine ⟨fun x => gh.own x = some (.a d), K.setA (.inr hai') ?_ (fun _ _ _ => rfl) (Nat.le_refl _) rfl rfl rfl (.inr R'.rowOk)⟩
          intro y hy
          exact ⟨.inl (by simp [Gh.kill, hy]), H.own y _ hy⟩
      obtain ⟨F, I⟩ := key
      have hai2 : ((gh.kill d).setA n ai F).ai = gh.ai := by
        funext y
        simp only [Gh.setA]
        split
        · rename_i e; subst e; exact q1.symm
        · rfl
      obtain ⟨gh', s', z1, z2, z3, z4, z5⟩ := revive_ok l _ _ k I (fun p' hp' => by
        obtain ⟨x', hx', hL'⟩ := hp p' (List.mem_cons_of_mem _ hp')
        refine ⟨x', RT.congr (gh := gh) (gh' := (gh.kill d).setA n ai F) rfl hai2 rfl hx', ?_⟩
        intro n' off' len' xs' e1' e2'
        have := hL' n' off' len' xs' e1' e2'
        rw [hai2]; exact this) g2
      exact ⟨gh', s', z1, z2, z3, z4.trans hai2, z5⟩
    · exact revive_ok l gh s k H (fun p' hp' => hp p' (List.mem_cons_of_mem _ hp')) h
    · exact revive_ok l gh s k H (fun p' hp' => hp p' (List.mem_cons_of_mem _ hp')) h
    · exact (run_fail_ h).elim
end
end Go.Pv

set_option linter.unusedSimpArgs false
set_option linter.unusedVariables false
namespace Go.Pv
variable {α : Type} {w0 : World} {mine : Mine} {N : Nat} {pb : List Nat} {gh : Gh} {s : St} {a : Act} {w : World} {g : Ora} {r : α × St} {P : Program} {own : Nat → Nat → Mode}

/-- the oracle tells the truth -/
def IsFn (P : Program) (f : Nat) : Prop := ∃ fn, P.funcs[f]? = some fn ∧ fn.body.isSome = true ∧ (fn.name == "runtime.NumGoroutine") = false
section
variable [Glb]
def OraOk (P : Program) (own : Nat → Nat → Mode) (g : Ora) : Prop := ∀ f av cs v cs', g f av cs = some (v, cs') → IsFn P f ∧ CallSpec P f (lentOf (own f) av.length) av cs v cs'
theorem preL_ok {r : α × St} (H : Inv w0 mine N pb gh s a w) : ∀ {l : List V} {k : M α}, (preL l k).run g s = some r → k.run g s = some r ∧ ∀ v ∈ l, v = .ls true [] ∨ (∃ x, v = .sc x) ∨ ∃ n off len xs, v = .rf n off len ∧ look s.ar n = some (.a false xs) ∧ off = 0 ∧ len = xs.length
  | [], k, h => ⟨h, by simp⟩
  | v :: l, k, h => by
    unfold preL at h
    split at h
    · rename_i n off len
      obtain ⟨fz, xs, ai, e1, e2, e3, e4⟩ := rdA_ok H h
      obtain ⟨e5, e6⟩ := chk_ok e4
      simp only [Bool.and_eq_true, decide_eq_true_eq, Bool.not_eq_true'] at e5
      obtain ⟨rfl, e7, e8⟩ := e5
      obtain ⟨f1, f2⟩ := preL_ok H e6
      refine ⟨f1, ?_⟩
      intro u hu
      rcases List.mem_cons.1 hu with rfl | hu
      · exact .inr (.inr ⟨n, off, len, xs, rfl, e1, e7, e8⟩)
      · exact f2 u hu
    · obtain ⟨f1, f2⟩ := preL_ok H h
      refine ⟨f1, ?_⟩
      intro u hu
      rcases List.mem_cons.1 hu with rfl | hu
      · exact .inl rfl
      · exact f2 u hu
    · rename_i x
      obtain ⟨f1, f2⟩ := preL_ok H h
      refine ⟨f1, ?_⟩
      intro u hu
      rcases List.mem_cons.1 hu with rfl | hu
      · exact .inr (.inl ⟨x, rfl⟩)
      · exact f2 u hu
    · exact (run_fail_ h).elim
end
theorem RowOk.cap0 {n : Nat} {ai : AI} {h : Array Obj} (H : RowOk gh h n ai false []) : ai.cap = 0 := by
  rcases H with ⟨_, h0, _⟩ | ⟨h1, _⟩
  · exact h0
  · generalize hX : Value.slice (some ⟨ai.b, ai.base, none⟩) ([] : List (List V)).length ai.cap = X at h1
    cases h1 with
    | nil A' _ e => injection hX with q1 q2 q3
    | own _ b base s cap' c t f Fs _ h0 => exact absurd rfl h0
theorem hasFz_unpack {n : Nat} {v : V} (h : hasFz v = false) : hasFzL (unpack n v) = false := by
  unfold unpack
  split
  · simp [hasFzL, h]
  · split
    · simpa [hasFz] using h
    · simp [hasFzL, h]
/-- cell by cell -/
def cellsX : Value → List Value
  | .agg vs => vs.toList
  | v => [v]
theorem cells_RT {gh : Gh} {h : Array Obj} {V : V} {x : Value} (H : RT gh h V x) {j : Nat} {c : Pv.V} (hc : (cellsOf V)[j]? = some c) : ∃ y, RT gh h c y ∧ (cellsX x)[j]? = some y := by
  cases V with
  | ag cs =>
    obtain ⟨vs, rfl, h1, h2⟩ := H.agV
    have hj : j < cs.length := (List.getElem?_eq_some_iff.1 hc).1
    have hv : vs[j]? = some (vs[j]'(by omega)) := Array.getElem?_eq_getElem (by omega)
    exact ⟨_, h2 j c _ hc hv, by simp [cellsX]⟩
  | _ =>
    cases j with
    | succ j => simp [cellsOf] at hc
    | zero =>
      simp only [cellsOf, List.getElem?_cons_zero, Option.some.injEq] at hc
      subst hc
      refine ⟨x, H, ?_⟩
      have hx : ∀ vs, x ≠ .agg vs := by
        intro vs e
        subst e
        cases H <;> first | (simp_all [Value.oneCell']; done) | (rename_i hf; cases hf)
      cases x with
      | agg vs => exact absurd rfl (hx vs)
      | _ => rfl
section
variable [Glb]
theorem callM_ok (hg : OraOk P own g) (H : Inv w0 mine N pb gh s a w) {d f : Nat} {l : List V} {args : Array Value} (hl : l.length = args.size) (hv : ∀ (i : Nat) (c : V) (v : Value), l[i]? = some c → args[i]? = some v → RT gh w.heap c v)
    {k : V → M α} (h : (callM own d f l k).run g s = some r) :
    IsFn P f ∧ Calls P f args w fun e w' => ∃ x, e = .returned x ∧ ∃ gh' s' V, (k V).run g s' = some r ∧ Inv w0 mine N pb gh' s' a w' ∧ RT gh' w'.heap V x := by
  unfold callM at h
  obtain ⟨h, hpre⟩ := preL_ok H h
  obtain ⟨gh1, s1, av, shown, Fs, e1, H1, S1, hal, hLX, X1⟩ := expArgs_ok (own f) l 0 gh s args.toList _ H (by simpa using hl) (fun i c v hc hw => hv i c v hc (by simpa using hw)) h
  obtain ⟨gh2, s2, D, C, Gs, f1, H2, S2, l1, l2, nd, dead, _, f2, f3, X2⟩ := coll_ok 20 (bxsOfL av) [] [] gh1 s1 _ H1 List.nodup_nil (by simp) e1
  simp only [List.nil_append] at f1 nd dead f2 f3
  obtain ⟨g1, g2⟩ := seeA_ok H2 f1
  simp only [M.run] at g1
  split at g1
  · rename_i rr hask
    obtain ⟨v, cs'⟩ := rr
    obtain ⟨hfn, hspec⟩ := hg _ _ _ _ _ hask
    refine ⟨hfn, ?_⟩
    have S := S1.trans S2
    have hs2 : gh2.sh = gh.sh := S.sh
    -- what is held during the call
    have hown2 : ∀ n ∈ shown, ∀ x, gh.own x = some (.a n) → gh2.own x = some (.a n) := by
      intro n hn x hx
      obtain ⟨fz, xs, q⟩ := g2 n hn
      exact (S.live n fz xs q).2 x hx
    have hfree : ∀ F ∈ Fs ++ Gs.flatten, ∀ y, F y → gh2.own y = none ∧ ¬ gh2.sh y ∧ y < w.heap.size ∧ (y < w0.heap.size → mine y) := by
      intro F hF y hy
      obtain ⟨q1, n, q2⟩ := S.free F hF y hy
      have := H.own y _ q2
      exact ⟨q1, by rw [hs2]; exact this.1, this.2⟩
    have hno : ∀ F ∈ Fs ++ Gs.flatten, ∀ y, F y → ¬ (gh2.sh y ∨ ∃ n ∈ shown, gh2.own y = some (.a n)) := by
      rintro F hF y hy (q | ⟨n, _, q⟩)
      · exact (hfree F hF y hy).2.1 q
      · rw [(hfree F hF y hy).1] at q; cases q
    have A1 : ShOk gh shown Fs (fun y => gh2.sh y ∨ ∃ n ∈ shown, gh2.own y = some (.a n)) :=
      ⟨fun x hx => .inl (by rw [hs2]; exact hx), fun n hn x hx => .inr ⟨n, hn, hown2 n hn x hx⟩, fun F hF => hno F (List.mem_append_left _ hF)⟩
    have A2 : ShOk gh1 [] Gs.flatten (fun y => gh2.sh y ∨ ∃ n ∈ shown, gh2.own y = some (.a n)) :=
      ⟨fun x hx => .inl (by rw [S2.sh]; exact hx), by simp, fun F hF => hno F (List.mem_append_right _ hF)⟩
    have B1 := X1 _ A1
    have B2 := X2 _ A2
    have hbi : gh2.bi = gh.bi := S.bi
    -- the blocks of the boxes
    have hget : ∀ b ∈ D, ∃ bb, gh2.bi b = some bb ∧ gh2.own bb = some (.b b) := by
      intro b hb
      obtain ⟨j, hj, rfl⟩ := List.mem_iff_getElem.1 hb
      obtain ⟨bb, q1, q2, q3⟩ := B2 j _ _ _ (List.getElem?_eq_getElem hj) (List.getElem?_eq_getElem (by omega)) (List.getElem?_eq_getElem (by omega))
      exact ⟨bb, by rw [S2.bi]; exact q1, S2.bown _ _ q2⟩
    have hbl : ∀ (j b : Nat), D[j]? = some b → (D.map fun b => (gh2.bi b).getD 0)[j]? = some ((gh2.bi b).getD 0) := by
      intro j b hb; rw [List.getElem?_map, hb]; rfl
    have hlook : ∀ b ∈ D, ∀ c, gh2.bi b = some c → (D.map fun b => (gh2.bi b).getD 0)[idxOf D b]? = some c := by
      intro b hb c hc
      rw [hbl _ _ (idxOf_get hb), hc]; rfl
    have hD : ∀ (j b bb : Nat), D[j]? = some b → (D.map fun b => (gh2.bi b).getD 0)[j]? = some bb → gh2.bi b = some bb ∧ gh2.own bb = some (.b b) ∧ look s2.bx b = some .dead := by
      intro j b bb h1 h2
      have hb := List.mem_of_getElem? h1
      obtain ⟨b', q1, q2⟩ := hget b hb
      rw [hbl j b h1, q1] at h2
      injection h2 with h2
      simp at h2; subst h2
      exact ⟨q1, q2, dead b hb⟩
    have hblm : ∀ y ∈ D.map (fun b => (gh2.bi b).getD 0), ∃ b, gh2.own y = some (.b b) := by
      intro y hy
      obtain ⟨b, hb, rfl⟩ := List.mem_map.1 hy
      obtain ⟨b', q1, q2⟩ := hget b hb
      exact ⟨b, by rw [q1]; exact q2⟩
    have G : Given w (fun y => gh2.sh y ∨ ∃ n ∈ shown, gh2.own y = some (.a n)) (renBL (idxOf D) av) args.toList Fs (C.map (renC (idxOf D))) (D.map fun b => (gh2.bi b).getD 0) Gs := by
      refine ⟨?_, ?_, by simpa using l1, by simpa using l2.symm, ?_, ?_, ?_, S.disj, ?_, fun p hp => ⟨.inl (H2.glb p hp).1, (H2.glb p hp).2⟩⟩
      · rintro x (q | ⟨n, _, q⟩)
        · exact H2.sh x q
        · exact (H2.own x _ q).2.1
      · refine B1.ren ?_
        intro b hb c hc
        exact hlook b (f2 b hb) c (by rw [hbi]; exact hc)
      · intro j b c Gj h1 h2 h3
        rw [List.getElem?_map, Option.map_eq_some_iff] at h1 h2
        obtain ⟨b0, h1, rfl⟩ := h1
        obtain ⟨c0, h2, rfl⟩ := h2
        obtain ⟨bb, q1, q2, q3⟩ := B2 j b0 c0 Gj h1 h2 h3
        have : (gh2.bi b0).getD 0 = bb := by rw [S2.bi, q1]; rfl
        rw [this]
        refine q3.ren ?_
        intro b hb c hc
        exact hlook b (f3 c0 (List.mem_of_getElem? h2) b hb) c (by rw [S2.bi]; exact hc)
      · rw [List.nodup_iff_pairwise_ne, List.pairwise_map]
        refine (List.nodup_iff_pairwise_ne.1 nd).imp_of_mem ?_
        intro x y hx hy hne e
        obtain ⟨bx, q1, q2⟩ := hget x hx
        obtain ⟨by', q3, q4⟩ := hget y hy
        rw [q1, q3] at e
        simp at e; subst e
        rw [q2] at q4; injection q4 with q4; injection q4 with q4
        exact hne q4
      · intro y hy
        obtain ⟨b, q⟩ := hblm y hy
        have := H2.own y _ q
        refine ⟨?_, this.2.1⟩
        rintro (h1 | ⟨n, _, h1⟩)
        · exact this.1 h1
        · rw [q] at h1; injection h1 with h1; cases h1
      · intro F hF y hy
        refine ⟨?_, hno F hF y hy, (hfree F hF y hy).2.2.1⟩
        intro hm
        obtain ⟨b, q⟩ := hblm y hm
        rw [(hfree F hF y hy).1] at q; cases q
    rw [renBL_length, hal] at hspec
    refine (hspec w _ args Fs _ Gs G).mono ?_
    rintro e w' ⟨x, rfl, hp⟩
    refine ⟨x, rfl, ?_⟩
    obtain ⟨gh', s', Vs, k1, I', hVl, hai, hRT⟩ := ret_ok (k := fun Vs => revive ((((lentOf (own f) l.length).map fun i => (l.getD i (.tu []), av.getD i (.tu []))).zip (Vs.drop 1)).flatMap split3) (k (Vs.getD 0 (.tu [])))) H2 (by simp) hD (fun F hF y hy => ⟨(hfree F hF y hy).1, (hfree F hF y hy).2.1, (hfree F hF y hy).2.2.2⟩) hp
      (hz := hasFz v || hasFzC cs') (fun hh => by simp at hh; exact ⟨hasFz_unpack hh.1, hh.2⟩) g1
    have hV0 : ∃ V0, Vs[0]? = some V0 := by
      cases Vs with
      | nil => simp at hVl
      | cons V0 _ => exact ⟨V0, rfl⟩
    obtain ⟨V0, hV0⟩ := hV0
    have hx0 := hRT 0 V0 x hV0 rfl
    obtain ⟨gh3, s3, z1, z2, z3, z4, z5⟩ := revive_ok _ gh' s' _ I' (by
      intro p hp'
      obtain ⟨P3, hP3, hp3⟩ := List.mem_flatMap.1 hp'
      obtain ⟨j, hj⟩ := List.getElem?_of_mem hP3
      obtain ⟨j1, j2⟩ := List.getElem?_zip_eq_some.1 hj
      rw [List.getElem?_map] at j1
      obtain ⟨i, hi, hi2⟩ := Option.map_eq_some_iff.1 j1
      rw [List.getElem?_drop] at j2
      have hret := hRT (1 + j) P3.2 (args.getD i undef) j2 (by rw [Nat.add_comm]; simp [List.getElem?_map, hi])
      obtain ⟨t, ht⟩ := List.getElem?_of_mem hp3
      obtain ⟨t12, t3⟩ := List.getElem?_zip_eq_some.1 ht
      obtain ⟨t1, t2⟩ := List.getElem?_zip_eq_some.1 t12
      have himem := List.mem_of_getElem? hi
      simp only [lentOf, List.mem_filter, List.mem_range, decide_eq_true_eq] at himem
      have hil : i < args.size := by rw [← hl]; exact himem.1
      have hargs : args[i]? = some (args.getD i undef) := by simp [hil]
      obtain ⟨c, hc⟩ : ∃ c, l[i]? = some c := ⟨_, List.getElem?_eq_getElem himem.1⟩
      have hP1 : P3.1.1 = c := by
        rw [← hi2]
        simp only [List.getD_eq_getElem?_getD, hc, Option.getD_some]
      have hP2 : ∀ c', av[i]? = some c' → P3.1.2 = c' := by
        intro c' hc'
        rw [← hi2]
        simp only [List.getD_eq_getElem?_getD, hc', Option.getD_some]
      rw [hP1] at t1
      obtain ⟨xt, hxt1, hxt2⟩ := cells_RT (hv i c _ hc hargs) t1
      obtain ⟨xt', hxt3, hxt4⟩ := cells_RT hret t3
      rw [hxt2] at hxt4; injection hxt4 with hxt4; subst hxt4
      refine ⟨xt, hxt3, ?_⟩
      intro n off len xs0 q1 q2
      rw [q1] at t1 hxt1
      have hmem : (.rf n off len : Pv.V) ∈ ((lentOf (own f) l.length).map fun i => l.getD i (.tu [])).flatMap cellsOf :=
        List.mem_flatMap.2 ⟨c, List.mem_map.2 ⟨i, List.mem_of_getElem? hi, by simp only [List.getD_eq_getElem?_getD, hc, Option.getD_some]⟩, List.mem_of_getElem? t1⟩
      rcases hpre _ hmem with h0 | ⟨x0, h0⟩ | ⟨n', off', len', xs, h0, h1, h2, h3⟩
      · cases h0
      · cases h0
      · injection h0 with t1' t2' t3'
        subst t1'; subst t2'; subst t3'
        obtain ⟨c', hc', hX⟩ := hLX i c hc (by simp [himem.2, Mode.gives])
        obtain ⟨fz, xs', u1, u2⟩ := hX t n off len t1
        rw [h1] at u1
        injection u1 with u1; injection u1 with u1 u3; subst u1; subst u3
        have hav := u2 rfl
        rw [hP2 c' hc', hav, q2] at t2
        have hxs : xs0 = xs := by
          injection t2 with t2
          injection t2 with t2 t2''
          rw [← t2'', h2, h3]
          simp [sub]
        subst hxs
        obtain ⟨ai, v1, v2⟩ := H.ar n _ h1
        obtain ⟨ai', A, cc, w1, w2, w3, w4, w5⟩ := hxt1.rfV
        rw [v1] at w1; injection w1 with w1; subst w1
        refine ⟨ai, A, cc, hai n ai (by rw [S.ai]; exact v1), w5, w2, by omega, ?_, ?_, ?_⟩
        · rw [h2] at w4; simpa using w4
        · rintro rfl; exact v2.cap0
        · intro hne
          obtain ⟨cl, t, ff, Fs', R⟩ := RowOk.orow v2 hne
          refine ⟨fun cs hcs => by obtain ⟨q, hq⟩ := List.getElem?_of_mem hcs; exact R.len q cs hq, ?_⟩
          obtain ⟨cl', z', y1, y2⟩ := hp.1.szs ai.b cl t _ R.blk
          exact ⟨cl', t, z', y1, by rw [y2]; exact R.room⟩) k1
    refine ⟨gh3, s3, Vs.getD 0 (.tu []), z1, z2, ?_⟩
    have : Vs.getD 0 (.tu []) = V0 := by rw [List.getD_eq_getElem?_getD, hV0]; rfl
    rw [this]
    exact hx0.congr z3 z4 z5
  · cases g1
end
end Go.Pv
