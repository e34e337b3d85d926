/- Proof: calls tell the truth. No condition. -/
import Derived.Test.YthddchcckpmgoaaPvD
set_option autoImplicit true
set_option relaxedAutoImplicit true
set_option linter.unusedSimpArgs false
set_option linter.unusedVariables false
set_option linter.unusedSimpArgs false
set_option linter.unusedVariables false
namespace Go.Pv
variable {α : Type} {w0 : World} {mine : Mine} {N : Nat} {pb : List Nat} {gh : Gh} {s : St} {a : Act} {w : World} {g : Ora} {r : α × St} {P : Program} {own : Nat → Nat → Mode}

theorem cap1_ren (f : Nat → Nat) (v : V) : cap1 (renB f v) = cap1 v := by cases v <;> simp [renB, cap1]
theorem cap1_renL (f : Nat → Nat) : ∀ l : List V, (renBL f l).all cap1 = l.all cap1
  | [] => rfl
  | v :: l => by simp only [renBL, List.all_cons, cap1_ren, cap1_renL f l]
mutual
theorem XR.ren {sh : BSet} {h : Array Obj} {bi bi' : Nat → Option Nat} {f : Nat → Nat} : ∀ {v : V} {x : Value} {Fs : List BSet}, XR sh h bi v x Fs → (∀ b ∈ bxsOf v, ∀ c, bi b = some c → bi' (f b) = some c) → XR sh h bi' (renB f v) x Fs
  | .sc v, _, _, H, hb => by cases H with | sc _ ho => exact .sc v ho
  | .ls o xs, _, _, H, hb => by
    cases H with
    | fz _ _ hf => exact .fz xs _ hf
    | own _ _ F ho => exact .own xs _ F ho
  | .rf _ _ _, _, _, H, hb => by cases H
  | .ep _ _ _, _, _, H, hb => by cases H
  | .fp _ _ _, _, _, H, hb => by cases H
  | .ag cs, _, _, H, hb => by cases H with | ag _ vs Fs hl => exact .ag _ vs _ (hl.ren hb)
  | .tu cs, _, _, H, hb => by cases H with | tu _ vs Fs hl => exact .tu _ vs _ (hl.ren hb)
  | .bx n off, _, _, H, hb => by cases H with | bx _ _ b h1 => exact .bx _ off b (hb n (by simp [bxsOf]) b h1)
  | .fn g cs, _, _, H, hb => by cases H with | fn _ _ vs h1 hl => exact .fn g _ vs (by rw [cap1_renL]; exact h1) (hl.ren hb)
  | .mp n, _, _, H, hb => by cases H with | mp _ b h1 => exact .mp _ b (hb n (by simp [bxsOf]) b h1)
theorem XRL.ren {sh : BSet} {h : Array Obj} {bi bi' : Nat → Option Nat} {f : Nat → Nat} : ∀ {l : List V} {xs : List Value} {Fs : List BSet}, XRL sh h bi l xs Fs → (∀ b ∈ bxsOfL l, ∀ c, bi b = some c → bi' (f b) = some c) → XRL sh h bi' (renBL f l) xs Fs
  | [], _, _, H, hb => by cases H; exact .nil
  | v :: l, _, _, H, hb => by
    cases H with
    | cons _ _ x xs Fs Gs h1 h2 => exact .cons _ _ x xs Fs Gs (h1.ren fun b hm => hb b (by simp [bxsOfL, hm])) (h2.ren fun b hm => hb b (by simp [bxsOfL, hm]))
end
theorem BoxX.ren {sh : BSet} {h : Array Obj} {bi bi' : Nat → Option Nat} {f : Nat → Nat} {b : Nat} {c : Cell} {Gs : List BSet} (H : BoxX sh h bi b c Gs) (hb : ∀ b ∈ cellBs c, ∀ c, bi b = some c → bi' (f b) = some c) : BoxX sh h bi' b (renC f c) Gs := by
  cases c with
  | b vs => obtain ⟨vals, t, h1, h2⟩ := H; exact ⟨vals, t, h1, h2.ren hb⟩
  | m es => exact H
  | _ => exact H.elim
/-! nothing that is only held -/
theorem hasFzL_mem : ∀ {l : List V}, hasFzL l = false → ∀ v ∈ l, hasFz v = false
  | [], _, v, hv => by cases hv
  | u :: l, h, v, hv => by
    simp only [hasFzL, Bool.or_eq_false_iff] at h
    rcases List.mem_cons.1 hv with rfl | hv
    · exact h.1
    · exact hasFzL_mem h.2 v hv
theorem hasFzR_mem : ∀ {l : List (List V)}, hasFzR l = false → ∀ v ∈ l, hasFzL v = false
  | [], _, v, hv => by cases hv
  | u :: l, h, v, hv => by
    simp only [hasFzR, Bool.or_eq_false_iff] at h
    rcases List.mem_cons.1 hv with rfl | hv
    · exact h.1
    · exact hasFzR_mem h.2 v hv
theorem OR.held {sh sh0 : BSet} {h : Array Obj} {v : V} {x : Value} {F : BSet} (H : OR sh h v x F) : hasFz v = false → (∀ y, F y → ¬ sh0 y) → OR sh0 h v x F := by
  induction H with
  | sc v F ho e => intro _ _; exact .sc v F ho e
  | fz xs x F hf e => intro h1 _; simp [hasFz] at h1
  | nil A F e => intro _ _; exact .nil A F e
  | own xs b base s cap c t f Fs F hne hc hl hz h1 h2 h3 hb hFb h4 h5 h6 ih =>
    intro hf hF
    refine .own xs b base s cap c t f Fs F hne hc hl hz h1 h2 ?_ (hF b hFb) hFb h4 h5 h6
    intro i cs j v hi hj
    have hil : i < xs.length := (List.getElem?_eq_some_iff.1 hi).1
    have hjl : j < s := by rw [← h1 i cs hi]; exact (List.getElem?_eq_some_iff.1 hj).1
    exact ih i cs j v hi hj (hasFzL_mem (hasFzR_mem (by simpa [hasFz] using hf) cs (List.mem_of_getElem? hi)) v (List.mem_of_getElem? hj)) fun y hy => hF y (h4 i j y hil hjl hy).1
mutual
theorem XR.held {sh sh0 : BSet} {h : Array Obj} {bi : Nat → Option Nat} : ∀ {v : V} {x : Value} {Fs : List BSet}, XR sh h bi v x Fs → hasFz v = false → (∀ F ∈ Fs, ∀ y, F y → ¬ sh0 y) → XR sh0 h bi v x Fs
  | .sc v, _, _, H, hb, hF => by cases H with | sc _ ho => exact .sc v ho
  | .ls o xs, _, _, H, hb, hF => by
    cases H with
    | fz _ _ hf => simp [hasFz] at hb
    | own _ _ F ho => exact .own xs _ F (ho.held hb (hF F (by simp)))
  | .rf _ _ _, _, _, H, hb, hF => by cases H
  | .ep _ _ _, _, _, H, hb, hF => by cases H
  | .fp _ _ _, _, _, H, hb, hF => by cases H
  | .ag cs, _, _, H, hb, hF => by cases H with | ag _ vs Fs hl => exact .ag _ vs _ (hl.held (by simpa [hasFz] using hb) hF)
  | .tu cs, _, _, H, hb, hF => by cases H with | tu _ vs Fs hl => exact .tu _ vs _ (hl.held (by simpa [hasFz] using hb) hF)
  | .bx n off, _, _, H, hb, hF => by cases H with | bx _ _ b h1 => exact .bx _ off b h1
  | .fn g cs, _, _, H, hb, hF => by cases H with | fn _ _ vs h1 hl => exact .fn g _ vs h1 (hl.capH h1)
  | .mp n, _, _, H, hb, hF => by cases H with | mp _ b h1 => exact .mp _ b h1
theorem XRL.held {sh sh0 : BSet} {h : Array Obj} {bi : Nat → Option Nat} : ∀ {l : List V} {xs : List Value} {Fs : List BSet}, XRL sh h bi l xs Fs → hasFzL l = false → (∀ F ∈ Fs, ∀ y, F y → ¬ sh0 y) → XRL sh0 h bi l xs Fs
  | [], _, _, H, hb, hF => by cases H; exact .nil
  | v :: l, _, _, H, hb, hF => by
    simp only [hasFzL, Bool.or_eq_false_iff] at hb
    cases H with
    | cons _ _ x xs Fs Gs h1 h2 => exact .cons _ _ x xs Fs Gs (h1.held hb.1 fun F hm => hF F (List.mem_append_left _ hm)) (h2.held hb.2 fun F hm => hF F (List.mem_append_right _ hm))
theorem XRL.capH {sh sh0 : BSet} {h : Array Obj} {bi : Nat → Option Nat} : ∀ {l : List V} {xs : List Value}, XRL sh h bi l xs [] → l.all cap1 = true → XRL sh0 h bi l xs []
  | [], _, H, hb => by cases H; exact .nil
  | v :: l, _, H, hb => by
    simp only [List.all_cons, Bool.and_eq_true] at hb
    generalize hE : ([] : List BSet) = E at H
    cases H with
    | cons _ _ x xs Fs Gs h1 h2 =>
      obtain ⟨e1, e2⟩ := List.append_eq_nil_iff.1 hE.symm
      subst e1; subst e2
      refine .cons _ _ x xs [] [] ?_ (h2.capH hb.2)
      cases v <;> simp [cap1] at hb
      case sc u => cases h1 with | sc _ ho => exact .sc _ ho
      case bx n off => cases h1 with | bx _ _ b h3 => exact .bx n off b h3
      case mp n => cases h1 with | mp _ b h3 => exact .mp n b h3
end
theorem BoxX.held {sh sh0 : BSet} {h : Array Obj} {bi : Nat → Option Nat} {b : Nat} {c : Cell} {Gs : List BSet} (H : BoxX sh h bi b c Gs) (hb : hasFzC [c] = false) (hF : ∀ F ∈ Gs, ∀ y, F y → ¬ sh0 y) : BoxX sh0 h bi b c Gs := by
  cases c with
  | b vs => obtain ⟨vals, t, h1, h2⟩ := H; exact ⟨vals, t, h1, h2.held (by simpa [hasFzC] using hb) hF⟩
  | m es => exact H
  | _ => exact H.elim

/-! ### the contract of a call -/
structure Given (w : World) (sh : BSet) (av : List V) (args : List Value) (Fs : List BSet) (cs : List Cell) (bl : List Nat) (Gs : List (List BSet)) : Prop where
  shLt : ∀ x, sh x → x < w.heap.size
  xr : XRL sh w.heap (fun i => bl[i]?) av args Fs
  lenB : bl.length = cs.length
  lenG : Gs.length = cs.length
  bx : ∀ (j b : Nat) (c : Cell) (G : List BSet), bl[j]? = some b → cs[j]? = some c → Gs[j]? = some G → BoxX sh w.heap (fun i => bl[i]?) b c G
  nodup : bl.Nodup
  blk : ∀ b ∈ bl, ¬ sh b ∧ b < w.heap.size
  disj : (Fs ++ Gs.flatten).Pairwise Disj
  apart : ∀ F ∈ Fs ++ Gs.flatten, ∀ x, F x → x ∉ bl ∧ ¬ sh x ∧ x < w.heap.size
def mineOf (Fs : List BSet) (Gs : List (List BSet)) (bl : List Nat) : BSet := fun x => (∃ F ∈ Fs ++ Gs.flatten, F x) ∨ x ∈ bl
def CallPost (w : World) (m : BSet) (sh : BSet) (bl : List Nat) (vs : List V) (cs' : List Cell) (xs : List Value) (w' : World) : Prop :=
  Frm w m w' ∧ ∃ (sh' : BSet) (Fs' : List BSet) (new : List Nat) (Gs' : List (List BSet)), Given w' sh' vs xs Fs' cs' (bl ++ new) Gs' ∧ (∀ y, sh y → sh' y) ∧
    ∀ y, (sh' y ∨ (∃ F ∈ Fs' ++ Gs'.flatten, F y) ∨ y ∈ new) → sh y ∨ m y ∨ w.heap.size ≤ y
/-- 'L': the arguments that are lent -/
def CallSpec (P : Program) (f : Nat) (L : List Nat) (av : List V) (cs : List Cell) (v : V) (cs' : List Cell) : Prop :=
  ∀ (w : World) (sh : BSet) (args : Array Value) (Fs : List BSet) (bl : List Nat) (Gs : List (List BSet)), Given w sh av args.toList Fs cs bl Gs →
    Calls P f args w fun e w' => ∃ x, e = .returned x ∧ CallPost w (mineOf Fs Gs bl) sh bl (unpack L.length v) cs' (x :: L.map fun i => args.getD i undef) w'

/-! ### after the call -/
theorem Inv.call (H : Inv w0 mine N pb gh s a w) {w' : World} {m : BSet} (hf : Frm w m w') (hm : ∀ y, m y → (gh.own y = none ∧ ¬ gh.sh y ∧ (y < w0.heap.size → mine y)) ∨ ∃ n, gh.own y = some (.b n) ∧ look s.bx n = some .dead) : Inv w0 mine N pb gh s a w' := by
  have hb : ∀ x n, gh.own x = some (.b n) → gh.bi n = some x := H.ownb
  refine H.step (gh' := gh) (s' := s) (w' := w') (fun q => ∃ n, q = .b n ∧ look s.bx n = some .dead) (fun _ h => h) (fun _ _ h => h) (fun _ _ h => h) ?_ (fun _ _ _ => Iff.rfl) rfl rfl (fun _ _ => rfl) (fun _ _ => rfl) (fun _ _ => rfl) (fun _ _ => rfl) ?_ ?_ ?_ (fun x n _ h => H.ownb x n h) H.ownt ?_ ?_
  · intro x hx
    have hlt : x < w.heap.size := by
      rcases hx with hx | ⟨q, hx, _⟩
      · exact H.sh x hx
      · exact (H.own x q hx).2.1
    refine hf.keep x hlt ?_
    intro h1
    rcases hm x h1 with ⟨h2, h3, _⟩ | ⟨n, h2, h3⟩
    · rcases hx with hx | ⟨q, hx, _⟩
      · exact h3 hx
      · rw [h2] at hx; cases hx
    · rcases hx with hx | ⟨q, hx, hq⟩
      · exact (H.own x _ h2).1 hx
      · rw [h2] at hx; injection hx with hx; exact hq ⟨n, hx.symm, h3⟩
  · rintro n ⟨m', h, _⟩; cases h
  · rintro n ⟨m', h, h2⟩
    injection h with h; subst h
    obtain ⟨b, e1, e2, _⟩ := H.bx n _ h2
    exact ⟨.dead, b, h2, e1, e2, trivial⟩
  · intro x q hx
    have := H.own x q hx
    exact ⟨this.1, Nat.lt_of_lt_of_le this.2.1 hf.size, this.2.2⟩
  · intro x hx; exact Nat.lt_of_lt_of_le (H.sh x hx) hf.size
  · refine ⟨Nat.le_trans H.frm.size hf.size, ?_, by rw [hf.os]; exact H.frm.os, by rw [hf.tape]; exact H.frm.tape, by rw [hf.output]; exact H.frm.output, H.frm.szs.trans hf.szs⟩
    intro x hx hnm
    rw [hf.keep x (Nat.lt_of_lt_of_le hx H.frm.size)]
    · exact H.frm.keep x hx hnm
    · intro h1
      rcases hm x h1 with ⟨_, _, h4⟩ | ⟨n, h2, h3⟩
      · exact hnm (h4 hx)
      · exact hnm ((H.own x _ h2).2.2 hx)
theorem freezeA_run : ∀ {l : List Nat} {k : M α} {s : St}, (freezeA l k).run g s = some r → ∃ s', k.run g s' = some r ∧ s'.tm = s.tm ∧ s'.bx = s.bx ∧ s'.np = s.np ∧
    ∀ n, (n ∈ l → ∃ fz xs, look s.ar n = some (.a fz xs) ∧ look s'.ar n = some (.a true xs)) ∧ (n ∉ l → look s'.ar n = look s.ar n)
  | [], k, s, h => ⟨s, h, rfl, rfl, rfl, fun n => ⟨fun h => absurd h (by simp), fun _ => rfl⟩⟩
  | m :: l, k, s, h => by
    simp only [freezeA, rdA, M.run, St.get] at h
    split at h
    · rename_i fz xs hl
      simp only [M.run] at h
      obtain ⟨s', h1, h2, h3, h4, h5⟩ := freezeA_run h
      have hlk : ∀ n, look (s.put (.a m) (.a true xs)).ar n = if m = n then some (.a true xs) else look s.ar n := by intro n; simp only [St.put, look_setA]
      refine ⟨s', h1, h2, h3, h4, fun n => ⟨fun hn => ?_, fun hn => ?_⟩⟩
      · by_cases hm : m = n
        · subst hm
          by_cases hin : m ∈ l
          · obtain ⟨fz', xs', e1, e2⟩ := (h5 m).1 hin
            rw [hlk, if_pos rfl] at e1
            injection e1 with e1; injection e1 with _ e1; subst e1
            exact ⟨fz, xs, hl, e2⟩
          · have := (h5 m).2 hin
            rw [hlk, if_pos rfl] at this
            exact ⟨fz, xs, hl, this⟩
        · have hin : n ∈ l := by rcases List.mem_cons.1 hn with h | h; exact absurd h.symm hm; exact h
          obtain ⟨fz', xs', e1, e2⟩ := (h5 n).1 hin
          rw [hlk, if_neg hm] at e1
          exact ⟨fz', xs', e1, e2⟩
      · have hm : m ≠ n := fun e => hn (e ▸ List.mem_cons_self)
        have := (h5 n).2 fun h => hn (List.mem_cons_of_mem _ h)
        rw [hlk, if_neg hm] at this
        exact this
    · exact (run_fail_ h).elim
open Classical in
noncomputable def Gh.hold (gh : Gh) (sh' : BSet) (l : List Nat) : Gh := { gh with sh := sh', own := fun x => if ∃ n ∈ l, gh.own x = some (.a n) then none else gh.own x }
theorem Gh.hold_own {sh' : BSet} {l : List Nat} {x : Nat} {q : Res} : (gh.hold sh' l).own x = some q ↔ gh.own x = some q ∧ ∀ n ∈ l, q ≠ .a n := by
  simp only [Gh.hold]
  split
  · rename_i h
    obtain ⟨n, hn, h⟩ := h
    constructor
    · intro e; cases e
    · rintro ⟨e, h2⟩; rw [h] at e; injection e with e; exact absurd e.symm (h2 n hn)
  · rename_i h
    constructor
    · intro e; exact ⟨e, fun n hn e2 => h ⟨n, hn, by rw [e, e2]⟩⟩
    · exact fun e => e.1
theorem Inv.freeze (H : Inv w0 mine N pb gh s a w) {sh' : BSet} {l : List Nat} {k : M α} (h1 : ∀ y, gh.sh y → sh' y) (h2 : ∀ y, sh' y → y < w.heap.size ∧ ∀ q, gh.own y = some q → ∃ n ∈ l, q = .a n) (h3 : ∀ n ∈ l, ∀ y, gh.own y = some (.a n) → sh' y) (h4 : ∀ y, sh' y → mine.sh y ∨ mine y ∨ w0.heap.size ≤ y)
    (hr : (freezeA l k).run g s = some r) : ∃ s', k.run g s' = some r ∧ Inv w0 mine N pb (gh.hold sh' l) s' a w ∧ s'.bx = s.bx := by
  obtain ⟨s', e1, e2, e3, e4, e5⟩ := freezeA_run hr
  refine ⟨s', e1, ?_, e3⟩
  refine H.step (gh' := gh.hold sh' l) (s' := s') (w' := w) (fun q => ∃ n ∈ l, q = .a n) h1 (fun _ _ h => h) (fun _ _ h => h) (fun _ _ => rfl) ?_ e2 e4 ?_ (fun _ _ => by rw [e3]) (fun _ _ => rfl) (fun _ _ => rfl) ?_ (fun n h => by obtain ⟨m, _, h⟩ := h; cases h) ?_ (fun x n h => by obtain ⟨m, _, h⟩ := h; cases h) ?_ (fun x hx => (h2 x hx).1) H.frm h4
  · intro q hq x
    rw [Gh.hold_own]
    exact ⟨fun h => h.1, fun h => ⟨h, fun n hn e => hq ⟨n, hn, e⟩⟩⟩
  · intro n hn
    exact (e5 n).2 fun h => hn ⟨n, h, rfl⟩
  · rintro n ⟨m, hm, e⟩
    injection e with e; subst e
    obtain ⟨fz, xs, q1, q2⟩ := (e5 n).1 hm
    obtain ⟨ai, q3, q4⟩ := H.ar n _ q1
    refine ⟨.a true xs, ai, q2, q3, ?_⟩
    simp only [CellA, RowOk] at q4 ⊢
    cases fz with
    | true => exact ⟨q4.1.mono h1 fun _ _ => rfl, q4.2⟩
    | false =>
      rcases q4 with ⟨rfl, _, _⟩ | ⟨q5, q6, _⟩
      · exact ⟨.nil false _ _, by simp⟩
      · exact ⟨(q5.toFR h1 fun b hb => h3 n hm b hb).flag false, q6⟩
  · intro x q hx
    obtain ⟨z1, z2⟩ := Gh.hold_own.1 hx
    have := H.own x q z1
    refine ⟨fun hs => ?_, this.2⟩
    obtain ⟨n, hn, e⟩ := (h2 x hs).2 q z1
    exact z2 n hn e
  · intro x n hx
    exact H.ownt x n (Gh.hold_own.1 hx).1
end Go.Pv

set_option linter.unusedSimpArgs false
set_option linter.unusedVariables false
namespace Go.Pv
variable {α : Type} {w0 : World} {mine : Mine} {N : Nat} {pb : List Nat} {gh : Gh} {s : St} {a : Act} {w : World} {g : Ora} {r : α × St} {P : Program} {own : Nat → Nat → Mode}

theorem newBs_ok : ∀ (L bls : List Nat) (gh : Gh) (s : St) (k : M α), Inv w0 mine N pb gh s a w → L.length = bls.length → bls.Nodup → (∀ b ∈ bls, gh.own b = none ∧ ¬ gh.sh b ∧ b < w.heap.size ∧ (b < w0.heap.size → mine b)) → (newBs L k).run g s = some r →
    ∃ gh' s', k.run g s' = some r ∧ Inv w0 mine N pb gh' s' a w ∧ gh'.sh = gh.sh ∧ gh'.ai = gh.ai ∧ (∀ n b, gh.bi n = some b → gh'.bi n = some b) ∧ (∀ y q, gh.own y = some q → gh'.own y = some q) ∧
      (∀ y q, gh'.own y = some q → gh.own y = some q ∨ y ∈ bls) ∧ (∀ (j n b : Nat), L[j]? = some n → bls[j]? = some b → gh'.bi n = some b ∧ gh'.own b = some (.b n))
  | [], bls, gh, s, k, H, hl, hn, hb, h => by
    exact ⟨gh, s, h, H, rfl, rfl, fun _ _ h => h, fun _ _ h => h, fun _ _ h => .inl h, by simp⟩
  | n :: L, [], gh, s, k, H, hl, hn, hb, h => by simp at hl
  | n :: L, b :: bls, gh, s, k, H, hl, hn, hb, h => by
    obtain ⟨h1, h2⟩ := newR_ok h
    have h1' : look s.bx n = none := h1
    have h0 := H.bx0 n h1'
    obtain ⟨q1, q2, q3, q4⟩ := hb b List.mem_cons_self
    have H1 : Inv w0 mine N pb (gh.setB n b) (s.put (.b n) .dead) a w := H.setB (.inl ⟨h0.1, q1, q2, q4⟩) (fun _ _ _ => rfl) (Nat.le_refl _) q3 rfl rfl rfl trivial
    rw [List.nodup_cons] at hn
    have hown : ∀ y, y ≠ b → (gh.setB n b).own y = gh.own y := fun y hy => by simp [Gh.setB, hy]
    obtain ⟨gh', s', e1, e2, e3, e4, e5, e6, e7, e8⟩ := newBs_ok L bls (gh.setB n b) _ k H1 (by simpa using hl) hn.2 (by
      intro b' hb'
      have hne : b' ≠ b := fun e => hn.1 (e ▸ hb')
      obtain ⟨z1, z2, z3, z4⟩ := hb b' (List.mem_cons_of_mem _ hb')
      exact ⟨by rw [hown _ hne]; exact z1, z2, z3, z4⟩) (by simpa only [M.run] using h2)
    have hbi : ∀ m c, gh.bi m = some c → (gh.setB n b).bi m = some c := by
      intro m c hm
      simp only [Gh.setB]
      split
      · rename_i e; subst e; rw [h0.1] at hm; cases hm
      · exact hm
    refine ⟨gh', s', e1, e2, e3, e4, fun m c hm => e5 _ _ (hbi m c hm), ?_, ?_, ?_⟩
    · intro y q hy
      refine e6 y q ?_
      rw [hown]
      · exact hy
      · rintro rfl; rw [q1] at hy; cases hy
    · intro y q hy
      rcases e7 y q hy with h3 | h3
      · by_cases hyb : y = b
        · exact .inr (by simp [hyb])
        · rw [hown y hyb] at h3; exact .inl h3
      · exact .inr (List.mem_cons_of_mem _ h3)
    · intro j m c hm hc
      cases j with
      | zero =>
        simp at hm hc; subst hm; subst hc
        exact ⟨e5 _ _ (by simp [Gh.setB]), e6 _ _ (by simp [Gh.setB])⟩
      | succ j => exact e8 j m c (by simpa using hm) (by simpa using hc)

/-- rows that come in -/
inductive RowsX (sh : BSet) (h : Array Obj) : List (Nat × List (List V)) → List Value → List BSet → Prop where
  | nil : RowsX sh h [] [] []
  | cons (n : Nat) (rows : List (List V)) (x : Value) (F : BSet) (l : List (Nat × List (List V))) (xs : List Value) (Fs : List BSet) : OR sh h (.ls true rows) x F → RowsX sh h l xs Fs → RowsX sh h ((n, rows) :: l) (x :: xs) (F :: Fs)
theorem RowsX.append {sh : BSet} {h : Array Obj} {l l' : List (Nat × List (List V))} {xs xs' : List Value} {Fs Fs' : List BSet} (H : RowsX sh h l xs Fs) (H' : RowsX sh h l' xs' Fs') : RowsX sh h (l ++ l') (xs ++ xs') (Fs ++ Fs') := by
  induction H with
  | nil => exact H'
  | cons n rows x F l xs Fs h1 h2 ih => exact .cons n rows x F _ _ _ h1 ih
theorem RowsX.length {sh : BSet} {h : Array Obj} {l : List (Nat × List (List V))} {xs : List Value} {Fs : List BSet} (H : RowsX sh h l xs Fs) : l.length = xs.length := by
  induction H with
  | nil => rfl
  | cons n rows x F l xs Fs h1 h2 ih => simp [ih]
def Got (gh : Gh) (h : Array Obj) (l : List (Nat × List (List V))) (xs : List Value) : Prop := ∀ (i : Nat) (p : Nat × List (List V)) (x : Value), l[i]? = some p → xs[i]? = some x → RT gh h (.rf p.1 0 p.2.length) x
theorem Got.append {gh : Gh} {h : Array Obj} {l l' : List (Nat × List (List V))} {xs xs' : List Value} (hl : l.length = xs.length) (H : Got gh h (l ++ l') (xs ++ xs')) : Got gh h l xs ∧ Got gh h l' xs' := by
  constructor
  · intro i p x h1 h2
    exact H i p x (by rw [List.getElem?_append_left (List.getElem?_eq_some_iff.1 h1).1]; exact h1) (by rw [List.getElem?_append_left (List.getElem?_eq_some_iff.1 h2).1]; exact h2)
  · intro i p x h1 h2
    refine H (l.length + i) p x ?_ ?_
    · rw [List.getElem?_append_right (by omega)]; simpa using h1
    · rw [hl, List.getElem?_append_right (by omega)]; simpa using h2
theorem XRL.caps {gh : Gh} {sh : BSet} {h : Array Obj} {bi : Nat → Option Nat} {nm : Nat → Nat} (hb : ∀ i c, bi i = some c → gh.bi (nm i) = some c) : ∀ {l : List V} {xs : List Value} {Fs : List BSet}, XRL sh h bi l xs Fs → l.all cap1 = true →
    l.length = xs.length ∧ ∀ (i : Nat) (c : V) (v : Value), (renBL nm l)[i]? = some c → xs[i]? = some v → RT gh h c v
  | [], _, _, H, hc => by cases H; exact ⟨rfl, by simp⟩
  | v :: l, _, _, H, hc => by
    simp only [List.all_cons, Bool.and_eq_true] at hc
    cases H with
    | cons _ _ x xs Fs Gs h1 h2 =>
      obtain ⟨e1, e2⟩ := h2.caps hb hc.2
      refine ⟨by simp [e1], ?_⟩
      intro i c u hi hu
      cases i with
      | zero =>
        simp [renBL] at hi hu
        subst hi; subst hu
        cases v <;> simp [cap1] at hc
        case sc y => cases h1 with | sc _ ho => exact .sc _ ho
        case bx n off => cases h1 with | bx _ _ b h3 => exact .bx _ off b (hb _ _ h3)
        case mp n => cases h1 with | mp _ b h3 => exact .mp _ b (hb _ _ h3)
      | succ i => exact e2 i c u (by simpa [renBL] using hi) (by simpa using hu)
theorem renBL_length (f : Nat → Nat) : ∀ l : List V, (renBL f l).length = l.length
  | [] => rfl
  | v :: l => by simp [renBL, renBL_length f l]
mutual
theorem imp_ok {sh : BSet} {h : Array Obj} {bi : Nat → Option Nat} {nm : Nat → Nat} : ∀ (v : V) (x : Value) (Fs : List BSet) (n : Nat), XR sh h bi v x Fs → ∃ xs, RowsX sh h (imp (renB nm v) n).2.2 xs Fs ∧
    ∀ gh : Gh, gh.sh = sh → (∀ i c, bi i = some c → gh.bi (nm i) = some c) → Got gh h (imp (renB nm v) n).2.2 xs → RT gh h (imp (renB nm v) n).1 x
  | .sc v, x, Fs, n, H => by
    cases H with | sc _ ho => exact ⟨[], .nil, fun _ _ _ _ => .sc _ ho⟩
  | .ls true xs, x, Fs, n, H => by
    cases H with
    | own _ _ F ho => exact ⟨[x], .cons n xs x F [] [] [] ho .nil, fun gh _ _ hg => hg 0 (n, xs) x rfl rfl⟩
  | .ls false xs, x, Fs, n, H => by
    cases H with
    | fz _ _ hf => exact ⟨[], .nil, fun gh hs _ _ => .fz xs x (by rw [hs]; exact hf)⟩
  | .rf _ _ _, x, Fs, n, H => by cases H
  | .ep _ _ _, x, Fs, n, H => by cases H
  | .fp _ _ _, x, Fs, n, H => by cases H
  | .ag cs, x, Fs, n, H => by
    cases H with
    | ag _ vs _ hl =>
      obtain ⟨xs, h1, h2, h3⟩ := impL_ok (nm := nm) cs vs.toList Fs n hl
      exact ⟨xs, h1, fun gh hs hb hg => .ag _ vs (by simpa using h2) fun i c v hc hv => h3 gh hs hb hg i c v hc (by simpa using hv)⟩
  | .tu cs, x, Fs, n, H => by
    cases H with
    | tu _ vs _ hl =>
      obtain ⟨xs, h1, h2, h3⟩ := impL_ok (nm := nm) cs vs.toList Fs n hl
      exact ⟨xs, h1, fun gh hs hb hg => .tu _ vs (by simpa using h2) fun i c v hc hv => h3 gh hs hb hg i c v hc (by simpa using hv)⟩
  | .bx m off, x, Fs, n, H => by
    cases H with | bx _ _ b h1 => exact ⟨[], .nil, fun gh _ hb _ => .bx _ off b (hb _ _ h1)⟩
  | .fn f cs, x, Fs, n, H => by
    cases H with
    | fn _ _ vs h1 hl =>
      exact ⟨[], .nil, fun gh _ hb _ => by
        obtain ⟨e1, e2⟩ := hl.caps (gh := gh) hb h1
        exact .fn f _ vs (by rw [renBL_length]; simpa using e1) fun i c v hc hv => e2 i c v hc (by simpa using hv)⟩
  | .mp m, x, Fs, n, H => by
    cases H with | mp _ b h1 => exact ⟨[], .nil, fun gh _ hb _ => .mp _ b (hb _ _ h1)⟩
theorem impL_ok {sh : BSet} {h : Array Obj} {bi : Nat → Option Nat} {nm : Nat → Nat} : ∀ (l : List V) (us : List Value) (Fs : List BSet) (n : Nat), XRL sh h bi l us Fs → ∃ xs, RowsX sh h (impL (renBL nm l) n).2.2 xs Fs ∧ (impL (renBL nm l) n).1.length = us.length ∧
    ∀ gh : Gh, gh.sh = sh → (∀ i c, bi i = some c → gh.bi (nm i) = some c) → Got gh h (impL (renBL nm l) n).2.2 xs → ∀ (i : Nat) (c : V) (v : Value), (impL (renBL nm l) n).1[i]? = some c → us[i]? = some v → RT gh h c v
  | [], us, Fs, n, H => by
    cases H; exact ⟨[], .nil, rfl, fun _ _ _ _ => by simp [renBL, impL]⟩
  | v :: l, us, Fs, n, H => by
    cases H with
    | cons _ _ x us' Fs1 Gs h1 h2 =>
      obtain ⟨xs1, a1, a2⟩ := imp_ok (nm := nm) v x Fs1 n h1
      obtain ⟨xs2, b1, b2, b3⟩ := impL_ok (nm := nm) l us' Gs (imp (renB nm v) n).2.1 h2
      refine ⟨xs1 ++ xs2, a1.append b1, by simp [renBL, impL, b2], ?_⟩
      intro gh hs hb hg i c u hi hu
      obtain ⟨g1, g2⟩ := Got.append a1.length hg
      cases i with
      | zero =>
        simp [renBL, impL] at hi hu
        subst hi; subst hu
        exact a2 gh hs hb g1
      | succ i => exact b3 gh hs hb g2 i c u (by simpa [renBL, impL] using hi) (by simpa using hu)
end
theorem wrAs_ok : ∀ (l : List (Nat × List (List V))) (xs : List Value) (Fs : List BSet) (gh : Gh) (s : St) (k : M α), Inv w0 mine N pb gh s a w → RowsX gh.sh w.heap l xs Fs → Fs.Pairwise Disj → (∀ F ∈ Fs, ∀ y, F y → gh.own y = none ∧ (y < w0.heap.size → mine y)) → (wrAs l k).run g s = some r →
    ∃ gh' s', k.run g s' = some r ∧ Inv w0 mine N pb gh' s' a w ∧ gh'.sh = gh.sh ∧ gh'.bi = gh.bi ∧ (∀ n x, gh.ai n = some x → gh'.ai n = some x) ∧ Got gh' w.heap l xs ∧
      (∀ y q, gh'.own y = some q → gh.own y = some q ∨ ∃ F ∈ Fs, F y) ∧ (∀ y n, gh.own y = some (.b n) → gh'.own y = some (.b n))
  | [], xs, Fs, gh, s, k, H, hx, hd, hf, h => ⟨gh, s, h, H, rfl, rfl, fun _ _ h => h, fun i p x h => by simp at h, fun _ _ h => .inl h, fun _ _ h => h⟩
  | (n, rows) :: l, xs, Fs, gh, s, k, H, hx, hd, hf, h => by
    cases hx with
    | cons _ _ x F _ xs Fs h1 h2 =>
      obtain ⟨q1, q2⟩ := newR_ok h
      have h0 := H.ar0 n q1
      rw [List.pairwise_cons] at hd
      have hF := hf F List.mem_cons_self
      obtain ⟨ai, I, T⟩ : ∃ ai, Inv w0 mine N pb (gh.setA n ai F) (s.put (.a n) (.a false rows)) a w ∧ RT (gh.setA n ai F) w.heap (.rf n 0 rows.length) x := by
        have hall : ∀ y, F y → (gh.own y = none ∨ gh.own y = some (.a n)) ∧ ¬ gh.sh y ∧ y < w.heap.size ∧ (y < w0.heap.size → mine y) := fun y hy => ⟨.inl (hF y hy).1, (h1.blk y hy).2, (h1.blk y hy).1, (hF y hy).2⟩
        by_cases hr : rows = []
        · subst hr
          generalize hX : V.ls true [] = X at h1
          cases h1 with
          | sc => cases hX
          | fz => cases hX
          | nil A _ e =>
            exact ⟨⟨0, 0, 0, 0⟩, H.setA (.inl h0.1) hall (fun _ _ _ => rfl) (Nat.le_refl _) rfl rfl rfl (.inl ⟨rfl, rfl, e⟩), .rf n 0 0 ⟨0, 0, 0, 0⟩ A 0 (by simp [Gh.setA]) (Nat.le_refl _) (Nat.le_refl _) (.inl rfl)⟩
          | own xs' b base s' cap c t f Fs' _ hne => injection hX with _ e; exact absurd e.symm hne
        · have hsl : ∃ A m c, x = .slice A m c := by
            generalize hX : V.ls true rows = X at h1
            cases h1 with
            | sc => cases hX
            | fz => cases hX
            | nil A _ e => exact ⟨_, _, _, rfl⟩
            | own => exact ⟨_, _, _, rfl⟩
          obtain ⟨A, m, c, rfl⟩ := hsl
          obtain ⟨rfl, b, base, s', cl, t, f, Gs', rfl, R⟩ := h1.row hr
          exact ⟨⟨b, base, s', c⟩, H.setA (.inl h0.1) hall (fun _ _ _ => rfl) (Nat.le_refl _) rfl rfl rfl (.inr R.rowOk), .rf n 0 rows.length ⟨b, base, s', c⟩ _ c (by simp [Gh.setA]) R.le (by simp) (.inr (by simp))⟩
      have hown : ∀ y q, (gh.setA n ai F).own y = some q → gh.own y = some q ∨ F y := by
        intro y q hy
        simp only [Gh.setA] at hy
        split at hy
        · exact .inr ‹_›
        · split at hy
          · cases hy
          · exact .inl hy
      have hai : ∀ m z, gh.ai m = some z → (gh.setA n ai F).ai m = some z := by
        intro m z hm
        simp only [Gh.setA]
        split
        · rename_i e; subst e; rw [h0.1] at hm; cases hm
        · exact hm
      obtain ⟨gh', s', e1, e2, e3, e4, e5, e6, e7, e8⟩ := wrAs_ok l xs Fs (gh.setA n ai F) (s.put (.a n) (.a false rows)) k I h2 hd.2 (by
        intro G hG y hy
        obtain ⟨z1, z2⟩ := hf G (List.mem_cons_of_mem _ hG) y hy
        refine ⟨?_, z2⟩
        cases h9 : (gh.setA n ai F).own y with
        | none => rfl
        | some q =>
          rcases hown y q h9 with h8 | h8
          · rw [z1] at h8; cases h8
          · exact absurd hy (hd.1 G hG y h8)) (by simpa only [M.run] using q2)
      refine ⟨gh', s', e1, e2, e3, e4, fun m z hm => e5 _ _ (hai m z hm), ?_, ?_, ?_⟩
      · intro i p y hi hy
        cases i with
        | zero =>
          simp at hi hy; subst hi; subst hy
          exact T.mono (fun b hb => by rw [e3]; exact hb) (fun _ _ => rfl) e5 (fun m z hm => by rw [e4]; exact hm)
        | succ i => exact e6 i p y (by simpa using hi) (by simpa using hy)
      · intro y q hy
        rcases e7 y q hy with h8 | ⟨G, h8, h9⟩
        · rcases hown y q h8 with h9 | h9
          · exact .inl h9
          · exact .inr ⟨F, List.mem_cons_self, h9⟩
        · exact .inr ⟨G, List.mem_cons_of_mem _ h8, h9⟩
      · intro y m hy
        refine e8 y m ?_
        simp only [Gh.setA]
        rw [if_neg, if_neg]
        · exact hy
        · rw [hy]; intro e; cases e
        · intro hFy; rw [(hF y hFy).1] at hy; cases hy
end Go.Pv

set_option linter.unusedSimpArgs false
set_option linter.unusedVariables false
namespace Go.Pv
variable {α : Type} {w0 : World} {mine : Mine} {N : Nat} {pb : List Nat} {gh : Gh} {s : St} {a : Act} {w : World} {g : Ora} {r : α × St} {P : Program} {own : Nat → Nat → Mode}

theorem back_ok {nm : Nat → Nat} {bi : Nat → Option Nat} : ∀ (cs : List Cell) (bs bls : List Nat) (Gs : List (List BSet)) (n : Nat) (gh : Gh) (s : St) (k : M α), Inv w0 mine N pb gh s a w → bs.length = cs.length → bls.length = cs.length → Gs.length = cs.length →
    (∀ i c, bi i = some c → gh.bi (nm i) = some c) → (∀ (j n b : Nat), bs[j]? = some n → bls[j]? = some b → gh.bi n = some b ∧ gh.own b = some (.b n)) →
    (∀ (j b : Nat) (c : Cell) (G : List BSet), bls[j]? = some b → cs[j]? = some c → Gs[j]? = some G → BoxX gh.sh w.heap bi b c G) →
    Gs.flatten.Pairwise Disj → (∀ F ∈ Gs.flatten, ∀ y, F y → gh.own y = none ∧ (y < w0.heap.size → mine y)) →
    (back bs (cs.map (renC nm)) n k).run g s = some r →
    ∃ gh' s', k.run g s' = some r ∧ Inv w0 mine N pb gh' s' a w ∧ gh'.sh = gh.sh ∧ (∀ n x, gh.ai n = some x → gh'.ai n = some x) ∧ (∀ n x, gh.bi n = some x → gh'.bi n = some x)
  | [], [], bls, Gs, n, gh, s, k, H, l1, l2, l3, hb, ho, hx, hd, hf, h => ⟨gh, s, h, H, rfl, fun _ _ h => h, fun _ _ h => h⟩
  | [], _ :: _, bls, Gs, n, gh, s, k, H, l1, l2, l3, hb, ho, hx, hd, hf, h => by simp at l1
  | _ :: _, [], bls, Gs, n, gh, s, k, H, l1, l2, l3, hb, ho, hx, hd, hf, h => by simp at l1
  | _ :: _, _ :: _, [], Gs, n, gh, s, k, H, l1, l2, l3, hb, ho, hx, hd, hf, h => by simp at l2
  | _ :: _, _ :: _, _ :: _, [], n, gh, s, k, H, l1, l2, l3, hb, ho, hx, hd, hf, h => by simp at l3
  | c :: cs, m :: bs, b :: bls, G :: Gs, n, gh, s, k, H, l1, l2, l3, hb, ho, hx, hd, hf, h => by
    obtain ⟨o1, o2⟩ := ho 0 m b rfl rfl
    have x0 := hx 0 b c G rfl rfl rfl
    simp only [List.flatten_cons] at hd hf
    obtain ⟨d1, d2, d3⟩ := List.pairwise_append.1 hd
    cases c with
    | b vs =>
      obtain ⟨vals, t, z1, z2⟩ := x0
      simp only [List.map_cons, renC, back] at h
      obtain ⟨xs, i1, i2, i3⟩ := impL_ok (nm := nm) vs vals.toList G n z2
      obtain ⟨gh1, s1, e1, e2, e3, e4, e5, e6, e7, e8⟩ := wrAs_ok _ xs G gh s _ H i1 d1 (fun F hF => hf F (List.mem_append_left _ hF)) h
      have hb1 : gh1.bi m = some b := by rw [e4]; exact o1
      have ho1 : gh1.own b = some (.b m) := e8 _ _ o2
      have I := e2.setB (n := m) (b := b) (c := .b (impL (renBL nm vs) n).1) (w' := w) (.inr ⟨hb1, ho1⟩) (fun _ _ _ => rfl) (Nat.le_refl _) (H.own _ _ o2).2.1 rfl rfl rfl
        ⟨vals, t, z1, by simpa using i2, fun i c v hc hv => setB_mono (.inr hb1) (fun _ _ => rfl) (i3 gh1 e3 (fun i c hc => by rw [e4]; exact hb i c hc) e6 i c v hc (by simpa using hv))⟩
      have hbi : ∀ q x, gh1.bi q = some x → (gh1.setB m b).bi q = some x := by
        intro q x hq
        simp only [Gh.setB]
        split
        · rename_i e; subst e; rw [hb1] at hq; injection hq with hq; rw [hq]
        · exact hq
      have hown : ∀ y, y ≠ b → (gh1.setB m b).own y = gh1.own y := fun y hy => by simp [Gh.setB, hy]
      obtain ⟨gh2, s2, f1, f2, f3, f4, f5⟩ := back_ok cs bs bls Gs (impL (renBL nm vs) n).2.1 (gh1.setB m b) _ k I (by simpa using l1) (by simpa using l2) (by simpa using l3)
        (fun i c hc => hbi _ _ (by rw [e4]; exact hb i c hc)) (fun j q b' hq hb' => by
          obtain ⟨p1, p2⟩ := ho (j + 1) q b' (by simpa using hq) (by simpa using hb')
          refine ⟨hbi _ _ (by rw [e4]; exact p1), ?_⟩
          by_cases hbb : b' = b
          · subst hbb; rw [o2] at p2; injection p2 with p2; injection p2 with p2; subst p2; simp [Gh.setB]
          · rw [hown _ hbb]; exact e8 _ _ p2)
        (fun j b' c' G' h1 h2 h3 => by
          have := hx (j + 1) b' c' G' (by simpa using h1) (by simpa using h2) (by simpa using h3)
          rw [← e3] at this
          exact this) d2 (fun F hF y hy => by
          obtain ⟨p1, p2⟩ := hf F (List.mem_append_right _ hF) y hy
          refine ⟨?_, p2⟩
          have hne : y ≠ b := by rintro rfl; rw [o2] at p1; cases p1
          rw [hown _ hne]
          cases h9 : gh1.own y with
          | none => rfl
          | some q =>
            rcases e7 y q h9 with h8 | ⟨F', h7, h8⟩
            · rw [p1] at h8; cases h8
            · exact absurd hy (d3 F' h7 F hF y h8)) (by simpa only [M.run] using e1)
      exact ⟨gh2, s2, f1, f2, by rw [f3]; exact e3, fun q x hq => f4 _ _ (e5 _ _ hq), fun q x hq => f5 _ _ (hbi _ _ (by rw [e4]; exact hq))⟩
    | m es =>
      obtain ⟨z1, rfl⟩ := x0
      simp only [List.map_cons, renC, back] at h
      have I := H.setB (n := m) (b := b) (c := .m es) (w' := w) (.inr ⟨o1, o2⟩) (fun _ _ _ => rfl) (Nat.le_refl _) (H.own _ _ o2).2.1 rfl rfl rfl z1
      have hbi : ∀ q x, gh.bi q = some x → (gh.setB m b).bi q = some x := by
        intro q x hq
        simp only [Gh.setB]
        split
        · rename_i e; subst e; rw [o1] at hq; injection hq with hq; rw [hq]
        · exact hq
      have hown : ∀ y, y ≠ b → (gh.setB m b).own y = gh.own y := fun y hy => by simp [Gh.setB, hy]
      obtain ⟨gh2, s2, f1, f2, f3, f4, f5⟩ := back_ok cs bs bls Gs n (gh.setB m b) _ k I (by simpa using l1) (by simpa using l2) (by simpa using l3)
        (fun i c hc => hbi _ _ (hb i c hc)) (fun j q b' hq hb' => by
          obtain ⟨p1, p2⟩ := ho (j + 1) q b' (by simpa using hq) (by simpa using hb')
          refine ⟨hbi _ _ p1, ?_⟩
          by_cases hbb : b' = b
          · subst hbb; rw [o2] at p2; injection p2 with p2; injection p2 with p2; subst p2; simp [Gh.setB]
          · rw [hown _ hbb]; exact p2)
        (fun j b' c' G' h1 h2 h3 => hx (j + 1) b' c' G' (by simpa using h1) (by simpa using h2) (by simpa using h3)) d2 (fun F hF y hy => by
          obtain ⟨p1, p2⟩ := hf F (List.mem_append_right _ hF) y hy
          refine ⟨?_, p2⟩
          have hne : y ≠ b := by rintro rfl; rw [o2] at p1; cases p1
          rw [hown _ hne]; exact p1) (by simpa only [M.run] using h)
      exact ⟨gh2, s2, f1, f2, f3, f4, fun q x hq => f5 _ _ (hbi _ _ hq)⟩
    | _ => exact x0.elim
theorem idxOf_get : ∀ {D : List Nat} {b : Nat}, b ∈ D → D[idxOf D b]? = some b
  | [], b, h => by cases h
  | y :: D, b, h => by
    simp only [idxOf]
    split
    · rename_i e; subst e; rfl
    · rename_i e
      rcases List.mem_cons.1 h with h | h
      · exact absurd h.symm e
      · simpa using idxOf_get h
theorem Calls.mono' {f : FuncId} {args : Array Value} {R R' : Ending → World → Prop} (h : Calls P f args w R) (hr : ∀ e w', R e w' → R' e w') : Calls P f args w R' :=
  fun cs => let ⟨e, w', fr, q, r⟩ := h cs; ⟨e, w', fr, hr _ _ q, r⟩
end Go.Pv

set_option linter.unusedSimpArgs false
set_option linter.unusedVariables false
namespace Go.Pv
variable {α : Type} {w0 : World} {mine : Mine} {N : Nat} {pb : List Nat} {gh : Gh} {s : St} {a : Act} {w : World} {g : Ora} {r : α × St} {P : Program} {own : Nat → Nat → Mode}

theorem BoxX.heldC {sh sh0 : BSet} {h : Array Obj} {bi : Nat → Option Nat} : ∀ {cs : List Cell}, hasFzC cs = false → ∀ {j b : Nat} {c : Cell} {G : List BSet}, cs[j]? = some c → BoxX sh h bi b c G → (∀ F ∈ G, ∀ y, F y → ¬ sh0 y) → BoxX sh0 h bi b c G
  | [], _, j, b, c, G, hj, _, _ => by simp at hj
  | x :: cs, hc, 0, b, c, G, hj, H, hF => by
    simp at hj; subst hj
    refine H.held ?_ hF
    cases x <;> simp [hasFzC] at hc ⊢
    exact hc.1
  | x :: cs, hc, j + 1, b, c, G, hj, H, hF => by
    refine BoxX.heldC (cs := cs) ?_ (by simpa using hj) H hF
    cases x <;> simp [hasFzC] at hc ⊢
    all_goals first | exact hc | exact hc.2
theorem ret_ok (H : Inv w0 mine N pb gh s a w) {D bl shown : List Nat} {Fs : List BSet} {Gs : List (List BSet)} {d : Nat} {vs : List V} {hz : Bool} {cs' : List Cell} {xs : List Value} {w' : World} {k : List V → M α}
    (hl : bl.length = D.length) (hD : ∀ (j b bb : Nat), D[j]? = some b → bl[j]? = some bb → gh.bi b = some bb ∧ gh.own bb = some (.b b) ∧ look s.bx b = some .dead)
    (hF : ∀ F ∈ Fs ++ Gs.flatten, ∀ y, F y → gh.own y = none ∧ ¬ gh.sh y ∧ (y < w0.heap.size → mine y))
    (hp : CallPost w (mineOf Fs Gs bl) (fun y => gh.sh y ∨ ∃ n ∈ shown, gh.own y = some (.a n)) bl vs cs' xs w') (hhz : hz = false → hasFzL vs = false ∧ hasFzC cs' = false)
    (h : (freezeA (if hz then shown else []) (newBs ((List.range (cs'.length - D.length)).map fun j => d + j)
      (wrAs (impL (renBL (fun i => (D ++ (List.range (cs'.length - D.length)).map fun j => d + j).getD i 0) vs) d).2.2
        (back (D ++ (List.range (cs'.length - D.length)).map fun j => d + j) (cs'.map (renC (fun i => (D ++ (List.range (cs'.length - D.length)).map fun j => d + j).getD i 0)))
          (impL (renBL (fun i => (D ++ (List.range (cs'.length - D.length)).map fun j => d + j).getD i 0) vs) d).2.1 (k (impL (renBL (fun i => (D ++ (List.range (cs'.length - D.length)).map fun j => d + j).getD i 0) vs) d).1))))).run g s = some r) :
    ∃ gh' s' Vs, (k Vs).run g s' = some r ∧ Inv w0 mine N pb gh' s' a w' ∧ Vs.length = xs.length ∧ (∀ n z, gh.ai n = some z → gh'.ai n = some z) ∧ ∀ (i : Nat) (c : V) (v : Value), Vs[i]? = some c → xs[i]? = some v → RT gh' w'.heap c v := by
  obtain ⟨hfrm, sh', Fs', new, Gs', G, hsub, hnew⟩ := hp
  have hblD : ∀ y ∈ bl, ∃ b, gh.own y = some (.b b) ∧ look s.bx b = some .dead := by
    intro y hy
    obtain ⟨j, hj, rfl⟩ := List.mem_iff_getElem.1 hy
    have h1 := List.getElem?_eq_getElem (l := D) (i := j) (by omega)
    obtain ⟨_, h2, h3⟩ := hD j _ _ h1 (List.getElem?_eq_getElem hj)
    exact ⟨_, h2, h3⟩
  have hm : ∀ y, mineOf Fs Gs bl y → (gh.own y = none ∧ ¬ gh.sh y ∧ (y < w0.heap.size → mine y)) ∨ ∃ n, gh.own y = some (.b n) ∧ look s.bx n = some .dead := by
    rintro y (⟨F, h1, h2⟩ | h1)
    · exact .inl (hF F h1 y h2)
    · exact .inr (hblD y h1)
  have H1 : Inv w0 mine N pb gh s a w' := H.call hfrm hm
  -- what is new to us
  have fresh : ∀ y, y ∉ bl → ¬ sh' y → (mineOf Fs Gs bl y ∨ w.heap.size ≤ y) → gh.own y = none ∧ (y < w0.heap.size → mine y) := by
    intro y hb hs hy
    rcases hy with (⟨F, h1, h2⟩ | h1) | h1
    · exact ⟨(hF F h1 y h2).1, (hF F h1 y h2).2.2⟩
    · exact absurd h1 hb
    · refine ⟨?_, fun h2 => by have := H.frm.size; omega⟩
      cases h9 : gh.own y with
      | none => rfl
      | some q => have := (H.own y q h9).2.1; omega
  have freshF : ∀ F ∈ Fs' ++ Gs'.flatten, ∀ y, F y → gh.own y = none ∧ ¬ sh' y ∧ y ∉ new ∧ (y < w0.heap.size → mine y) := by
    intro F hFm y hy
    obtain ⟨h1, h2, _⟩ := G.apart F hFm y hy
    have h3 : y ∉ bl := fun h => h1 (List.mem_append_left _ h)
    have h4 := (hnew y (.inr (.inl ⟨F, hFm, hy⟩))).resolve_left (fun h => h2 (hsub y h))
    have h5 := fresh y h3 h2 h4
    exact ⟨h5.1, h2, fun h => h1 (List.mem_append_right _ h), h5.2⟩
  have freshN : ∀ b ∈ new, gh.own b = none ∧ ¬ sh' b ∧ b < w'.heap.size ∧ (b < w0.heap.size → mine b) := by
    intro b hb
    obtain ⟨h1, h2⟩ := G.blk b (List.mem_append_right _ hb)
    have h3 : b ∉ bl := fun h => (List.nodup_append.1 G.nodup).2.2 b h b hb rfl
    have h4 := (hnew b (.inr (.inr hb))).resolve_left (fun h => h1 (hsub b h))
    have h5 := fresh b h3 h1 h4
    exact ⟨h5.1, h1, h2, h5.2⟩
  -- held, or not
  obtain ⟨gh3, s3, e1, I3, e2, eA, e3, e4, e5, e6, e7, e8⟩ : ∃ gh3 s3, (newBs ((List.range (cs'.length - D.length)).map fun j => d + j)
      (wrAs (impL (renBL (fun i => (D ++ (List.range (cs'.length - D.length)).map fun j => d + j).getD i 0) vs) d).2.2
        (back (D ++ (List.range (cs'.length - D.length)).map fun j => d + j) (cs'.map (renC (fun i => (D ++ (List.range (cs'.length - D.length)).map fun j => d + j).getD i 0)))
          (impL (renBL (fun i => (D ++ (List.range (cs'.length - D.length)).map fun j => d + j).getD i 0) vs) d).2.1 (k (impL (renBL (fun i => (D ++ (List.range (cs'.length - D.length)).map fun j => d + j).getD i 0) vs) d).1)))).run g s3 = some r ∧
      Inv w0 mine N pb gh3 s3 a w' ∧ gh3.bi = gh.bi ∧ gh3.ai = gh.ai ∧ (∀ y q, gh3.own y = some q → gh.own y = some q) ∧ (∀ y n, gh.own y = some (.b n) → gh3.own y = some (.b n)) ∧ s3.bx = s.bx ∧ (∀ y, gh3.sh y → sh' y) ∧
      XRL gh3.sh w'.heap (fun i => (bl ++ new)[i]?) vs xs Fs' ∧ (∀ (j b : Nat) (c : Cell) (Gj : List BSet), (bl ++ new)[j]? = some b → cs'[j]? = some c → Gs'[j]? = some Gj → BoxX gh3.sh w'.heap (fun i => (bl ++ new)[i]?) b c Gj) := by
    have hxr := G.xr
    by_cases hz : hz = true
    · rw [if_pos hz] at h
      obtain ⟨s3, q1, q2, q3⟩ := H1.freeze (sh' := sh') (l := shown) (fun y hy => hsub y (.inl hy)) (by
        intro y hy
        refine ⟨G.shLt y hy, ?_⟩
        intro q hq
        rcases hnew y (.inl hy) with (h1 | ⟨n, h1, h2⟩) | (⟨F, h1, h2⟩ | h1) | h1
        · exact absurd h1 (H.own y q hq).1
        · rw [hq] at h2; injection h2 with h2; exact ⟨n, h1, h2⟩
        · rw [(hF F h1 y h2).1] at hq; cases hq
        · exact absurd hy (G.blk y (List.mem_append_left _ h1)).1
        · have := (H.own y q hq).2.1; omega) (fun n hn y hy => hsub y (.inr ⟨n, hn, hy⟩)) (by
        intro y hy
        have hlt : ∀ {q : Prop}, (y < w0.heap.size → mine y) → mine.sh y ∨ mine y ∨ w0.heap.size ≤ y := by
          intro _ h
          by_cases hb : y < w0.heap.size
          · exact .inr (.inl (h hb))
          · exact .inr (.inr (by omega))
        rcases hnew y (.inl hy) with (h1 | ⟨n, h1, h2⟩) | (⟨F, h1, h2⟩ | h1) | h1
        · exact H.shs y h1
        · exact hlt (q := True) (H.own y _ h2).2.2
        · exact hlt (q := True) (hF F h1 y h2).2.2
        · obtain ⟨b, h2, _⟩ := hblD y h1
          exact hlt (q := True) (H.own y _ h2).2.2
        · exact .inr (.inr (Nat.le_trans H.frm.size h1))) h
      exact ⟨_, s3, q1, q2, rfl, rfl, fun y q hq => (Gh.hold_own.1 hq).1, fun y n hq => Gh.hold_own.2 ⟨hq, fun m _ e => by cases e⟩, q3, fun y hy => hy, hxr, G.bx⟩
    · rw [if_neg hz] at h
      simp only [freezeA] at h
      have hz' := hhz (by simpa using hz)
      refine ⟨gh, s, h, H1, rfl, rfl, fun _ _ h => h, fun _ _ h => h, rfl, fun y hy => hsub y (.inl hy), hxr.held hz'.1 ?_, ?_⟩
      · intro F hFm y hy hs
        exact (freshF F (List.mem_append_left _ hFm) y hy).2.1 (hsub y (.inl hs))
      · intro j b c Gj h1 h2 h3
        refine BoxX.heldC hz'.2 h2 (G.bx j b c Gj h1 h2 h3) ?_
        intro F hFm y hy hs
        refine (freshF F (List.mem_append_right _ (List.mem_flatten.2 ⟨Gj, List.mem_of_getElem? h3, hFm⟩)) y hy).2.1 (hsub y (.inl hs))
  have hcl : (bl ++ new).length = cs'.length := G.lenB
  have hnl : new.length = cs'.length - D.length := by simp at hcl; omega
  have ho3 : ∀ y, gh.own y = none → gh3.own y = none := by
    intro y hy
    cases h9 : gh3.own y with
    | none => rfl
    | some q => rw [e3 y q h9] at hy; cases hy
  obtain ⟨gh4, s4, f1, I4, f2, f3, f4, f5, f6, f7⟩ := newBs_ok _ new gh3 s3 _ I3 (by simp [hnl]) (List.nodup_append.1 G.nodup).2.1 (fun b hb => by
    obtain ⟨h1, h2, h3, h4⟩ := freshN b hb
    exact ⟨ho3 b h1, fun hs => h2 (e6 b hs), h3, h4⟩) e1
  generalize hL : (List.range (cs'.length - D.length)).map (fun j => d + j) = L at f1 f7
  have hLl : L.length = new.length := by rw [← hL]; simp [hnl]
  have hall : ∀ (j n b : Nat), (D ++ L)[j]? = some n → (bl ++ new)[j]? = some b → gh4.bi n = some b ∧ gh4.own b = some (.b n) := by
    intro j n b h1 h2
    by_cases hj : j < D.length
    · rw [List.getElem?_append_left hj] at h1
      rw [List.getElem?_append_left (by omega)] at h2
      obtain ⟨q1, q2, _⟩ := hD j n b h1 h2
      exact ⟨f4 _ _ (by rw [e2]; exact q1), f5 _ _ (e4 _ _ q2)⟩
    · rw [List.getElem?_append_right (by omega)] at h1
      rw [List.getElem?_append_right (by omega)] at h2
      rw [hl] at h2
      exact f7 _ n b h1 h2
  have hnm : ∀ i c, (bl ++ new)[i]? = some c → gh4.bi ((D ++ L).getD i 0) = some c := by
    intro i c hi
    have hil := (List.getElem?_eq_some_iff.1 hi).1
    have h1 := List.getElem?_eq_getElem (l := D ++ L) (i := i) (by simp at hil ⊢; omega)
    rw [List.getD_eq_getElem?_getD, h1]
    exact (hall i _ c h1 hi).1
  have fr4 : ∀ F ∈ Fs' ++ Gs'.flatten, ∀ y, F y → gh4.own y = none ∧ (y < w0.heap.size → mine y) := by
    intro F hFm y hy
    obtain ⟨h1, h2, h3, h4⟩ := freshF F hFm y hy
    refine ⟨?_, h4⟩
    cases h9 : gh4.own y with
    | none => rfl
    | some q =>
      rcases f6 y q h9 with h8 | h8
      · rw [ho3 y h1] at h8; cases h8
      · exact absurd h8 h3
  obtain ⟨d1, d2, d3⟩ := List.pairwise_append.1 G.disj
  obtain ⟨us, i1, iL, i2⟩ := impL_ok (nm := fun i => (D ++ L).getD i 0) vs xs Fs' d e7
  rw [← f2] at i1
  obtain ⟨gh5, s5, g1, I5, g2, g3, g4, g5, g6, g7⟩ := wrAs_ok _ us Fs' gh4 s4 _ I4 i1 d1 (fun F hFm => fr4 F (List.mem_append_left _ hFm)) f1
  obtain ⟨gh6, s6, k1, I6, k2, k3, k4⟩ := back_ok (bi := fun i => (bl ++ new)[i]?) cs' (D ++ L) (bl ++ new) Gs' _ gh5 s5 _ I5 (by simp at hcl ⊢; omega) hcl G.lenG (fun i c hc => by rw [g3]; exact hnm i c hc)
    (fun j n b h1 h2 => by rw [g3]; exact ⟨(hall j n b h1 h2).1, g7 _ _ (hall j n b h1 h2).2⟩) (fun j b c Gj h1 h2 h3 => by rw [g2, f2]; exact e8 j b c Gj h1 h2 h3) d2 (fun F hFm y hy => by
      obtain ⟨q1, q2⟩ := fr4 F (List.mem_append_right _ hFm) y hy
      refine ⟨?_, q2⟩
      cases h9 : gh5.own y with
      | none => rfl
      | some q =>
        rcases g6 y q h9 with h8 | ⟨F', h7, h8⟩
        · rw [q1] at h8; cases h8
        · exact absurd hy (d3 F' h7 F hFm y h8)) g1
  refine ⟨gh6, s6, _, k1, I6, iL, fun n z hn => k3 _ _ (g4 _ _ (by rw [f3, eA]; exact hn)), ?_⟩
  intro i c v hc hv
  exact (i2 gh5 (by rw [g2, f2]) (fun i c hc => by rw [g3]; exact hnm i c hc) g5 i c v hc hv).mono (fun b hb => by rw [k2]; exact hb) (fun _ _ => rfl) k3 k4
/-- what is known of a row that is lent: 'w': behind the call -/
def LentOk (gh : Gh) (h : Array Obj) (V0 U0 : V) (x : Value) : Prop := ∀ n off len xs0, V0 = .rf n off len → U0 = .ls true xs0 → ∃ ai A c, gh.ai n = some ai ∧ x = .slice A len c ∧ len ≤ c ∧ c ≤ ai.cap ∧ (c = 0 ∨ A = some ⟨ai.b, ai.base, none⟩) ∧ (xs0 = [] → ai.cap = 0) ∧
  (xs0 ≠ [] → (∀ cs : List V, cs ∈ xs0 → cs.length = ai.s) ∧ ∃ cl t z, h[ai.b]? = some (.cells cl t z) ∧ ai.base + ai.cap * ai.s ≤ cl.size)
theorem revive_ok : ∀ (l : List ((V × V) × V)) (gh : Gh) (s : St) (k : M α), Inv w0 mine N pb gh s a w → (∀ p ∈ l, ∃ x, RT gh w.heap p.2 x ∧ LentOk gh w.heap p.1.1 p.1.2 x) → (revive l k).run g s = some r →
    ∃ gh' s', k.run g s' = some r ∧ Inv w0 mine N pb gh' s' a w ∧ gh'.sh = gh.sh ∧ gh'.ai = gh.ai ∧ gh'.bi = gh.bi
  | [], gh, s, k, H, hp, h => ⟨gh, s, h, H, rfl, rfl, rfl⟩
  | p :: l, gh, s, k, H, hp, h => by
    rw [revive] at h
    split at h
    · rename_i n o1 l1 xs0 d off m e1 e2 e3
      obtain ⟨x, hx, hL⟩ := hp p List.mem_cons_self
      rw [e3] at hx
      obtain ⟨ai, A, c, q1, q2, q3, q4, q5, q6, q7⟩ := hL n o1 l1 xs0 e1 e2
      obtain ⟨aid, A', c', p1, p2, p3, p4, p5⟩ := hx.rfV
      rw [q2] at p5
      injection p5 with p5 p6 p7
      subst p5; subst p6; subst p7
      obtain ⟨fz, xs, aid', f1, f2, f3, f4⟩ := rdA_ok H h
      rw [p1] at f2; injection f2 with f2; subst f2
      obtain ⟨g1, g2⟩ := chk_ok f4
      simp only [Bool.and_eq_true, decide_eq_true_eq, Bool.not_eq_true'] at g1
      obtain ⟨⟨hfz, hoff, hm, hlen⟩, hsame⟩ := g1
      subst hfz
      simp only [M.run] at g2
      have K := H.kill p1
      have hai' : (gh.kill d).ai n = some ai := q1
      have key : ∃ F : BSet, Inv w0 mine N pb ((gh.kill d).setA n ai F) ((s.put (.a d) .dead).put (.a n) (.a false xs)) a w := by
        by_cases hx0 : xs = []
        · subst hx0
          have h00 : xs0 = [] := List.eq_nil_of_length_eq_zero (by simpa using hlen.symm)
          exact ⟨noB, K.setA (.inr hai') (fun _ h => h.elim) (fun _ _ _ => rfl) (Nat.le_refl _) rfl rfl rfl (.inl ⟨rfl, q6 h00, fun _ h => h⟩)⟩
        · obtain ⟨cd, td, f, Fs, R⟩ := f3.orow hx0
          have hx00 : xs0 ≠ [] := by rintro rfl; simp at hlen; exact hx0 hlen
          obtain ⟨r1, cl, t, z, r2, r3⟩ := q7 hx00
          have hc0 : c ≠ 0 := by have := List.length_pos_iff.2 hx0; omega
          have hA1 := q5.resolve_left hc0
          have hA2 := p4.resolve_left hc0
          rw [hA1, hoff] at hA2
          injection hA2 with hA2
          injection hA2 with hb hbase
          simp only [Nat.zero_mul, Nat.add_zero] at hbase
          have hss : aid.s = ai.s := by
            obtain ⟨y, ys, rfl⟩ := List.exists_cons_of_ne_nil hx00
            have hy := List.all_eq_true.1 hsame y List.mem_cons_self
            have hi := List.getElem?_eq_getElem (l := xs) (i := 0) (List.length_pos_iff.2 hx0)
            rw [← R.len _ _ hi, allLen_get hy hi, r1 y List.mem_cons_self]
          have hcl : cd = cl := by
            have := R.blk
            rw [← hb, r2] at this
            injection this with this; injection this with this; exact this.symm
          have R' : ORow gh.sh w.heap xs ai.b ai.base ai.s ai.cap cd td f Fs (fun x => gh.own x = some (.a d)) := by
            refine { R with blk := by rw [hb]; exact R.blk, le := by omega, room := by rw [hcl]; exact r3, len := by rw [← hss]; exact R.len, cell := by rw [hbase, ← hss]; exact R.cell, nsh := by rw [hb]; exact R.nsh, fb := by rw [hb]; exact R.fb, sub := by rw [hb, ← hss]; exact R.sub, inj := by rw [← hss]; exact R.inj, cov := by rw [hb, ← hss]; exact R.cov }
          refine ⟨fun x => gh.own x = some (.a d), K.setA (.inr hai') ?_ (fun _ _ _ => rfl) (Nat.le_refl _) rfl rfl rfl (.inr R'.rowOk)⟩
          intro y hy
          exact ⟨.inl (by simp [Gh.kill, hy]), H.own y _ hy⟩
      obtain ⟨F, I⟩ := key
      have hai2 : ((gh.kill d).setA n ai F).ai = gh.ai := by
        funext y
        simp only [Gh.setA]
        split
        · rename_i e; subst e; exact q1.symm
        · rfl
      obtain ⟨gh', s', z1, z2, z3, z4, z5⟩ := revive_ok l _ _ k I (fun p' hp' => by
        obtain ⟨x', hx', hL'⟩ := hp p' (List.mem_cons_of_mem _ hp')
        refine ⟨x', RT.congr (gh := gh) (gh' := (gh.kill d).setA n ai F) rfl hai2 rfl hx', ?_⟩
        intro n' off' len' xs' e1' e2'
        have := hL' n' off' len' xs' e1' e2'
        rw [hai2]; exact this) g2
      exact ⟨gh', s', z1, z2, z3, z4.trans hai2, z5⟩
    · exact revive_ok l gh s k H (fun p' hp' => hp p' (List.mem_cons_of_mem _ hp')) h
    · exact revive_ok l gh s k H (fun p' hp' => hp p' (List.mem_cons_of_mem _ hp')) h
    · exact (run_fail_ h).elim
end Go.Pv

set_option linter.unusedSimpArgs false
set_option linter.unusedVariables false
namespace Go.Pv
variable {α : Type} {w0 : World} {mine : Mine} {N : Nat} {pb : List Nat} {gh : Gh} {s : St} {a : Act} {w : World} {g : Ora} {r : α × St} {P : Program} {own : Nat → Nat → Mode}

/-- the oracle tells the truth -/
def IsFn (P : Program) (f : Nat) : Prop := ∃ fn, P.funcs[f]? = some fn ∧ fn.body.isSome = true ∧ (fn.name == "runtime.NumGoroutine") = false
def OraOk (P : Program) (own : Nat → Nat → Mode) (g : Ora) : Prop := ∀ f av cs v cs', g f av cs = some (v, cs') → IsFn P f ∧ CallSpec P f (lentOf (own f) av.length) av cs v cs'
theorem preL_ok {r : α × St} (H : Inv w0 mine N pb gh s a w) : ∀ {l : List V} {k : M α}, (preL l k).run g s = some r → k.run g s = some r ∧ ∀ v ∈ l, v = .ls true [] ∨ (∃ x, v = .sc x) ∨ ∃ n off len xs, v = .rf n off len ∧ look s.ar n = some (.a false xs) ∧ off = 0 ∧ len = xs.length
  | [], k, h => ⟨h, by simp⟩
  | v :: l, k, h => by
    unfold preL at h
    split at h
    · rename_i n off len
      obtain ⟨fz, xs, ai, e1, e2, e3, e4⟩ := rdA_ok H h
      obtain ⟨e5, e6⟩ := chk_ok e4
      simp only [Bool.and_eq_true, decide_eq_true_eq, Bool.not_eq_true'] at e5
      obtain ⟨rfl, e7, e8⟩ := e5
      obtain ⟨f1, f2⟩ := preL_ok H e6
      refine ⟨f1, ?_⟩
      intro u hu
      rcases List.mem_cons.1 hu with rfl | hu
      · exact .inr (.inr ⟨n, off, len, xs, rfl, e1, e7, e8⟩)
      · exact f2 u hu
    · obtain ⟨f1, f2⟩ := preL_ok H h
      refine ⟨f1, ?_⟩
      intro u hu
      rcases List.mem_cons.1 hu with rfl | hu
      · exact .inl rfl
      · exact f2 u hu
    · rename_i x
      obtain ⟨f1, f2⟩ := preL_ok H h
      refine ⟨f1, ?_⟩
      intro u hu
      rcases List.mem_cons.1 hu with rfl | hu
      · exact .inr (.inl ⟨x, rfl⟩)
      · exact f2 u hu
    · exact (run_fail_ h).elim
theorem RowOk.cap0 {n : Nat} {ai : AI} {h : Array Obj} (H : RowOk gh h n ai false []) : ai.cap = 0 := by
  rcases H with ⟨_, h0, _⟩ | ⟨h1, _⟩
  · exact h0
  · generalize hX : Value.slice (some ⟨ai.b, ai.base, none⟩) ([] : List (List V)).length ai.cap = X at h1
    cases h1 with
    | nil A' _ e => injection hX with q1 q2 q3
    | own _ b base s cap' c t f Fs _ h0 => exact absurd rfl h0
theorem hasFz_unpack {n : Nat} {v : V} (h : hasFz v = false) : hasFzL (unpack n v) = false := by
  unfold unpack
  split
  · simp [hasFzL, h]
  · split
    · simpa [hasFz] using h
    · simp [hasFzL, h]
/-- cell by cell -/
def cellsX : Value → List Value
  | .agg vs => vs.toList
  | v => [v]
theorem cells_RT {gh : Gh} {h : Array Obj} {V : V} {x : Value} (H : RT gh h V x) {j : Nat} {c : Pv.V} (hc : (cellsOf V)[j]? = some c) : ∃ y, RT gh h c y ∧ (cellsX x)[j]? = some y := by
  cases V with
  | ag cs =>
    obtain ⟨vs, rfl, h1, h2⟩ := H.agV
    have hj : j < cs.length := (List.getElem?_eq_some_iff.1 hc).1
    have hv : vs[j]? = some (vs[j]'(by omega)) := Array.getElem?_eq_getElem (by omega)
    exact ⟨_, h2 j c _ hc hv, by simp [cellsX]⟩
  | _ =>
    cases j with
    | succ j => simp [cellsOf] at hc
    | zero =>
      simp only [cellsOf, List.getElem?_cons_zero, Option.some.injEq] at hc
      subst hc
      refine ⟨x, H, ?_⟩
      have hx : ∀ vs, x ≠ .agg vs := by
        intro vs e
        subst e
        cases H <;> first | (simp_all [Value.oneCell']; done) | (rename_i hf; cases hf)
      cases x with
      | agg vs => exact absurd rfl (hx vs)
      | _ => rfl
theorem callM_ok (hg : OraOk P own g) (H : Inv w0 mine N pb gh s a w) {d f : Nat} {l : List V} {args : Array Value} (hl : l.length = args.size) (hv : ∀ (i : Nat) (c : V) (v : Value), l[i]? = some c → args[i]? = some v → RT gh w.heap c v)
    {k : V → M α} (h : (callM own d f l k).run g s = some r) :
    IsFn P f ∧ Calls P f args w fun e w' => ∃ x, e = .returned x ∧ ∃ gh' s' V, (k V).run g s' = some r ∧ Inv w0 mine N pb gh' s' a w' ∧ RT gh' w'.heap V x := by
  unfold callM at h
  obtain ⟨h, hpre⟩ := preL_ok H h
  obtain ⟨gh1, s1, av, shown, Fs, e1, H1, S1, hal, hLX, X1⟩ := expArgs_ok (own f) l 0 gh s args.toList _ H (by simpa using hl) (fun i c v hc hw => hv i c v hc (by simpa using hw)) h
  obtain ⟨gh2, s2, D, C, Gs, f1, H2, S2, l1, l2, nd, dead, _, f2, f3, X2⟩ := coll_ok 20 (bxsOfL av) [] [] gh1 s1 _ H1 List.nodup_nil (by simp) e1
  simp only [List.nil_append] at f1 nd dead f2 f3
  obtain ⟨g1, g2⟩ := seeA_ok H2 f1
  simp only [M.run] at g1
  split at g1
  · rename_i rr hask
    obtain ⟨v, cs'⟩ := rr
    obtain ⟨hfn, hspec⟩ := hg _ _ _ _ _ hask
    refine ⟨hfn, ?_⟩
    have S := S1.trans S2
    have hs2 : gh2.sh = gh.sh := S.sh
    -- what is held during the call
    have hown2 : ∀ n ∈ shown, ∀ x, gh.own x = some (.a n) → gh2.own x = some (.a n) := by
      intro n hn x hx
      obtain ⟨fz, xs, q⟩ := g2 n hn
      exact (S.live n fz xs q).2 x hx
    have hfree : ∀ F ∈ Fs ++ Gs.flatten, ∀ y, F y → gh2.own y = none ∧ ¬ gh2.sh y ∧ y < w.heap.size ∧ (y < w0.heap.size → mine y) := by
      intro F hF y hy
      obtain ⟨q1, n, q2⟩ := S.free F hF y hy
      have := H.own y _ q2
      exact ⟨q1, by rw [hs2]; exact this.1, this.2⟩
    have hno : ∀ F ∈ Fs ++ Gs.flatten, ∀ y, F y → ¬ (gh2.sh y ∨ ∃ n ∈ shown, gh2.own y = some (.a n)) := by
      rintro F hF y hy (q | ⟨n, _, q⟩)
      · exact (hfree F hF y hy).2.1 q
      · rw [(hfree F hF y hy).1] at q; cases q
    have A1 : ShOk gh shown Fs (fun y => gh2.sh y ∨ ∃ n ∈ shown, gh2.own y = some (.a n)) :=
      ⟨fun x hx => .inl (by rw [hs2]; exact hx), fun n hn x hx => .inr ⟨n, hn, hown2 n hn x hx⟩, fun F hF => hno F (List.mem_append_left _ hF)⟩
    have A2 : ShOk gh1 [] Gs.flatten (fun y => gh2.sh y ∨ ∃ n ∈ shown, gh2.own y = some (.a n)) :=
      ⟨fun x hx => .inl (by rw [S2.sh]; exact hx), by simp, fun F hF => hno F (List.mem_append_right _ hF)⟩
    have B1 := X1 _ A1
    have B2 := X2 _ A2
    have hbi : gh2.bi = gh.bi := S.bi
    -- the blocks of the boxes
    have hget : ∀ b ∈ D, ∃ bb, gh2.bi b = some bb ∧ gh2.own bb = some (.b b) := by
      intro b hb
      obtain ⟨j, hj, rfl⟩ := List.mem_iff_getElem.1 hb
      obtain ⟨bb, q1, q2, q3⟩ := B2 j _ _ _ (List.getElem?_eq_getElem hj) (List.getElem?_eq_getElem (by omega)) (List.getElem?_eq_getElem (by omega))
      exact ⟨bb, by rw [S2.bi]; exact q1, S2.bown _ _ q2⟩
    have hbl : ∀ (j b : Nat), D[j]? = some b → (D.map fun b => (gh2.bi b).getD 0)[j]? = some ((gh2.bi b).getD 0) := by
      intro j b hb; rw [List.getElem?_map, hb]; rfl
    have hlook : ∀ b ∈ D, ∀ c, gh2.bi b = some c → (D.map fun b => (gh2.bi b).getD 0)[idxOf D b]? = some c := by
      intro b hb c hc
      rw [hbl _ _ (idxOf_get hb), hc]; rfl
    have hD : ∀ (j b bb : Nat), D[j]? = some b → (D.map fun b => (gh2.bi b).getD 0)[j]? = some bb → gh2.bi b = some bb ∧ gh2.own bb = some (.b b) ∧ look s2.bx b = some .dead := by
      intro j b bb h1 h2
      have hb := List.mem_of_getElem? h1
      obtain ⟨b', q1, q2⟩ := hget b hb
      rw [hbl j b h1, q1] at h2
      injection h2 with h2
      simp at h2; subst h2
      exact ⟨q1, q2, dead b hb⟩
    have hblm : ∀ y ∈ D.map (fun b => (gh2.bi b).getD 0), ∃ b, gh2.own y = some (.b b) := by
      intro y hy
      obtain ⟨b, hb, rfl⟩ := List.mem_map.1 hy
      obtain ⟨b', q1, q2⟩ := hget b hb
      exact ⟨b, by rw [q1]; exact q2⟩
    have G : Given w (fun y => gh2.sh y ∨ ∃ n ∈ shown, gh2.own y = some (.a n)) (renBL (idxOf D) av) args.toList Fs (C.map (renC (idxOf D))) (D.map fun b => (gh2.bi b).getD 0) Gs := by
      refine ⟨?_, ?_, by simpa using l1, by simpa using l2.symm, ?_, ?_, ?_, S.disj, ?_⟩
      · rintro x (q | ⟨n, _, q⟩)
        · exact H2.sh x q
        · exact (H2.own x _ q).2.1
      · refine B1.ren ?_
        intro b hb c hc
        exact hlook b (f2 b hb) c (by rw [hbi]; exact hc)
      · intro j b c Gj h1 h2 h3
        rw [List.getElem?_map, Option.map_eq_some_iff] at h1 h2
        obtain ⟨b0, h1, rfl⟩ := h1
        obtain ⟨c0, h2, rfl⟩ := h2
        obtain ⟨bb, q1, q2, q3⟩ := B2 j b0 c0 Gj h1 h2 h3
        have : (gh2.bi b0).getD 0 = bb := by rw [S2.bi, q1]; rfl
        rw [this]
        refine q3.ren ?_
        intro b hb c hc
        exact hlook b (f3 c0 (List.mem_of_getElem? h2) b hb) c (by rw [S2.bi]; exact hc)
      · rw [List.nodup_iff_pairwise_ne, List.pairwise_map]
        refine (List.nodup_iff_pairwise_ne.1 nd).imp_of_mem ?_
        intro x y hx hy hne e
        obtain ⟨bx, q1, q2⟩ := hget x hx
        obtain ⟨by', q3, q4⟩ := hget y hy
        rw [q1, q3] at e
        simp at e; subst e
        rw [q2] at q4; injection q4 with q4; injection q4 with q4
        exact hne q4
      · intro y hy
        obtain ⟨b, q⟩ := hblm y hy
        have := H2.own y _ q
        refine ⟨?_, this.2.1⟩
        rintro (h1 | ⟨n, _, h1⟩)
        · exact this.1 h1
        · rw [q] at h1; injection h1 with h1; cases h1
      · intro F hF y hy
        refine ⟨?_, hno F hF y hy, (hfree F hF y hy).2.2.1⟩
        intro hm
        obtain ⟨b, q⟩ := hblm y hm
        rw [(hfree F hF y hy).1] at q; cases q
    rw [renBL_length, hal] at hspec
    refine (hspec w _ args Fs _ Gs G).mono ?_
    rintro e w' ⟨x, rfl, hp⟩
    refine ⟨x, rfl, ?_⟩
    obtain ⟨gh', s', Vs, k1, I', hVl, hai, hRT⟩ := ret_ok (k := fun Vs => revive ((((lentOf (own f) l.length).map fun i => (l.getD i (.tu []), av.getD i (.tu []))).zip (Vs.drop 1)).flatMap split3) (k (Vs.getD 0 (.tu [])))) H2 (by simp) hD (fun F hF y hy => ⟨(hfree F hF y hy).1, (hfree F hF y hy).2.1, (hfree F hF y hy).2.2.2⟩) hp
      (hz := hasFz v || hasFzC cs') (fun hh => by simp at hh; exact ⟨hasFz_unpack hh.1, hh.2⟩) g1
    have hV0 : ∃ V0, Vs[0]? = some V0 := by
      cases Vs with
      | nil => simp at hVl
      | cons V0 _ => exact ⟨V0, rfl⟩
    obtain ⟨V0, hV0⟩ := hV0
    have hx0 := hRT 0 V0 x hV0 rfl
    obtain ⟨gh3, s3, z1, z2, z3, z4, z5⟩ := revive_ok _ gh' s' _ I' (by
      intro p hp'
      obtain ⟨P3, hP3, hp3⟩ := List.mem_flatMap.1 hp'
      obtain ⟨j, hj⟩ := List.getElem?_of_mem hP3
      obtain ⟨j1, j2⟩ := List.getElem?_zip_eq_some.1 hj
      rw [List.getElem?_map] at j1
      obtain ⟨i, hi, hi2⟩ := Option.map_eq_some_iff.1 j1
      rw [List.getElem?_drop] at j2
      have hret := hRT (1 + j) P3.2 (args.getD i undef) j2 (by rw [Nat.add_comm]; simp [List.getElem?_map, hi])
      obtain ⟨t, ht⟩ := List.getElem?_of_mem hp3
      obtain ⟨t12, t3⟩ := List.getElem?_zip_eq_some.1 ht
      obtain ⟨t1, t2⟩ := List.getElem?_zip_eq_some.1 t12
      have himem := List.mem_of_getElem? hi
      simp only [lentOf, List.mem_filter, List.mem_range, decide_eq_true_eq] at himem
      have hil : i < args.size := by rw [← hl]; exact himem.1
      have hargs : args[i]? = some (args.getD i undef) := by simp [hil]
      obtain ⟨c, hc⟩ : ∃ c, l[i]? = some c := ⟨_, List.getElem?_eq_getElem himem.1⟩
      have hP1 : P3.1.1 = c := by
        rw [← hi2]
        simp only [List.getD_eq_getElem?_getD, hc, Option.getD_some]
      have hP2 : ∀ c', av[i]? = some c' → P3.1.2 = c' := by
        intro c' hc'
        rw [← hi2]
        simp only [List.getD_eq_getElem?_getD, hc', Option.getD_some]
      rw [hP1] at t1
      obtain ⟨xt, hxt1, hxt2⟩ := cells_RT (hv i c _ hc hargs) t1
      obtain ⟨xt', hxt3, hxt4⟩ := cells_RT hret t3
      rw [hxt2] at hxt4; injection hxt4 with hxt4; subst hxt4
      refine ⟨xt, hxt3, ?_⟩
      intro n off len xs0 q1 q2
      rw [q1] at t1 hxt1
      have hmem : (.rf n off len : Pv.V) ∈ ((lentOf (own f) l.length).map fun i => l.getD i (.tu [])).flatMap cellsOf :=
        List.mem_flatMap.2 ⟨c, List.mem_map.2 ⟨i, List.mem_of_getElem? hi, by simp only [List.getD_eq_getElem?_getD, hc, Option.getD_some]⟩, List.mem_of_getElem? t1⟩
      rcases hpre _ hmem with h0 | ⟨x0, h0⟩ | ⟨n', off', len', xs, h0, h1, h2, h3⟩
      · cases h0
      · cases h0
      · injection h0 with t1' t2' t3'
        subst t1'; subst t2'; subst t3'
        obtain ⟨c', hc', hX⟩ := hLX i c hc (by simp [himem.2, Mode.gives])
        obtain ⟨fz, xs', u1, u2⟩ := hX t n off len t1
        rw [h1] at u1
        injection u1 with u1; injection u1 with u1 u3; subst u1; subst u3
        have hav := u2 rfl
        rw [hP2 c' hc', hav, q2] at t2
        have hxs : xs0 = xs := by
          injection t2 with t2
          injection t2 with t2 t2''
          rw [← t2'', h2, h3]
          simp [sub]
        subst hxs
        obtain ⟨ai, v1, v2⟩ := H.ar n _ h1
        obtain ⟨ai', A, cc, w1, w2, w3, w4, w5⟩ := hxt1.rfV
        rw [v1] at w1; injection w1 with w1; subst w1
        refine ⟨ai, A, cc, hai n ai (by rw [S.ai]; exact v1), w5, w2, by omega, ?_, ?_, ?_⟩
        · rw [h2] at w4; simpa using w4
        · rintro rfl; exact v2.cap0
        · intro hne
          obtain ⟨cl, t, ff, Fs', R⟩ := RowOk.orow v2 hne
          refine ⟨fun cs hcs => by obtain ⟨q, hq⟩ := List.getElem?_of_mem hcs; exact R.len q cs hq, ?_⟩
          obtain ⟨cl', z', y1, y2⟩ := hp.1.szs ai.b cl t _ R.blk
          exact ⟨cl', t, z', y1, by rw [y2]; exact R.room⟩) k1
    refine ⟨gh3, s3, Vs.getD 0 (.tu []), z1, z2, ?_⟩
    have : Vs.getD 0 (.tu []) = V0 := by rw [List.getD_eq_getElem?_getD, hV0]; rfl
    rw [this]
    exact hx0.congr z3 z4 z5
  · cases g1
end Go.Pv
