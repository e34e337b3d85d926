/- Proof: the values stand for what lies in memory. No condition. -/
import Derived.Test.YtaadneenebhnoaaPvA
import Derived.Laws.BitsLemmas
import Derived.Laws.Cells
set_option autoImplicit true
set_option relaxedAutoImplicit true
set_option linter.unusedSimpArgs false
set_option linter.unusedVariables false
namespace Go.Pv

abbrev BSet := Nat → Prop
def noB : BSet := fun _ => False

/-- the row of cells that a block is -/
def rowIn (h : Array Obj) (b : Nat) : Option (Array Value) := match h[b]? with | some (.cells c _ (0, 0)) => some c | _ => none

/-- a value that is held as it is: its rows lie in blocks that nobody writes -/
inductive FR (sh : BSet) (h : Array Obj) : V → Value → Prop where
  | sc (v : Value) : v.oneCell' = true → FR sh h (.sc v) v
  | nil (o : Bool) (A : Option Addr) (cap : Nat) : FR sh h (.ls o []) (.slice A 0 cap)
  | ls (o : Bool) (xs : List (List V)) (b base s cap : Nat) (c : Array Value) (f : Nat → Nat → Value) :
      sh b → (∃ t fz, h[b]? = some (.cells c t fz)) → xs.length ≤ cap →
      (∀ (i : Nat) (cs : List V), xs[i]? = some cs → cs.length = s) →
      (∀ (i : Nat) (cs : List V) (j : Nat) (v : V), xs[i]? = some cs → cs[j]? = some v → c[base + i * s + j]? = some (f i j)) →
      (∀ (i : Nat) (cs : List V) (j : Nat) (v : V), xs[i]? = some cs → cs[j]? = some v → FR sh h v (f i j)) →
      FR sh h (.ls o xs) (.slice (some ⟨b, base, none⟩) xs.length cap)

/-- a value that is one's own: 'F': the blocks in which its rows lie -/
inductive OR (sh : BSet) (h : Array Obj) : V → Value → BSet → Prop where
  | sc (v : Value) (F : BSet) : v.oneCell' = true → (∀ x, ¬ F x) → OR sh h (.sc v) v F
  | fz (xs : List (List V)) (x : Value) (F : BSet) : FR sh h (.ls false xs) x → (∀ x, ¬ F x) → OR sh h (.ls false xs) x F
  | nil (A : Option Addr) (F : BSet) : (∀ x, ¬ F x) → OR sh h (.ls true []) (.slice A 0 0) F
  | own (xs : List (List V)) (b base s cap : Nat) (c : Array Value) (t : TypeId) (f : Nat → Nat → Value) (Fs : Nat → Nat → BSet) (F : BSet) :
      xs ≠ [] → h[b]? = some (.cells c t (0, 0)) → xs.length ≤ cap → base + cap * s ≤ c.size →
      (∀ (i : Nat) (cs : List V), xs[i]? = some cs → cs.length = s) →
      (∀ (i : Nat) (cs : List V) (j : Nat) (v : V), xs[i]? = some cs → cs[j]? = some v → c[base + i * s + j]? = some (f i j)) →
      (∀ (i : Nat) (cs : List V) (j : Nat) (v : V), xs[i]? = some cs → cs[j]? = some v → OR sh h v (f i j) (Fs i j)) →
      ¬ sh b → F b → (∀ i j x, i < xs.length → j < s → Fs i j x → F x ∧ x ≠ b) →
      (∀ i j i' j' x, i < xs.length → j < s → i' < xs.length → j' < s → Fs i j x → Fs i' j' x → i = i' ∧ j = j') →
      (∀ x, F x → x = b ∨ ∃ i j, i < xs.length ∧ j < s ∧ Fs i j x) →
      OR sh h (.ls true xs) (.slice (some ⟨b, base, none⟩) xs.length cap) F

theorem FR.mono {sh sh' : BSet} {h h' : Array Obj} (hs : ∀ b, sh b → sh' b) (hh : ∀ b, sh b → h'[b]? = h[b]?) {v : V} {x : Value} (H : FR sh h v x) : FR sh' h' v x := by
  induction H with
  | sc v ho => exact .sc v ho
  | nil o A cap => exact .nil o A cap
  | ls o xs b base s cap c f hb hc hl h1 h2 _ ih =>
    refine .ls o xs b base s cap c f (hs b hb) ?_ hl h1 h2 ih
    obtain ⟨t, fz, e⟩ := hc
    exact ⟨t, fz, by rw [hh b hb]; exact e⟩
theorem OR.mono {sh sh' : BSet} {h h' : Array Obj} (hs : ∀ b, sh b → sh' b) (hh : ∀ b, sh b → h'[b]? = h[b]?) {v : V} {x : Value} {F : BSet} (H : OR sh h v x F)
    (hF : ∀ b, F b → h'[b]? = h[b]? ∧ ¬ sh' b) : OR sh' h' v x F := by
  induction H with
  | sc v F ho e => exact .sc v F ho e
  | fz xs x F hf e => exact .fz xs x F (hf.mono hs hh) e
  | nil A F e => exact .nil A F e
  | own xs b base s cap c t f Fs F hne hc hl hz h1 h2 h3 hb hFb h4 h5 h6 ih =>
    refine .own xs b base s cap c t f Fs F hne ?_ hl hz h1 h2 ?_ (hF b hFb).2 hFb h4 h5 h6
    · rw [(hF b hFb).1]; exact hc
    · intro i cs j v hi hj
      have hil : i < xs.length := (List.getElem?_eq_some_iff.1 hi).1
      have hjl : j < s := by rw [← h1 i cs hi]; exact (List.getElem?_eq_some_iff.1 hj).1
      exact ih i cs j v hi hj fun x hx => hF x (h4 i j x hil hjl hx).1
/-- the flag is nothing to what is held -/
theorem FR.flag {sh : BSet} {h : Array Obj} {o : Bool} {xs : List (List V)} {x : Value} (H : FR sh h (.ls o xs) x) (o' : Bool) : FR sh h (.ls o' xs) x := by
  cases H with
  | nil _ A cap => exact .nil o' A cap
  | ls _ _ b base s cap c f hb hc hl h1 h2 h3 => exact .ls o' xs b base s cap c f hb hc hl h1 h2 h3
theorem frzL_get (l : List V) (j : Nat) : (frzL l)[j]? = (l[j]?).map frz := by
  induction l generalizing j with
  | nil => simp [frzL]
  | cons v l ih => cases j <;> simp [frzL, ih]
theorem frzR_get (l : List (List V)) (j : Nat) : (frzR l)[j]? = (l[j]?).map frzL := by
  induction l generalizing j with
  | nil => simp [frzR]
  | cons v l ih => cases j <;> simp [frzR, ih]
theorem frzL_length (l : List V) : (frzL l).length = l.length := by
  induction l with
  | nil => rfl
  | cons v l ih => simp [frzL, ih]
theorem frzR_length (l : List (List V)) : (frzR l).length = l.length := by
  induction l with
  | nil => rfl
  | cons v l ih => simp [frzR, ih]
theorem FR.frz {sh : BSet} {h : Array Obj} {v : V} {x : Value} (H : FR sh h v x) : FR sh h (frz v) x := by
  induction H with
  | sc v ho => exact .sc v ho
  | nil o A cap => exact .nil false A cap
  | ls o xs b base s cap c f hb hc hl h1 h2 h3 ih =>
    have := FR.ls (sh := sh) (h := h) false (frzR xs) b base s cap c f hb hc (by rw [frzR_length]; exact hl)
      (fun i cs hi => by
        rw [frzR_get] at hi
        obtain ⟨y, hy, rfl⟩ := Option.map_eq_some_iff.1 hi
        rw [frzL_length]; exact h1 i y hy)
      (fun i cs j v hi hj => by
        rw [frzR_get] at hi
        obtain ⟨y, hy, rfl⟩ := Option.map_eq_some_iff.1 hi
        rw [frzL_get] at hj
        obtain ⟨u, hu, rfl⟩ := Option.map_eq_some_iff.1 hj
        exact h2 i y j u hy hu)
      (fun i cs j v hi hj => by
        rw [frzR_get] at hi
        obtain ⟨y, hy, rfl⟩ := Option.map_eq_some_iff.1 hi
        rw [frzL_get] at hj
        obtain ⟨u, hu, rfl⟩ := Option.map_eq_some_iff.1 hj
        exact ih i y j u hy hu)
    rw [frzR_length] at this
    exact this
/-- what is one's own may be held as it is -/
theorem OR.toFR {sh sh' : BSet} {h : Array Obj} (hs : ∀ b, sh b → sh' b) {v : V} {x : Value} {F : BSet} (H : OR sh h v x F) (hF : ∀ b, F b → sh' b) : FR sh' h v x := by
  induction H with
  | sc v F ho e => exact .sc v ho
  | fz xs x F hf e => exact hf.mono hs (fun _ _ => rfl)
  | nil A F e => exact .nil true A 0
  | own xs b base s cap c t f Fs F hne hc hl hz h1 h2 h3 hb hFb h4 h5 h6 ih =>
    refine .ls true xs b base s cap c f (hF b hFb) ⟨t, (0, 0), hc⟩ hl h1 h2 ?_
    intro i cs j v hi hj
    have hil : i < xs.length := (List.getElem?_eq_some_iff.1 hi).1
    have hjl : j < s := by rw [← h1 i cs hi]; exact (List.getElem?_eq_some_iff.1 hj).1
    exact ih i cs j v hi hj fun x hx => hF x (h4 i j x hil hjl hx).1
theorem OR.blk {sh : BSet} {h : Array Obj} {v : V} {x : Value} {F : BSet} (H : OR sh h v x F) : ∀ b, F b → b < h.size ∧ ¬ sh b := by
  induction H with
  | sc v F ho e => exact fun b hb => (e b hb).elim
  | fz xs x F hf e => exact fun b hb => (e b hb).elim
  | nil A F e => exact fun b hb => (e b hb).elim
  | own xs b base s cap c t f Fs F hne hc hl hz h1 h2 h3 hb hFb h4 h5 h6 ih =>
    intro y hy
    rcases h6 y hy with rfl | ⟨i, j, hi, hj, hx⟩
    · exact ⟨(Array.getElem?_eq_some_iff.1 hc).1, hb⟩
    · have hi' : xs[i]? = some xs[i] := List.getElem?_eq_getElem hi
      have hl' := h1 i _ hi'
      have hj' : (xs[i])[j]? = some (xs[i])[j] := List.getElem?_eq_getElem (by omega)
      exact ih i _ j _ hi' hj' y hx

/-! ### names, and what they stand for -/
structure AI where
  b : Nat
  base : Nat
  s : Nat
  cap : Nat
structure Gh where
  sh : BSet
  ai : Nat → Option AI
  bi : Nat → Option Nat
  own : Nat → Option Res

/-- a variable's value -/
inductive RT (gh : Gh) (h : Array Obj) : V → Value → Prop where
  | sc (v : Value) : v.oneCell' = true → RT gh h (.sc v) v
  | fz (xs : List (List V)) (x : Value) : FR gh.sh h (.ls false xs) x → RT gh h (.ls false xs) x
  | nil (A : Option Addr) : RT gh h (.ls true []) (.slice A 0 0)
  | rf (n off len : Nat) (ai : AI) (A : Option Addr) (c : Nat) : gh.ai n = some ai → len ≤ c → off + c ≤ ai.cap → (c = 0 ∨ A = some ⟨ai.b, ai.base + off * ai.s, none⟩) →
      RT gh h (.rf n off len) (.slice A len c)
  | ag (cs : List V) (vs : Array Value) : cs.length = vs.size → (∀ (i : Nat) (c : V) (v : Value), cs[i]? = some c → vs[i]? = some v → RT gh h c v) → RT gh h (.ag cs) (.agg vs)
  | tu (cs : List V) (vs : Array Value) : cs.length = vs.size → (∀ (i : Nat) (c : V) (v : Value), cs[i]? = some c → vs[i]? = some v → RT gh h c v) → RT gh h (.tu cs) (.tuple vs)
  | bx (n off b : Nat) : gh.bi n = some b → RT gh h (.bx n off) (.pointer (some ⟨b, off, none⟩))
  | ep (n i off : Nat) (ai : AI) : gh.ai n = some ai → RT gh h (.ep n i off) (.pointer (some ⟨ai.b, ai.base + i * ai.s + off, none⟩))
  | fp (xs : List (List V)) (i off : Nat) (b base s cap : Nat) : FR gh.sh h (.ls false xs) (.slice (some ⟨b, base, none⟩) xs.length cap) → i < xs.length → (∀ (i : Nat) (cs : List V), xs[i]? = some cs → cs.length = s) →
      RT gh h (.fp xs i off) (.pointer (some ⟨b, base + i * s + off, none⟩))
  | fn (f : Nat) (cs : List V) (vs : Array Value) : cs.length = vs.size → (∀ (i : Nat) (c : V) (v : Value), cs[i]? = some c → vs[i]? = some v → RT gh h c v) → RT gh h (.fn f cs) (.func (.func f) #[] vs)
  | mp (n b : Nat) : gh.bi n = some b → RT gh h (.mp n) (.map (some b))

theorem RT.mono {gh gh' : Gh} {h h' : Array Obj} (hs : ∀ b, gh.sh b → gh'.sh b) (hh : ∀ b, gh.sh b → h'[b]? = h[b]?)
    (ha : ∀ n x, gh.ai n = some x → gh'.ai n = some x) (hb : ∀ n x, gh.bi n = some x → gh'.bi n = some x) {v : V} {x : Value} (H : RT gh h v x) : RT gh' h' v x := by
  induction H with
  | sc v ho => exact .sc v ho
  | fz xs x hf => exact .fz xs x (hf.mono hs hh)
  | nil A => exact .nil A
  | rf n off len ai A c h1 h2 h3 h4 => exact .rf n off len ai A c (ha _ _ h1) h2 h3 h4
  | ag cs vs hl _ ih => exact .ag cs vs hl ih
  | tu cs vs hl _ ih => exact .tu cs vs hl ih
  | bx n off b h1 => exact .bx n off b (hb _ _ h1)
  | ep n i off ai h1 => exact .ep n i off ai (ha _ _ h1)
  | fp xs i off b base s cap h1 h2 h3 => exact .fp xs i off b base s cap (h1.mono hs hh) h2 h3
  | fn f cs vs hl _ ih => exact .fn f cs vs hl ih
  | mp n b h1 => exact .mp n b (hb _ _ h1)

/-- a row of one's own, from its begin -/
def RowOk (gh : Gh) (h : Array Obj) (n : Nat) (ai : AI) (fz : Bool) (xs : List (List V)) : Prop :=
  if fz then FR gh.sh h (.ls false xs) (.slice (some ⟨ai.b, ai.base, none⟩) xs.length ai.cap) ∧ (∀ cs : List V, cs ∈ xs → cs.length = ai.s)
  else (xs = [] ∧ ai.cap = 0 ∧ ∀ x, gh.own x ≠ some (.a n)) ∨
    OR gh.sh h (.ls true xs) (.slice (some ⟨ai.b, ai.base, none⟩) xs.length ai.cap) (fun x => gh.own x = some (.a n)) ∧ (∀ cs : List V, cs ∈ xs → cs.length = ai.s) ∧ gh.own ai.b = some (.a n) ∧
      (∃ c t, h[ai.b]? = some (.cells c t (0, 0)) ∧ ai.base + ai.cap * ai.s ≤ c.size)
def BoxOk (gh : Gh) (h : Array Obj) (b : Nat) (cs : List V) : Prop :=
  ∃ vs t, h[b]? = some (.cells vs t (0, 0)) ∧ cs.length = vs.size ∧ ∀ (i : Nat) (c : V) (v : Value), cs[i]? = some c → vs[i]? = some v → RT gh h c v
def MapOk (h : Array Obj) (b : Nat) (es : MapV) : Prop :=
  ∃ ms, h[b]? = some (.map ms es.2) ∧ ms.toList.map (fun e => ((V.sc e.key, V.sc e.val), e.born)) = es.1 ∧ ∀ e ∈ ms.toList, e.val.oneCell' = true
/-- a row of one's own out of which rows were taken -/
structure HRow (gh : Gh) (h : Array Obj) (n : Nat) (ai : AI) (xs : List (List V)) (c : Array Value) (t : TypeId) (f : Nat → Nat → Value) (Fs : Nat → Nat → BSet) : Prop where
  ne : xs ≠ []
  blk : h[ai.b]? = some (.cells c t (0, 0))
  le : xs.length ≤ ai.cap
  room : ai.base + ai.cap * ai.s ≤ c.size
  len : ∀ (i : Nat) (cs : List V), xs[i]? = some cs → cs.length = ai.s
  cell : ∀ (i : Nat) (cs : List V) (j : Nat) (v : V), xs[i]? = some cs → cs[j]? = some v → c[ai.base + i * ai.s + j]? = some (f i j)
  el : ∀ (i : Nat) (cs : List V) (j : Nat) (v : V), xs[i]? = some cs → cs[j]? = some v → OR gh.sh h v (f i j) (Fs i j) ∨ (isRf v = true ∧ RT gh h v (f i j) ∧ ∀ x, ¬ Fs i j x)
  fb : gh.own ai.b = some (.a n)
  sub : ∀ i j x, i < xs.length → j < ai.s → Fs i j x → gh.own x = some (.a n) ∧ x ≠ ai.b
  inj : ∀ i j i' j' x, i < xs.length → j < ai.s → i' < xs.length → j' < ai.s → Fs i j x → Fs i' j' x → i = i' ∧ j = j'
  cov : ∀ x, gh.own x = some (.a n) → x = ai.b ∨ ∃ i j, i < xs.length ∧ j < ai.s ∧ Fs i j x
theorem HRow.mono {gh gh' : Gh} {h h' : Array Obj} {n : Nat} {ai : AI} {xs : List (List V)} {c : Array Value} {t : TypeId} {f : Nat → Nat → Value} {Fs : Nat → Nat → BSet} (R : HRow gh h n ai xs c t f Fs)
    (hs : ∀ x, gh.sh x → gh'.sh x) (hh : ∀ x, gh.sh x ∨ gh.own x = some (.a n) → h'[x]? = h[x]?) (hown : ∀ x, gh'.own x = some (.a n) ↔ gh.own x = some (.a n)) (hns : ∀ x, gh'.own x = some (.a n) → ¬ gh'.sh x)
    (hrt : ∀ v x, RT gh h v x → RT gh' h' v x) : HRow gh' h' n ai xs c t f Fs := by
  refine { R with blk := by rw [hh _ (.inr R.fb)]; exact R.blk, el := ?_, fb := (hown _).2 R.fb, sub := fun i j x hi hj hx => ⟨(hown x).2 (R.sub i j x hi hj hx).1, (R.sub i j x hi hj hx).2⟩, cov := fun x hx => R.cov x ((hown x).1 hx) }
  intro i cs j v hi hj
  have hil : i < xs.length := (List.getElem?_eq_some_iff.1 hi).1
  have hjl : j < ai.s := by rw [← R.len i cs hi]; exact (List.getElem?_eq_some_iff.1 hj).1
  rcases R.el i cs j v hi hj with e | ⟨e1, e2, e3⟩
  · refine .inl (e.mono hs (fun b hb => hh b (.inl hb)) fun b hb => ?_)
    have := (R.sub i j b hil hjl hb).1
    exact ⟨hh b (.inr this), hns b ((hown b).2 this)⟩
  · exact .inr ⟨e1, hrt _ _ e2, e3⟩
def CellA (gh : Gh) (h : Array Obj) (n : Nat) (ai : AI) : Cell → Prop
  | .a fz xs => RowOk gh h n ai fz xs
  | .h xs => ∃ c t f Fs, HRow gh h n ai xs c t f Fs
  | .dead => ∀ x, gh.own x ≠ some (.a n)
  | _ => False
def CellB (gh : Gh) (h : Array Obj) (b : Nat) : Cell → Prop
  | .b cs => BoxOk gh h b cs
  | .m es => MapOk h b es
  | .dead => True
  | _ => False

/-- 'm': the blocks that were handed over; 'sh': those that were only shown -/
structure Mine where
  m : BSet
  sh : BSet
  fx : List (Nat × Value)
instance : CoeFun Mine (fun _ => BSet) := ⟨Mine.m⟩
instance : Coe Mine BSet := ⟨Mine.m⟩
/-- rows of cells stay as long as they are -/
def SameSz (h h' : Array Obj) : Prop := ∀ (x : Nat) (c : Array Value) (t : TypeId) (z : Nat × Nat), h[x]? = some (.cells c t z) → ∃ c' z', h'[x]? = some (.cells c' t z') ∧ c'.size = c.size
theorem SameSz.refl (h : Array Obj) : SameSz h h := fun _ c _ z e => ⟨c, z, e, rfl⟩
theorem SameSz.trans {h h' h'' : Array Obj} (a : SameSz h h') (b : SameSz h' h'') : SameSz h h'' := fun x c t z e => by
  obtain ⟨c1, z1, e1, s1⟩ := a x c t z e
  obtain ⟨c2, z2, e2, s2⟩ := b x c1 t z1 e1
  exact ⟨c2, z2, e2, s2.trans s1⟩
theorem SameSz.of_eq {h h' : Array Obj} (e : ∀ x, x < h.size → h'[x]? = h[x]?) : SameSz h h' := fun x c t z hx => ⟨c, z, by rw [e x (Array.getElem?_eq_some_iff.1 hx).1]; exact hx, rfl⟩
theorem SameSz.alloc (w : World) (o : Obj) : SameSz w.heap (w.alloc o).heap := .of_eq fun x hx => by
  simp only [World.alloc, Array.getElem?_push]
  rw [if_neg (by omega)]
theorem SameSz.setRow {w : World} {b : Nat} {c c' : Array Value} {t : TypeId} {z : Nat × Nat} (hb : w.heap[b]? = some (.cells c t z)) (hc : c'.size = c.size) : SameSz w.heap (w.setRow b c').heap := by
  intro x c1 t1 z1 hx
  by_cases hxb : x = b
  · subst hxb
    rw [hb] at hx
    injection hx with hx
    injection hx with h1 h2 h3
    subst h1; subst h2; subst h3
    exact ⟨c', _, setRow_heap w x c c' t z hb, hc⟩
  · exact ⟨c1, z1, by rw [setRow_other w b x c' hxb]; exact hx, rfl⟩
theorem SameSz.setMap {h : Array Obj} {b : Nat} {ms ms' : Array MapEntry} {cl cl' : Nat} (hb : h[b]? = some (.map ms cl)) : SameSz h (h.setIfInBounds b (.map ms' cl')) := by
  intro x c1 t1 z1 hx
  have hne : b ≠ x := by rintro rfl; rw [hb] at hx; cases hx
  exact ⟨c1, z1, by rw [Array.getElem?_setIfInBounds_ne hne]; exact hx, rfl⟩
/-- what became of the world since the call began: 'mine': the blocks that were handed over -/
structure Frm (w0 : World) (mine : BSet) (w : World) : Prop where
  size : w0.heap.size ≤ w.heap.size
  keep : ∀ x, x < w0.heap.size → ¬ mine x → w.heap[x]? = w0.heap[x]?
  os : w.os = w0.os
  tape : w.tape = w0.tape
  output : w.output = w0.output
  szs : SameSz w0.heap w.heap
/-- blocks of memory that stay as they are: the package's variables that library functions read -/
class Glb where
  l : List (Nat × Obj)
section
variable [Glb]
structure Inv (w0 : World) (mine : Mine) (N : Nat) (pb : List Nat) (gh : Gh) (s : St) (a : Act) (w : World) : Prop where
  size : a.tmps.size = N
  defers : a.defers = []
  tm : ∀ t v, look s.tm t = some v → RT gh w.heap v (a.tmps.getD t undef)
  ar : ∀ n c, look s.ar n = some c → ∃ ai, gh.ai n = some ai ∧ CellA gh w.heap n ai c
  bx : ∀ n c, look s.bx n = some c → ∃ b, gh.bi n = some b ∧ gh.own b = some (.b n) ∧ CellB gh w.heap b c
  ar0 : ∀ n, look s.ar n = none → gh.ai n = none ∧ ∀ x, gh.own x ≠ some (.a n)
  bx0 : ∀ n, look s.bx n = none → gh.bi n = none ∧ ∀ x, gh.own x ≠ some (.b n)
  own : ∀ x r, gh.own x = some r → ¬ gh.sh x ∧ x < w.heap.size ∧ (x < w0.heap.size → mine x)
  ownb : ∀ x n, gh.own x = some (.b n) → gh.bi n = some x
  ownt : ∀ x n, gh.own x ≠ some (.t n)
  sh : ∀ x, gh.sh x → x < w.heap.size
  np : s.np = pb.length
  pbs : ∀ i b, pb[i]? = some b → gh.bi i = some b
  frm : Frm w0 mine w
  shs : ∀ x, gh.sh x → mine.sh x ∨ mine x ∨ w0.heap.size ≤ x
  fix : ∀ p ∈ mine.fx, a.tmps.getD p.1 undef = p.2
  glb : ∀ p ∈ Glb.l, gh.sh p.1 ∧ w.heap[p.1]? = some p.2
end
/-- a slot that may be written -/
def DOk (N : Nat) (mine : Mine) (d : Nat) : Prop := d < N ∧ ∀ p ∈ mine.fx, p.1 ≠ d
end Go.Pv

set_option linter.unusedSimpArgs false
set_option linter.unusedVariables false
namespace Go.Pv

theorem look_setA {α : Type} (l : List (Nat × α)) (n m : Nat) (x : α) : look (setA l n x) m = if n = m then some x else look l m := by
  induction l with
  | nil => simp [setA, look]
  | cons p l ih =>
    obtain ⟨k, v⟩ := p
    simp only [setA]
    split
    · rename_i hk
      subst hk
      simp only [look]
      split <;> simp_all
    · rename_i hk
      simp only [look, ih]
      by_cases h1 : k = m
      · subst h1
        simp
        intro h2; exact absurd h2.symm hk
      · simp [h1]

variable {w0 : World} {mine : Mine} {N : Nat} {pb : List Nat} {gh : Gh} {s : St} {a : Act} {w : World}

theorem RT.undef {gh : Gh} {h : Array Obj} : RT gh h (.tu []) undef := .tu [] #[] rfl (by simp)

section
variable [Glb]
theorem Inv.putT (H : Inv w0 mine N pb gh s a w) {V : V} {v : Value} (hv : RT gh w.heap V v) {t : Nat} (ht : DOk N mine t) :
    Inv w0 mine N pb gh (s.put (.t t) (.v V)) (a.put (some t) v) w :=
  { H with
    size := by simp [Act.put, H.size]
    defers := H.defers
    fix := by
      intro p hp
      have h1 := ht.2 p hp
      have h2 := H.fix p hp
      simp only [Act.put, Array.getD_eq_getD_getElem?] at h2 ⊢
      rw [Array.getElem?_setIfInBounds_ne (Ne.symm h1)]
      exact h2
    tm := by
      intro m x hx
      simp only [St.put, look_setA] at hx
      simp only [Act.put]
      split at hx
      · rename_i hm
        subst hm
        injection hx with hx
        subst hx
        have : t < a.tmps.size := by rw [H.size]; exact ht.1
        simp [Array.getElem?_setIfInBounds, this]
        exact hv
      · rename_i hm
        have := H.tm m x hx
        simp only [Array.getD_eq_getD_getElem?, Array.getElem?_setIfInBounds_ne hm] at this ⊢
        exact this }
theorem Inv.arg (H : Inv w0 mine N pb gh s a w) {t : Nat} {V : V} (h : look s.tm t = some V) : RT gh w.heap V (a.eval (.tmp t)) := H.tm t V h

/-- what stands for 'r' alone has turned -/
theorem Inv.step (H : Inv w0 mine N pb gh s a w) {gh' : Gh} {s' : St} {w' : World} (ch : Res → Prop)
    (hsh : ∀ x, gh.sh x → gh'.sh x) (hai : ∀ n x, gh.ai n = some x → gh'.ai n = some x) (hbi : ∀ n x, gh.bi n = some x → gh'.bi n = some x)
    (hheap : ∀ x, (gh.sh x ∨ ∃ r, gh.own x = some r ∧ ¬ ch r) → w'.heap[x]? = w.heap[x]?)
    (hown : ∀ r, ¬ ch r → ∀ x, gh'.own x = some r ↔ gh.own x = some r)
    (htm : s'.tm = s.tm) (hnp : s'.np = s.np)
    (har : ∀ n, ¬ ch (.a n) → look s'.ar n = look s.ar n) (hbx : ∀ n, ¬ ch (.b n) → look s'.bx n = look s.bx n)
    (hai0 : ∀ n, ¬ ch (.a n) → gh'.ai n = gh.ai n) (hbi0 : ∀ n, ¬ ch (.b n) → gh'.bi n = gh.bi n)
    (harC : ∀ n, ch (.a n) → ∃ c ai, look s'.ar n = some c ∧ gh'.ai n = some ai ∧ CellA gh' w'.heap n ai c)
    (hbxC : ∀ n, ch (.b n) → ∃ c b, look s'.bx n = some c ∧ gh'.bi n = some b ∧ gh'.own b = some (.b n) ∧ CellB gh' w'.heap b c)
    (hown' : ∀ x r, gh'.own x = some r → ¬ gh'.sh x ∧ x < w'.heap.size ∧ (x < w0.heap.size → mine x))
    (hownb : ∀ x n, ch (.b n) → gh'.own x = some (.b n) → gh'.bi n = some x) (hownt : ∀ x n, gh'.own x ≠ some (.t n))
    (hsh' : ∀ x, gh'.sh x → x < w'.heap.size) (hfrm : Frm w0 mine w') (hshs : ∀ x, gh'.sh x → mine.sh x ∨ mine x ∨ w0.heap.size ≤ x := by exact H.shs) : Inv w0 mine N pb gh' s' a w' := by
  have hrt : ∀ v x, RT gh w.heap v x → RT gh' w'.heap v x := fun v x h => h.mono hsh (fun b hb => hheap b (.inl hb)) hai hbi
  refine { H with tm := ?_, ar := ?_, bx := ?_, ar0 := ?_, bx0 := ?_, own := hown', ownb := ?_, ownt := hownt, sh := hsh', np := by rw [hnp]; exact H.np, pbs := fun i b h => hbi _ _ (H.pbs i b h), frm := hfrm, shs := hshs, glb := fun p hp => ⟨hsh _ (H.glb p hp).1, by rw [hheap _ (.inl (H.glb p hp).1)]; exact (H.glb p hp).2⟩ }
  · intro t v h; rw [htm] at h; exact hrt _ _ (H.tm t v h)
  · intro n c h
    by_cases hc : ch (.a n)
    · obtain ⟨c', ai, h1, h2, h3⟩ := harC n hc
      rw [h1] at h; injection h with h; subst h
      exact ⟨ai, h2, h3⟩
    · rw [har n hc] at h
      obtain ⟨ai, h1, h2⟩ := H.ar n c h
      refine ⟨ai, hai _ _ h1, ?_⟩
      have hF : (fun x => gh'.own x = some (.a n)) = (fun x => gh.own x = some (.a n)) := funext fun x => propext (hown _ hc x)
      cases c with
      | a fz xs =>
        simp only [CellA, RowOk] at h2 ⊢
        cases fz with
        | true => exact ⟨h2.1.mono hsh fun b hb => hheap b (.inl hb), h2.2⟩
        | false =>
          rcases h2 with ⟨e1, e2, e3⟩ | ⟨e1, e2, e3, c, t, e4, e5⟩
          · exact .inl ⟨e1, e2, fun x hx => e3 x ((hown _ hc x).1 hx)⟩
          · refine .inr ⟨?_, e2, (hown _ hc _).2 e3, c, t, ?_, e5⟩
            · rw [hF]
              exact e1.mono hsh (fun b hb => hheap b (.inl hb)) fun b hb => ⟨hheap b (.inr ⟨_, hb, hc⟩), (hown' b _ ((hown _ hc b).2 hb)).1⟩
            · rw [hheap _ (.inr ⟨_, e3, hc⟩)]; exact e4
      | dead => intro x hx; exact h2 x ((hown _ hc x).1 hx)
      | v x => exact h2
      | b cs => exact h2
      | m es => exact h2
      | h xs =>
        obtain ⟨c0, t0, f0, F0, R⟩ := h2
        refine ⟨c0, t0, f0, F0, R.mono hsh (fun x hx => hheap x ?_) (fun x => hown _ hc x) (fun x hx => (hown' x _ hx).1) hrt⟩
        rcases hx with hx | hx
        · exact .inl hx
        · exact .inr ⟨_, hx, hc⟩
  · intro n c h
    by_cases hc : ch (.b n)
    · obtain ⟨c', b, h1, h2, h3, h4⟩ := hbxC n hc
      rw [h1] at h; injection h with h; subst h
      exact ⟨b, h2, h3, h4⟩
    · rw [hbx n hc] at h
      obtain ⟨b, h1, h2, h3⟩ := H.bx n c h
      refine ⟨b, hbi _ _ h1, (hown _ hc b).2 h2, ?_⟩
      have hb : w'.heap[b]? = w.heap[b]? := hheap b (.inr ⟨_, h2, hc⟩)
      cases c with
      | b cs =>
        obtain ⟨vs, t, e1, e2, e3⟩ := h3
        exact ⟨vs, t, by rw [hb]; exact e1, e2, fun i c v hi hv => hrt _ _ (e3 i c v hi hv)⟩
      | m es =>
        obtain ⟨ms, e1, e2⟩ := h3
        exact ⟨ms, by rw [hb]; exact e1, e2⟩
      | a fz xs => exact h3
      | dead => exact h3
      | v x => exact h3
      | h xs => exact h3
  · intro n h
    by_cases hc : ch (.a n)
    · obtain ⟨c', ai, h1, _⟩ := harC n hc
      rw [h1] at h; cases h
    · rw [har n hc] at h
      have := H.ar0 n h
      exact ⟨by rw [hai0 n hc]; exact this.1, fun x hx => this.2 x ((hown _ hc x).1 hx)⟩
  · intro n h
    by_cases hc : ch (.b n)
    · obtain ⟨c', ai, h1, _⟩ := hbxC n hc
      rw [h1] at h; cases h
    · rw [hbx n hc] at h
      have := H.bx0 n h
      exact ⟨by rw [hbi0 n hc]; exact this.1, fun x hx => this.2 x ((hown _ hc x).1 hx)⟩
  · intro x n hx
    by_cases hc : ch (.b n)
    · exact hownb x n hc hx
    · exact hbi _ _ (H.ownb x n ((hown _ hc x).1 hx))
/-- the world has grown, an order was drawn -/
theorem Inv.grow (H : Inv w0 mine N pb gh s a w) {w' : World} (h : ∀ x, x < w.heap.size → w'.heap[x]? = w.heap[x]?) (hs : w.heap.size ≤ w'.heap.size)
    (ho : w'.os = w.os) (ht : w'.tape = w.tape) (hp : w'.output = w.output) : Inv w0 mine N pb gh s a w' :=
  H.step (fun _ => False) (fun _ h => h) (fun _ _ h => h) (fun _ _ h => h)
    (fun x hx => h x (by rcases hx with hx | ⟨r, hx, _⟩; exact H.sh x hx; exact (H.own x r hx).2.1))
    (fun _ _ _ => Iff.rfl) rfl rfl (fun _ _ => rfl) (fun _ _ => rfl) (fun _ _ => rfl) (fun _ _ => rfl) (fun _ h => h.elim) (fun _ h => h.elim)
    (fun x r hx => ⟨(H.own x r hx).1, Nat.lt_of_lt_of_le (H.own x r hx).2.1 hs, (H.own x r hx).2.2⟩) (fun _ _ h => h.elim) H.ownt
    (fun x hx => Nat.lt_of_lt_of_le (H.sh x hx) hs)
    ⟨Nat.le_trans H.frm.size hs, fun x hx hm => by rw [h x (Nat.lt_of_lt_of_le hx H.frm.size)]; exact H.frm.keep x hx hm, by rw [ho]; exact H.frm.os, by rw [ht]; exact H.frm.tape, by rw [hp]; exact H.frm.output, H.frm.szs.trans (.of_eq h)⟩
end
end Go.Pv

namespace Go.Pv

/-! ### out of the program's text -/
def vOf1 : Value → Option V
  | .slice A l c => if A.isNone && l == 0 && c == 0 then some (.ls true []) else none
  | .agg _ => none
  | .tuple _ => none
  | .func (.func f) x y => if x.size == 0 && y.size == 0 then some (.fn f []) else none
  | .func .. => none
  | .pointer (some _) => none
  | .map (some _) => none
  | .iface .. => none
  | v => some (.sc v)
def allSome {α : Type} : List (Option α) → Option (List α)
  | [] => some []
  | some x :: l => (allSome l).map (x :: ·)
  | none :: _ => none
def vOf : Value → Option V
  | .agg cs => (allSome (cs.toList.map vOf1)).map .ag
  | v => vOf1 v
def arOf : Operand → Ar
  | .tmp t => .t t
  | .const v => match vOf v with | some x => .c x | none => .no
  | .func f => .c (.fn f [])
  | .global _ => .no
section
variable (P : Program)
def infoT (t : TypeId) : Option TypeInfo := P.info? t
/-- the cells of a type's zero value -/
def zeroT (t : TypeId) : Option (List V) := (P.info? t).bind fun i => i.zero.bind fun z => (allSome (z.cells.toList.map vOf1)).bind fun l => if l.length = i.size then some l else none
def sizeT (t : TypeId) : Option Nat := (P.info? t).map (·.size)
def bytesT (t : TypeId) : Option Nat := (P.info? t).map (·.bytes)
def aggT (t : TypeId) : Option Bool := match P.underlying t with | some (.struct _) => some true | some (.array _ _) => none | some _ => some false | none => none
def ptrT (t : TypeId) : Bool := match P.info? t with | some i => i.hasPointers | none => true
def elemT (t : TypeId) : Option TypeId := match P.underlying t with | some (.slice e) => some e | _ => none
def fldT (t : TypeId) (f : Nat) : Option Field := match P.underlying t with | some (.struct fs) => fs[f]? | _ => none
def isStr (t : TypeId) : Bool := match P.underlying t with | some .string => true | _ => false
def isMap (t : TypeId) : Option (Bool × TypeId) := match P.underlying t with | some (.map k e) => (match P.underlying k with | some (.int _) => some (false, e) | some .string => some (true, e) | _ => none) | _ => none

def irOp (o : Oper) : IOp :=
  match o.op with
  | .move x | .assign x => .mv (arOf x)
  | .pick c a b => .pick (arOf c) (arOf a) (arOf b)
  | .alloc t => match zeroT P t with | some z => .alloc z | none => .bad
  | .box _ x => .box (arOf x)
  | .load t a => match sizeT P t, aggT P t with | some (n + 1), some g => .load (n + 1) g (arOf a) | _, _ => .bad
  | .store t a x => match sizeT P t with | some n => .store n (arOf a) (arOf x) | _ => .bad
  | .nilCheck x => .nilc (arOf x)
  | .binOp op t x y _ => match P.underlying t with
    | some .bool => (match op with | .eql => .beq false (arOf x) (arOf y) | .neq => .beq true (arOf x) (arOf y) | _ => .bad)
    | _ => .bin op (arOf x) (arOf y)
  | .unOp op _ x => .un op (arOf x)
  | .convert s d x => match P.underlying s, P.underlying d with
    | some (.int _), some (.int k) => .conv k (arOf x)
    | some (.slice e), some .string => (match P.underlying e with | some (.int .u8) => .b2s (arOf x) | _ => .bad)
    | _, _ => .bad
  | .fieldAddr s x f => match fldT P s f with | some fd => (match sizeT P fd.type with | some (_ + 1) => .fld fd.offset (arOf x) | _ => .bad) | none => .bad
  | .field s x f => match fldT P s f with | some fd => (match sizeT P fd.type, aggT P fd.type with | some n, some g => .fget fd.offset n g (arOf x) | _, _ => .bad) | none => .bad
  | .indexAddr t x i => match (elemT P t).bind (sizeT P) with | some s => .idx s (arOf x) (arOf i) | none => .bad
  | .index t x i => if isStr P t then .sidx (arOf x) (arOf i) else .bad
  | .slice t x lo hi mx => match elemT P t with
    | some e => (match sizeT P e with | some s => if mx.isSome && hi.isNone then .bad else .slc s (arOf x) (lo.map arOf) (hi.map arOf) (mx.map arOf) | none => .bad)
    | none => if isStr P t && mx.isNone then .sslc (arOf x) (lo.map arOf) (hi.map arOf) else .bad
  | .build t ps => match P.underlying t, zeroT P t with
    | some (.struct fs), some z => (match fs.toList.mapM (fun f => (P.info? f.type).map fun i => (f.offset, i.size)) with
      | some places => (match allSome (ps.toList.map fun p => (places[p.1]?).map fun q => (q.1, q.2, arOf p.2)) with | some l => .build z l | none => .bad)
      | none => .bad)
    | _, _ => .bad
  | .buildSlice t n ps => match elemT P t with
    | some e => (match zeroT P e with
      | some z => if 0 < z.length ∧ z.length ≤ 10000 ∧ (n ≠ 0 ∨ ps.size = 0) then .bsl z n (ps.toList.map fun p => (p.1, arOf p.2)) else .bad
      | none => .bad)
    | none => .bad
  | .makeSlice t l c => match elemT P t with
    | some e => (match P.info? e, zeroT P e with | some i, some z => if 0 < i.bytes ∧ 0 < i.size then .mksl z i.bytes (arOf l) (arOf c) else .bad | _, _ => .bad)
    | none => .bad
  | .extract x i => .ext i (arOf x)
  | .makeFunc (.func f) fs cs => if fs.size == 0 then .mkfn f (cs.toList.map arOf) else .bad
  | .makeMap _ none => .mkmap
  | .lookup t m k ok => match isMap P t with
    | some (q, e) => (match (P.info? e).bind (·.zero) with
      | some z => (match vOf1 z with | some v => .mget q v ok (arOf m) (arOf k) | none => .bad)
      | none => .bad)
    | none => .bad
  | .mapUpdate t m k x => match isMap P t with | some (q, _) => .mset q (arOf m) (arOf k) (arOf x) | none => .bad
  | .mapEntry t m k => match isMap P t with
    | some (q, e) => (match (P.info? e).bind (·.zero) with
      | some z => (match vOf1 z with | some v => .ment q v (arOf m) (arOf k) | none => .bad)
      | none => .bad)
    | none => .bad
  | .entryStore _ m t x => .mst (arOf m) (arOf t) (arOf x)
  | .call c => match c.callee with
    | .value (.func f) => .call f (c.args.toList.map arOf)
    | .value x => .callv (arOf x) (c.args.toList.map arOf)
    | .builtin .append => match c.args.toList, c.argTypes.toList with
      | [x, y], [s, t] => match elemT P s with
        | some e => (match P.info? e, zeroT P e with
          | some i, some _ => if 0 < i.size ∧ 0 < i.bytes then (if isStr P t then (if i.size = 1 ∧ i.bytes = 1 then .apps (arOf x) (arOf y) else .bad) else if elemT P t = some e then .app i.size i.bytes (ptrT P e) (arOf x) (arOf y) else .bad) else .bad
          | _, _ => .bad)
        | none => .bad
      | _, _ => .bad
    | .builtin .len => match c.args.toList, c.argTypes.toList with
      | [x], t :: _ => match P.underlying t with | some (.slice _) => .len 0 (arOf x) | some .string => .len 1 (arOf x) | some (.map _ _) => .len 2 (arOf x) | _ => .bad
      | _, _ => .bad
    | .builtin .clear => match c.args.toList, c.argTypes.toList with
      | [x], [t] => match elemT P t with | some e => (match zeroT P e with | some z => if 0 < z.length then .clear z (arOf x) else .bad | none => .bad) | none => .bad
      | _, _ => .bad
    | .builtin .copy => match c.args.toList, c.argTypes.toList with
      | [x, y], [t, u] => match elemT P t with | some e => (match P.info? e with | some i => if 0 < i.size ∧ elemT P u = some e then .copy i.size (arOf x) (arOf y) else .bad | none => .bad) | none => .bad
      | _, _ => .bad
    | .builtin .max => match c.args.toList with | [x, y] => .mx (arOf x) (arOf y) | _ => .bad
    | .builtin .min => match c.args.toList with | [x, y] => .mn (arOf x) (arOf y) | _ => .bad
    | _ => .bad
  | _ => .bad
/-- 'tk': variables that take rows out of rows -/
def tkOp (tk : List Nat) (dst : Option Nat) (op : IOp) : IOp := match op, dst with
  | .load n g p, some d => if tk.contains d then .take n g p else if tk.contains (1000000 + d) then .hold n g p else .load n g p
  | .store n (.t q) x, none => if tk.contains (2000000 + q) then .sth n (.t q) x else .store n (.t q) x
  | op, _ => op
variable (tk : List Nat)
def irOpK (o : Oper) : IOp := tkOp tk o.dst (irOp P o)
def irIO (ops : Array Oper) (o : Oper) : Opn := match o.guard with
  | none => ⟨o.dst, irOpK P tk o, none⟩
  | some (j, b) => match (ops[j]?).bind (·.dst) with
    | some t => ⟨o.dst, irOpK P tk o, some (t, b)⟩
    | none => ⟨o.dst, .bad, some (999999, b)⟩
/-- each operation stands behind what it waits for -/
def afterOk (ops : Array Oper) : Bool := ops.zipIdx.all fun p => p.1.after.all fun e => !Region.binds .any e || decide (e.on < p.2)

def confOf (ops : Array Oper) : List (Nat × Nat) :=
  let b := Region.before ops
  (List.range ops.size).flatMap fun j => (List.range j).filterMap fun i => if (b.getD j 0).testBit i then none else some (i, j)
/-- four operations, of which the second and the third come in either order -/
def coinOk (ops : Array Oper) : Bool :=
  decide (ops.size = 4) && (Region.ready .any ops #[false, false, false, false] == [0]) && (Region.ready .any ops #[true, false, false, false] == [1, 2]) && (Region.ready .any ops #[true, true, false, false] == [2]) &&
  (Region.ready .any ops #[true, false, true, false] == [1]) && (Region.ready .any ops #[true, true, true, false] == [3]) && (Region.ready .any ops #[true, true, true, true] == [])
def coinOf (a : Code) : Option (List Opn × List Opn) := match a with
  | .region _ ops true => if coinOk ops then (match ops.toList.map (irIO P tk ops) with | [a, b, c, d] => some ([a, b, c, d], [a, c, b, d]) | _ => none) else none
  | _ => none
def seqC (x : Option (List Opn × List Opn)) (a b : IC) : IC := match x with
  | some p => .alt p.1 p.2 b []
  | none => .seq a b
def irC : Code → IC
  | .skip => .skip
  | .region _ ops dr => if dr && !afterOk ops then .refuse else .region (ops.toList.map (irIO P tk ops)) (if dr then confOf ops else [])
  | .seq a b => seqC (coinOf P tk a) (irC a) (irC b)
  | .cond c x y => .cond (arOf c) (irC x) (irC y)
  | .block id c => .block id (irC c)
  | .loop c => .loop (irC c) [] []
  | .exit id => .exit id
  | .ret => .ret
  | _ => .refuse
end
/-! ### which variables live on -/
def arT : Ar → List Nat | .t n => [n] | _ => []
def opT : IOp → List Nat
  | .mv x | .un _ x | .conv _ x | .b2s x | .box x | .load _ _ x | .take _ _ x | .hold _ _ x | .fld _ x | .fget _ _ _ x | .len _ x | .clear _ x | .ext _ x | .nilc x => arT x
  | .pick c a b => arT c ++ arT a ++ arT b
  | .bin _ x y | .beq _ x y | .store _ x y | .sth _ x y | .idx _ x y | .sidx x y | .app _ _ _ x y | .apps x y | .copy _ x y | .mx x y | .mn x y | .mget _ _ _ x y => arT x ++ arT y
  | .slc _ x a b c => arT x ++ (a.toList ++ b.toList ++ c.toList).flatMap arT
  | .sslc x a b => arT x ++ (a.toList ++ b.toList).flatMap arT
  | .build _ ps => ps.flatMap fun p => arT p.2.2
  | .bsl _ _ ps => ps.flatMap fun p => arT p.2
  | .mksl _ _ x y => arT x ++ arT y
  | .call _ as => as.flatMap arT
  | .callv g as => arT g ++ as.flatMap arT
  | .mkfn _ as => as.flatMap arT
  | .mset _ a b c => arT a ++ arT b ++ arT c
  | .ment _ _ a b => arT a ++ arT b
  | .mst a b c => arT a ++ arT b ++ arT c
  | _ => []
def uni (a b : List Nat) : List Nat := a.foldl (fun l x => if l.contains x then l else l ++ [x]) b
def liveOps : List Opn → List Nat → List Nat
  | [], l => l
  | o :: r, l =>
    let l' := liveOps r l
    let l' := match o.dst with | some d => l'.filter (· != d) | none => l'
    uni (opT o.op ++ (match o.guard with | some (g, _) => [g] | none => [])) l'
def liveC (res : List Nat) : IC → List (Nat × List Nat) → List Nat → List Nat
  | .skip, _, l => l
  | .region ops _, _, l => liveOps ops l
  | .seq a b, es, l => liveC res a es (liveC res b es l)
  | .alt o1 _ z _, es, l => liveOps o1 (liveC res z es l)
  | .cond c x y, es, l => uni (arT c) (uni (liveC res x es l) (liveC res y es l))
  | .block id c, es, l => liveC res c ((id, l) :: es) l
  | .loop c _ _, es, _ => let f := liveC res c es; f (f (f []))
  | .exit id, es, _ => (look es id).getD []
  | .ret, _, _ => res
  | .refuse, _, _ => []
def insertN (x : Nat) : List Nat → List Nat
  | [] => [x]
  | y :: l => if x ≤ y then x :: y :: l else y :: insertN x l
def sortN (l : List Nat) : List Nat := l.foldr insertN []
def keepC (res : List Nat) : IC → List (Nat × List Nat) → List Nat → IC
  | .seq a b, es, l => .seq (keepC res a es (liveC res b es l)) (keepC res b es l)
  | .cond c x y, es, l => .cond c (keepC res x es l) (keepC res y es l)
  | .block id c, es, l => .block id (keepC res c ((id, l) :: es) l)
  | .alt o1 o2 z _, es, l => .alt o1 o2 (keepC res z es l) (sortN (uni l (es.foldr (fun x a => uni x.2 a) res)))
  | .loop c k o, es, l => let h := liveC res (.loop c k o) es l; .loop (keepC res c es h) (sortN h) (sortN (es.foldr (fun x a => uni x.2 a) res))
  | c, _, _ => c
def resOf (P : Program) : ResultVar → Option RI
  | .tmp t => some (.t t)
  | .cell a t => match P.info? t, aggT P t with
    | some i, some g => if i.size ≠ 0 then some (.c a i.size g) else none
    | _, _ => none
/-- the slots that are written are there, and may be written -/
def dstOk (N : Nat) (fx : List Nat) : IC → Bool
  | .region ops _ => ops.all fun o => match o.dst with | some d => decide (d < N) && !fx.contains d | none => true
  | .seq a b => dstOk N fx a && dstOk N fx b
  | .alt o1 _ z _ => (o1.all fun o => match o.dst with | some d => decide (d < N) && !fx.contains d | none => true) && dstOk N fx z
  | .cond _ x y => dstOk N fx x && dstOk N fx y
  | .block _ c => dstOk N fx c
  | .loop c _ _ => dstOk N fx c
  | _ => true
def irOf (P : Program) (lent tk : List Nat) (f : Nat) : Option IFun :=
  (P.funcs[f]?).bind fun fn => fn.body.bind fun c => (allSome (fn.results.toList.map (resOf P))).bind fun res =>
    if dstOk fn.ntmps lent (irC P tk c) && (fn.name != "runtime.NumGoroutine") then some ⟨keepC (res.map RI.tmp ++ lent) (irC P tk c) [] (res.map RI.tmp ++ lent), res, lent, tk⟩ else none
end Go.Pv

set_option linter.unusedSimpArgs false
set_option linter.unusedVariables false
namespace Go.Pv
variable {α : Type} {w0 : World} {mine : Mine} {N : Nat} {pb : List Nat} {gh : Gh} {s : St} {a : Act} {w : World} {g : Ora} {r : α × St} {P : Program} {own : Nat → Nat → Mode}

def OpVal (P : Program) (o : Oper) (a : Act) (w : World) (v : Value) (w' : World) : Prop :=
  (execOp a.eval o).run P w = .ok (.value v) w' ∨ (v = undef ∧ (execOp a.eval o).run P w = .ok .skip w')
section
variable [Glb]
def SemOK (P : Program) (own : Nat → Nat → Mode) (o : Oper) (i : IOp) : Prop :=
  ∀ (α : Type) (w0 : World) (mine : Mine) (N : Nat) (pb : List Nat) (gh : Gh) (s : St) (a : Act) (w : World) (g : Ora) (dst : Nat) (k : V → M α) (r : α × St),
    Inv w0 mine N pb gh s a w → (sem own dst i k).run g s = some r →
    ∃ gh' s1 V v w', (k V).run g s1 = some r ∧ OpVal P o a w v w' ∧ Inv w0 mine N pb gh' s1 a w' ∧ RT gh' w'.heap V v

end
theorem run_fail_ (h : (M.fail : M α).run g s = some r) : False := by simp [M.run] at h
theorem allSome_get {β : Type} : ∀ {l : List (Option β)} {m : List β}, allSome l = some m → l = m.map some
  | [], m, h => by simp [allSome] at h; subst h; rfl
  | some x :: l, m, h => by
    simp only [allSome, Option.map_eq_some_iff] at h
    obtain ⟨m', h1, rfl⟩ := h
    simp [allSome_get h1]
  | none :: l, m, h => by simp [allSome] at h
theorem vOf1_ok {v : Value} {x : V} (h : vOf1 v = some x) (gh : Gh) (H : Array Obj) : RT gh H x v := by
  unfold vOf1 at h
  split at h
  all_goals first
    | cases h; done
    | (split at h
       · rename_i hc; injection h with h; subst h; simp at hc; obtain ⟨⟨rfl, rfl⟩, rfl⟩ := hc; exact .nil none
       · cases h)
    | (split at h
       · rename_i hc; injection h with h; subst h; simp at hc; obtain ⟨rfl, rfl⟩ := hc; exact .fn _ [] #[] rfl (by simp)
       · cases h)
    | (injection h with h; subst h; refine .sc _ ?_; cases v <;> simp_all [Value.oneCell'])
theorem RT.scV {gh : Gh} {h : Array Obj} {v x : Value} (H : RT gh h (.sc v) x) : x = v ∧ v.oneCell' = true := by cases H; exact ⟨rfl, ‹_›⟩
theorem RT.bxV {gh : Gh} {h : Array Obj} {n off : Nat} {x : Value} (H : RT gh h (.bx n off) x) : ∃ b, gh.bi n = some b ∧ x = .pointer (some ⟨b, off, none⟩) := by cases H; exact ⟨_, ‹_›, rfl⟩
theorem RT.mpV {gh : Gh} {h : Array Obj} {n : Nat} {x : Value} (H : RT gh h (.mp n) x) : ∃ b, gh.bi n = some b ∧ x = .map (some b) := by cases H; exact ⟨_, ‹_›, rfl⟩
theorem RT.epV {gh : Gh} {h : Array Obj} {n i off : Nat} {x : Value} (H : RT gh h (.ep n i off) x) : ∃ ai, gh.ai n = some ai ∧ x = .pointer (some ⟨ai.b, ai.base + i * ai.s + off, none⟩) := by cases H; exact ⟨_, ‹_›, rfl⟩
theorem RT.fpV {gh : Gh} {h : Array Obj} {xs : List (List V)} {i off : Nat} {x : Value} (H : RT gh h (.fp xs i off) x) : ∃ b base s cap, FR gh.sh h (.ls false xs) (.slice (some ⟨b, base, none⟩) xs.length cap) ∧ i < xs.length ∧ (∀ (i : Nat) (cs : List V), xs[i]? = some cs → cs.length = s) ∧ x = .pointer (some ⟨b, base + i * s + off, none⟩) := by cases H; exact ⟨_, _, _, _, ‹_›, ‹_›, ‹_›, rfl⟩
theorem RT.fnV {gh : Gh} {h : Array Obj} {f : Nat} {cs : List V} {x : Value} (H : RT gh h (.fn f cs) x) : ∃ vs, x = .func (.func f) #[] vs ∧ cs.length = vs.size ∧ ∀ (i : Nat) (c : V) (v : Value), cs[i]? = some c → vs[i]? = some v → RT gh h c v := by cases H; exact ⟨_, rfl, ‹_›, ‹_›⟩
theorem RT.agV {gh : Gh} {h : Array Obj} {cs : List V} {x : Value} (H : RT gh h (.ag cs) x) : ∃ vs, x = .agg vs ∧ cs.length = vs.size ∧ ∀ (i : Nat) (c : V) (v : Value), cs[i]? = some c → vs[i]? = some v → RT gh h c v := by cases H; exact ⟨_, rfl, ‹_›, ‹_›⟩
theorem RT.tuV {gh : Gh} {h : Array Obj} {cs : List V} {x : Value} (H : RT gh h (.tu cs) x) : ∃ vs, x = .tuple vs ∧ cs.length = vs.size ∧ ∀ (i : Nat) (c : V) (v : Value), cs[i]? = some c → vs[i]? = some v → RT gh h c v := by cases H; exact ⟨_, rfl, ‹_›, ‹_›⟩
theorem RT.rfV {gh : Gh} {h : Array Obj} {n off len : Nat} {x : Value} (H : RT gh h (.rf n off len) x) : ∃ ai A c, gh.ai n = some ai ∧ len ≤ c ∧ off + c ≤ ai.cap ∧ (c = 0 ∨ A = some ⟨ai.b, ai.base + off * ai.s, none⟩) ∧ x = .slice A len c := by cases H; exact ⟨_, _, _, ‹_›, ‹_›, ‹_›, ‹_›, rfl⟩
theorem RT.lsV {gh : Gh} {h : Array Obj} {o : Bool} {xs : List (List V)} {x : Value} (H : RT gh h (.ls o xs) x) : (o = false ∧ FR gh.sh h (.ls false xs) x) ∨ (o = true ∧ xs = [] ∧ ∃ A, x = .slice A 0 0) := by
  cases H
  · exact .inl ⟨rfl, ‹_›⟩
  · exact .inr ⟨rfl, rfl, _, rfl⟩
theorem run_info {P : Program} {t : TypeId} {i : TypeInfo} (h : P.info? t = some i) (w : World) : (typeInfo t).run P w = .ok i w := by simp [typeInfo, h]
theorem run_size {P : Program} {t : TypeId} {i : TypeInfo} (h : P.info? t = some i) (w : World) : (sizeOf t).run P w = .ok i.size w := by simp [sizeOf, run_info h]
theorem vOf_ok {v : Value} {x : V} (h : vOf v = some x) (gh : Gh) (H : Array Obj) : RT gh H x v := by
  unfold vOf at h
  split at h
  · rename_i cs
    obtain ⟨m, h1, rfl⟩ := Option.map_eq_some_iff.1 h
    have h2 := allSome_get h1
    refine .ag m cs ?_ ?_
    · have := congrArg List.length h2; simpa using this.symm
    · intro i c v hc hv
      refine vOf1_ok ?_ gh H
      have := congrArg (·[i]?) h2
      simp [hc] at this
      have hi : cs.toList[i]? = some v := by simpa using hv
      simp [hv] at this
      exact this
  · exact vOf1_ok h gh H
section
variable [Glb]
theorem get_ok (H : Inv w0 mine N pb gh s a w) {y : Operand} {k : V → M α} (h : ((arOf y).get k).run g s = some r) : ∃ V, (k V).run g s = some r ∧ RT gh w.heap V (a.eval y) := by
  cases y with
  | tmp t =>
    simp only [arOf, Ar.get, M.run, St.get] at h
    cases hl : look s.tm t with
    | none => rw [hl] at h; exact (run_fail_ h).elim
    | some V => rw [hl] at h; exact ⟨V, h, H.arg hl⟩
  | const v =>
    simp only [arOf] at h
    cases hv : vOf v with
    | none => rw [hv] at h; exact (run_fail_ h).elim
    | some V => rw [hv] at h; exact ⟨V, h, vOf_ok hv _ _⟩
  | func f => exact ⟨_, h, .fn f [] #[] rfl (by simp)⟩
  | global n => exact (run_fail_ h).elim
end
theorem asB_ok {V : V} {v : Value} (hv : RT gh w.heap V v) {k : Bool → M α} (h : (asB V k).run g s = some r) : ∃ b, V = .sc (.bool b) ∧ v = .bool b ∧ (k b).run g s = some r := by
  unfold asB at h
  split at h
  · exact ⟨_, rfl, hv.scV.1, h⟩
  · exact (run_fail_ h).elim
theorem asI_ok {V : V} {v : Value} (hv : RT gh w.heap V v) {k : Int → M α} (h : (asI V k).run g s = some r) : ∃ q n, V = .sc (.int q n) ∧ v = .int q n ∧ (k n).run g s = some r := by
  unfold asI at h
  split at h
  · exact ⟨_, _, rfl, hv.scV.1, h⟩
  · exact (run_fail_ h).elim
theorem asS_ok {V : V} {v : Value} (hv : RT gh w.heap V v) {k : ByteArray → M α} (h : (asS V k).run g s = some r) : ∃ t, V = .sc (.string t) ∧ v = .string t ∧ (k t).run g s = some r := by
  unfold asS at h
  split at h
  · exact ⟨_, rfl, hv.scV.1, h⟩
  · exact (run_fail_ h).elim
theorem optK_ok {x : Option V} {k : V → M α} (h : (optK x k).run g s = some r) : ∃ v, x = some v ∧ (k v).run g s = some r := by
  cases x with
  | none => exact (run_fail_ h).elim
  | some v => exact ⟨v, rfl, h⟩
theorem chk_ok {b : Bool} {k : M α} (h : (chk b k).run g s = some r) : b = true ∧ k.run g s = some r := by
  cases b with
  | false => exact (run_fail_ h).elim
  | true => exact ⟨rfl, h⟩
section
variable [Glb]
theorem rdA_ok (H : Inv w0 mine N pb gh s a w) {n : Nat} {k : Bool → List (List V) → M α} (h : (rdA n k).run g s = some r) :
    ∃ fz xs ai, look s.ar n = some (.a fz xs) ∧ gh.ai n = some ai ∧ RowOk gh w.heap n ai fz xs ∧ (k fz xs).run g s = some r := by
  simp only [rdA, M.run, St.get] at h
  split at h
  · rename_i fz xs hl
    obtain ⟨ai, h1, h2⟩ := H.ar n _ hl
    exact ⟨fz, xs, ai, hl, h1, h2, h⟩
  · exact (run_fail_ h).elim
theorem rdB_ok (H : Inv w0 mine N pb gh s a w) {n : Nat} {k : List V → M α} (h : (rdB n k).run g s = some r) :
    ∃ cs b, look s.bx n = some (.b cs) ∧ gh.bi n = some b ∧ gh.own b = some (.b n) ∧ BoxOk gh w.heap b cs ∧ (k cs).run g s = some r := by
  simp only [rdB, M.run, St.get] at h
  split at h
  · rename_i cs hl
    obtain ⟨b, h1, h2, h3⟩ := H.bx n _ hl
    exact ⟨cs, b, hl, h1, h2, h3, h⟩
  · exact (run_fail_ h).elim
theorem rdM_ok (H : Inv w0 mine N pb gh s a w) {n : Nat} {k : MapV → M α} (h : (rdM n k).run g s = some r) :
    ∃ es b, look s.bx n = some (.m es) ∧ gh.bi n = some b ∧ gh.own b = some (.b n) ∧ MapOk w.heap b es ∧ (k es).run g s = some r := by
  simp only [rdM, M.run, St.get] at h
  split at h
  · rename_i es hl
    obtain ⟨b, h1, h2, h3⟩ := H.bx n _ hl
    exact ⟨es, b, hl, h1, h2, h3, h⟩
  · exact (run_fail_ h).elim
/-- what turns nothing -/
theorem quiet_ok {o : Oper} {k : V → M α} (H : Inv w0 mine N pb gh s a w) {V : V} {v : Value} (h : (k V).run g s = some r) (hr : (execOp a.eval o).run P w = .ok (.value v) w) (hv : RT gh w.heap V v) :
    ∃ gh' s1 V v w', (k V).run g s1 = some r ∧ OpVal P o a w v w' ∧ Inv w0 mine N pb gh' s1 a w' ∧ RT gh' w'.heap V v := ⟨gh, s, V, v, w, h, .inl hr, H, hv⟩

theorem mv_ok {o : Oper} {x : Operand} (ho : o.op = .move x ∨ o.op = .assign x) : SemOK P own o (.mv (arOf x)) := by
  intro α w0 mine N pb gh s a w g dst k r H h
  obtain ⟨V, h1, h2⟩ := get_ok H h
  refine quiet_ok H h1 ?_ h2
  rcases ho with ho | ho <;> simp [execOp, ho]
theorem pick_ok {o : Oper} {c x y : Operand} (ho : o.op = .pick c x y) : SemOK P own o (.pick (arOf c) (arOf x) (arOf y)) := by
  intro α w0 mine N pb gh s a w g dst k r H h
  obtain ⟨V, h1, h2⟩ := get_ok H h
  obtain ⟨b, rfl, hb, h3⟩ := asB_ok h2 h1
  cases b with
  | true =>
    obtain ⟨V, h4, h5⟩ := get_ok H h3
    exact quiet_ok H h4 (by simp [execOp, ho, hb, asBool]) h5
  | false =>
    obtain ⟨V, h4, h5⟩ := get_ok H h3
    exact quiet_ok H h4 (by simp [execOp, ho, hb, asBool]) h5
theorem un_ok {o : Oper} {op : UnOp} {t : TypeId} {x : Operand} (ho : o.op = .unOp op t x) : SemOK P own o (.un op (arOf x)) := by
  intro α w0 mine N pb gh s a w g dst k r H h
  cases op with
  | not =>
    obtain ⟨V, h1, h2⟩ := get_ok H h
    obtain ⟨b, rfl, hb, h3⟩ := asB_ok h2 h1
    exact quiet_ok H h3 (by simp [execOp, ho, hb, Op.unary]) (.sc _ rfl)
  | neg =>
    obtain ⟨V, h1, h2⟩ := get_ok H h
    split at h1
    · rename_i b n
      refine quiet_ok H h1 (v := .int b (b.wrap (0 - n))) ?_ (.sc _ rfl)
      simp [execOp, ho, Op.unary, Op.intArith, h2.scV.1]
    · exact (run_fail_ h1).elim
  | xor => exact (run_fail_ h).elim
  | plus => exact (run_fail_ h).elim
end
end Go.Pv

set_option linter.unusedSimpArgs false
set_option linter.unusedVariables false
namespace Go.Pv
variable {α : Type} {w0 : World} {mine : Mine} {N : Nat} {pb : List Nat} {gh : Gh} {s : St} {a : Act} {w : World} {g : Ora} {r : α × St} {P : Program} {own : Nat → Nat → Mode}

theorem and_mask (j : Nat) (hj : j ≤ 62) (n m : Int) (hm : m = 2 ^ j - 1) : IntKind.i64.wrap ((BitVec.ofInt 64 n &&& BitVec.ofInt 64 m).toNat : Int) = n % 2 ^ j := by
  have h1 : (BitVec.ofInt 64 m).toNat = 2 ^ j - 1 := by
    rw [BitVec.toNat_ofInt, hm]
    have h4 : ((2 ^ j : Nat) : Int) = (2 : Int) ^ j := by simp
    have h5 : 1 ≤ 2 ^ j := Nat.one_le_two_pow
    have h2 : (2 ^ j : Nat) ≤ 2 ^ 62 := Nat.pow_le_pow_right (by omega) hj
    rw [← h4, Int.emod_eq_of_lt (by omega) (by omega)]
    omega
  rw [BitVec.toNat_and, h1, Nat.and_two_pow_sub_one_eq_mod, BitVec.toNat_ofInt]
  have h6 : (2 ^ j : Nat) ≤ 2 ^ 62 := Nat.pow_le_pow_right (by omega) hj
  have h7 : 0 < 2 ^ j := Nat.two_pow_pos j
  have h8 : ((2 ^ j : Nat) : Int) = (2 : Int) ^ j := by simp
  have h9 : (((n % ((2 ^ 64 : Nat) : Int)).toNat % 2 ^ j : Nat) : Int) = n % 2 ^ j := by
    rw [Int.natCast_emod, Int.toNat_of_nonneg (Int.emod_nonneg _ (by omega)), h8]
    have : (2 : Int) ^ j ∣ ((2 ^ 64 : Nat) : Int) := by
      rw [← h8]
      exact Int.natCast_dvd_natCast.2 (Nat.pow_dvd_pow 2 (by omega))
    exact Int.emod_emod_of_dvd n this
  rw [h9]
  have h10 := Int.emod_nonneg n (show (2 : Int) ^ j ≠ 0 by omega)
  have h11 := Int.emod_lt_of_pos n (show (0 : Int) < 2 ^ j by omega)
  rw [IntKind.wrap_i64]
  omega
theorem eqGuard_int (op : BinOp) (t : TypeId) (x y : Operand) (k k' : IntKind) (n m : Int) (w : World) : (eqGuard op t x y (.int k n) (.int k' m)).run P w = .ok () w := by
  unfold eqGuard; cases op <;> rfl
theorem eqGuard_bool (op : BinOp) (t : TypeId) (x y : Operand) (n m : Bool) (w : World) : (eqGuard op t x y (.bool n) (.bool m)).run P w = .ok () w := by
  unfold eqGuard; cases op <;> rfl
theorem eqGuard_str (op : BinOp) (t : TypeId) (x y : Operand) (n m : ByteArray) (w : World) : (eqGuard op t x y (.string n) (.string m)).run P w = .ok () w := by
  unfold eqGuard; cases op <;> rfl
theorem bytes_toList (a : ByteArray) : a.toList = a.data.toList := ByteArray.toList_eq a
theorem str_beq (a b : ByteArray) : (a.toList == b.toList) = decide (a = b) := by
  rw [bytes_toList, bytes_toList, Bool.eq_iff_iff]
  simp only [beq_iff_eq, decide_eq_true_eq]
  constructor
  · intro e; cases a; cases b; simp at e ⊢; exact e
  · rintro rfl; rfl
section
variable [Glb]
theorem bin_ok {o : Oper} {op : BinOp} {t t' : TypeId} {x y : Operand} (ho : o.op = .binOp op t x y t') : SemOK P own o (.bin op (arOf x) (arOf y)) := by
  intro α w0 mine N pb gh s a w g dst k r H h
  obtain ⟨V1, h1, h2⟩ := get_ok H h
  obtain ⟨V2, h3, h4⟩ := get_ok H h1
  obtain ⟨V, h5, h6⟩ := optK_ok h3
  have hex : execOp a.eval o = (do pure (Next.value (← (do eqGuard op t x y (a.eval x) (a.eval y); binOp op t (a.eval x) (a.eval y))))) := by simp [execOp, ho]
  suffices hs : ∃ v, (binOp op t (a.eval x) (a.eval y)).run P w = .ok v w ∧ (eqGuard op t x y (a.eval x) (a.eval y)).run P w = .ok () w ∧ RT gh w.heap V v by
    obtain ⟨v, e1, e2, e3⟩ := hs
    refine quiet_ok H h6 (v := v) ?_ e3
    rw [hex]
    simp [e1, e2]
  unfold binV at h5
  split at h5
  · rename_i k1 n k2 m
    rw [h2.scV.1, h4.scV.1]
    simp only [eqGuard_int]
    split at h5
    · split at h5
      · rename_i hc; obtain ⟨c1, c2, rfl⟩ := hc
        injection h5 with h5; subst h5
        refine ⟨_, ?_, trivial, .sc _ rfl⟩
        have e : ¬ m < 0 := by omega
        have e2 : min m.toNat IntKind.i64.bits = m.toNat := Nat.min_eq_left (by show m.toNat ≤ 64; omega)
        simp [binOp, Op.shift, e, e2]
      · cases h5
    · split at h5
      · rename_i hc; obtain ⟨c1, c2, c3⟩ := hc
        injection h5 with h5; subst h5
        refine ⟨_, ?_, trivial, .sc _ rfl⟩
        have e : ¬ m < 0 := by omega
        have e2 : min m.toNat k1.bits = m.toNat := Nat.min_eq_left (by rcases c3 with rfl | rfl <;> (show m.toNat ≤ 64; omega))
        have e3 : n.fdiv (2 ^ m.toNat) = n / 2 ^ m.toNat := Int.fdiv_eq_ediv_of_nonneg n (Int.le_of_lt (Int.pow_pos (by omega)))
        simp [binOp, Op.shift, e, e2, e3]
      · cases h5
    · split at h5
      · rename_i hc; obtain ⟨rfl, rfl⟩ := hc
        injection h5 with h5; subst h5
        refine ⟨_, ?_, trivial, .sc _ rfl⟩
        simp only [binOp, Op.intBits]
        rfl
      · cases h5
    · split at h5
      · rename_i hc; subst hc
        unfold binB at h5
        split at h5
        · have hb : ∀ j, j ≤ 62 → m = 2 ^ j - 1 → (binOp .and t (.int .i64 n) (.int .i64 m)).run P w = .ok (.int .i64 (n % 2 ^ j)) w := by
            intro j hj hm
            have := and_mask j hj n m hm
            simp only [binOp, Op.intBits]
            simp [IntKind.bits] at this ⊢
            exact this
          repeat' split at h5
          all_goals first
            | cases h5; done
            | (injection h5 with h5; subst h5; refine ⟨_, ?_, trivial, .sc _ rfl⟩; first | exact hb 3 (by omega) (by omega) | exact hb 8 (by omega) (by omega) | exact hb 32 (by omega) (by omega) | exact hb 30 (by omega) (by omega))
        · cases h5
      · cases h5
    · split at h5
      · rename_i hc; subst hc
        unfold binI at h5
        split at h5
        case h_1 => injection h5 with h5; subst h5; exact ⟨_, by simp [binOp, Op.intArith], trivial, .sc _ rfl⟩
        case h_2 => injection h5 with h5; subst h5; exact ⟨_, by simp [binOp, Op.intArith], trivial, .sc _ rfl⟩
        case h_3 => injection h5 with h5; subst h5; exact ⟨_, by simp [binOp, Op.intArith], trivial, .sc _ rfl⟩
        case h_4 =>
          split at h5
          · cases h5
          · rename_i hm; injection h5 with h5; subst h5; exact ⟨_, by simp [binOp, Op.intDiv, hm], trivial, .sc _ rfl⟩
        case h_5 =>
          split at h5
          · cases h5
          · rename_i hm; injection h5 with h5; subst h5; exact ⟨_, by simp [binOp, Op.intDiv, hm], trivial, .sc _ rfl⟩
        case h_6 => injection h5 with h5; subst h5; exact ⟨.bool (decide (n = m)), by simp [binOp, Op.intCmp]; rfl, trivial, .sc _ rfl⟩
        case h_7 => injection h5 with h5; subst h5; exact ⟨.bool !(decide (n = m)), by simp [binOp, Op.intCmp, bne]; rfl, trivial, .sc _ rfl⟩
        case h_8 => injection h5 with h5; subst h5; exact ⟨_, by simp [binOp, Op.intCmp], trivial, .sc _ rfl⟩
        case h_9 => injection h5 with h5; subst h5; exact ⟨_, by simp [binOp, Op.intCmp], trivial, .sc _ rfl⟩
        case h_10 => injection h5 with h5; subst h5; exact ⟨_, by simp [binOp, Op.intCmp], trivial, .sc _ rfl⟩
        case h_11 => injection h5 with h5; subst h5; exact ⟨_, by simp [binOp, Op.intCmp], trivial, .sc _ rfl⟩
        case h_12 => cases h5
      · cases h5
  · rename_i s1 s2
    rw [h2.scV.1, h4.scV.1]
    simp only [eqGuard_str]
    split at h5
    · split at h5
      · rename_i hc
        injection h5 with h5; subst h5
        refine ⟨_, ?_, trivial, .sc _ rfl⟩
        have : ¬ (((s1.size + s2.size : Nat) : Int) > IntKind.i64.max) := by
          have : IntKind.i64.max = 9223372036854775807 := rfl
          omega
        simp only [binOp, Op.stringOp]
        rw [if_neg this]
        rfl
      · cases h5
    · injection h5 with h5; subst h5
      exact ⟨.bool (decide (s1 = s2)), by simp [binOp, Op.stringOp, str_beq], trivial, .sc _ rfl⟩
    · injection h5 with h5; subst h5
      exact ⟨.bool !(decide (s1 = s2)), by simp [binOp, Op.stringOp, str_beq], trivial, .sc _ rfl⟩
    · cases h5
  · cases h5
end
end Go.Pv

set_option linter.unusedSimpArgs false
set_option linter.unusedVariables false
namespace Go.Pv
variable {α : Type} {w0 : World} {mine : Mine} {N : Nat} {pb : List Nat} {gh : Gh} {s : St} {a : Act} {w : World} {g : Ora} {r : α × St} {P : Program} {own : Nat → Nat → Mode}

theorem add_mk (b off n : Nat) : (⟨b, off, none⟩ : Addr).add n = ⟨b, off + n, none⟩ := by unfold Addr.add; split <;> simp_all
theorem cell_at {w : World} {b : Nat} {c : Array Value} {t : TypeId} {fz : Nat × Nat} (h : w.heap[b]? = some (.cells c t fz)) (off : Nat) : w.cell? ⟨b, off, none⟩ = c[off]? := by
  simp [World.cell?, h]
theorem eval_v {o : Oper} {x : Sem Value} {v : Value} (he : execOp a.eval o = (do pure (Next.value (← x)))) (hx : x.run P w = .ok v w) : (execOp a.eval o).run P w = .ok (.value v) w := by
  rw [he]; simp [hx]
section
variable [Glb]
theorem beq_ok {o : Oper} {op : BinOp} {t t' : TypeId} {x y : Operand} {neg : Bool} (ho : o.op = .binOp op t x y t') (ht : P.underlying t = some .bool) (hn : op = if neg then .neq else .eql) : SemOK P own o (.beq neg (arOf x) (arOf y)) := by
  intro α w0 mine N pb gh s a w g dst k r H h
  obtain ⟨V1, h1, h2⟩ := get_ok H h
  obtain ⟨V2, h3, h4⟩ := get_ok H h1
  obtain ⟨p, rfl, h5, h6⟩ := asB_ok h2 h3
  obtain ⟨q, rfl, h7, h8⟩ := asB_ok h4 h6
  refine quiet_ok H h8 (v := .bool (if neg then !(p == q) else p == q)) (eval_v (x := do eqGuard op t x y (a.eval x) (a.eval y); binOp op t (a.eval x) (a.eval y)) (by simp [execOp, ho]) ?_) (.sc _ rfl)
  rw [h5, h7]
  cases neg
  · simp at hn; subst hn; simp [eqGuard_bool, run_eql_bool w t p q ht]
  · simp at hn; subst hn; simp [eqGuard_bool, run_neq_bool w t p q ht]
theorem conv_ok {o : Oper} {st dt : TypeId} {x : Operand} {k1 k2 : IntKind} (ho : o.op = .convert st dt x) (h1 : P.underlying st = some (.int k1)) (h2 : P.underlying dt = some (.int k2)) : SemOK P own o (.conv k2 (arOf x)) := by
  intro α w0 mine N pb gh s a w g dst k r H h
  obtain ⟨V, h3, h4⟩ := get_ok H h
  obtain ⟨q, n, rfl, h5, h6⟩ := asI_ok h4 h3
  refine quiet_ok H h6 (v := .int k2 (k2.wrap n)) (eval_v (x := convert st dt (a.eval x)) (by simp [execOp, ho]) ?_) (.sc _ rfl)
  rw [h5]
  simp [convert, run_underlying h1, run_underlying h2, Conv.intToInt]
theorem ext_ok {o : Oper} {x : Operand} {i : Nat} (ho : o.op = .extract x i) : SemOK P own o (.ext i (arOf x)) := by
  intro α w0 mine N pb gh s a w g dst k r H h
  obtain ⟨V, h3, h4⟩ := get_ok H h
  split at h3
  · rename_i vs
    obtain ⟨v, h5, h6⟩ := optK_ok h3
    obtain ⟨xs, hx, hl, hr⟩ := h4.tuV
    have hi : i < xs.size := by rw [← hl]; exact (List.getElem?_eq_some_iff.1 h5).1
    refine quiet_ok H h6 (v := xs[i]) (eval_v (x := Instr.extract (a.eval x) i) (by simp [execOp, ho]) ?_) (hr i v _ h5 (Array.getElem?_eq_getElem hi))
    rw [hx]
    simp [Instr.extract, hi]
  · exact (run_fail_ h3).elim
theorem mx_ok {o : Oper} {c : Call} {x y : Operand} (ho : o.op = .call c) (hc : c.callee = .builtin .max) (ha : c.args.toList = [x, y]) : SemOK P own o (.mx (arOf x) (arOf y)) := by
  intro α w0 mine N pb gh s a w g dst k r H h
  obtain ⟨V1, h1, h2⟩ := get_ok H h
  obtain ⟨V2, h3, h4⟩ := get_ok H h1
  have ha' : c.args = #[x, y] := by rw [← Array.toList_inj, ha]
  split at h3
  · refine quiet_ok H h3 ?_ (.sc _ rfl)
    simp [execOp, ho, resolve, hc, invoke, builtin, ha', Builtin.max_, h2.scV.1, h4.scV.1, Builtin.max2]
  · exact (run_fail_ h3).elim
theorem mn_ok {o : Oper} {c : Call} {x y : Operand} (ho : o.op = .call c) (hc : c.callee = .builtin .min) (ha : c.args.toList = [x, y]) : SemOK P own o (.mn (arOf x) (arOf y)) := by
  intro α w0 mine N pb gh s a w g dst k r H h
  obtain ⟨V1, h1, h2⟩ := get_ok H h
  obtain ⟨V2, h3, h4⟩ := get_ok H h1
  have ha' : c.args = #[x, y] := by rw [← Array.toList_inj, ha]
  split at h3
  · refine quiet_ok H h3 ?_ (.sc _ rfl)
    simp [execOp, ho, resolve, hc, invoke, builtin, ha', Builtin.min_, h2.scV.1, h4.scV.1, Builtin.min2]
  · exact (run_fail_ h3).elim
theorem gets_ok (H : Inv w0 mine N pb gh s a w) : ∀ {ys : List Operand} {k : List V → M α}, (getsA (ys.map arOf) k).run g s = some r →
    ∃ Vs, (k Vs).run g s = some r ∧ Vs.length = ys.length ∧ ∀ (i : Nat) (c : V) (v : Value), Vs[i]? = some c → (ys.map a.eval)[i]? = some v → RT gh w.heap c v
  | [], k, h => ⟨[], h, rfl, by simp⟩
  | y :: ys, k, h => by
    obtain ⟨V, h1, h2⟩ := get_ok H h
    obtain ⟨Vs, h3, h4, h5⟩ := gets_ok H h1
    refine ⟨V :: Vs, h3, by simp [h4], ?_⟩
    intro i c v hc hv
    cases i with
    | zero => simp at hc hv; subst hc; subst hv; exact h2
    | succ i => simp at hc; exact h5 i c v hc (by simpa using hv)
theorem mkfn_ok {o : Oper} {f : Nat} {fs cs : Array Operand} (ho : o.op = .makeFunc (.func f) fs cs) (hf : fs.size = 0) : SemOK P own o (.mkfn f (cs.toList.map arOf)) := by
  intro α w0 mine N pb gh s a w g dst k r H h
  obtain ⟨Vs, h1, h2, h3⟩ := gets_ok H h
  have hf' : fs = #[] := by simpa using hf
  subst hf'
  refine quiet_ok H h1 (v := .func (.func f) #[] (cs.map a.eval)) (by simp [execOp, ho, Instr.makeFunc]) (.fn f Vs _ (by simp [h2]) ?_)
  intro i c v hc hv
  exact h3 i c v hc (by simpa using hv)
theorem nilc_ok {o : Oper} {x : Operand} (ho : o.op = .nilCheck x) : SemOK P own o (.nilc (arOf x)) := by
  intro α w0 mine N pb gh s a w g dst k r H h
  obtain ⟨V, h1, h2⟩ := get_ok H h
  split at h1
  · obtain ⟨b, h3, h4⟩ := h2.bxV
    exact quiet_ok H h1 (v := a.eval x) (by simp [execOp, ho, h4]) h2
  · obtain ⟨b, h3, h4⟩ := h2.epV
    exact quiet_ok H h1 (v := a.eval x) (by simp [execOp, ho, h4]) h2
  · obtain ⟨b, base, s', cap, h3, h4, h5, h6⟩ := h2.fpV
    exact quiet_ok H h1 (v := a.eval x) (by simp [execOp, ho, h6]) h2
  · obtain ⟨vs, h3, h4, h5⟩ := h2.fnV
    exact quiet_ok H h1 (v := a.eval x) (by simp [execOp, ho, h3]) h2
  · exact (run_fail_ h1).elim
theorem fld_ok {o : Oper} {st : TypeId} {x : Operand} {f : Nat} {fs : Array Field} {fd : Field} {i : TypeInfo} (ho : o.op = .fieldAddr st x f) (h1 : P.underlying st = some (.struct fs)) (h2 : fs[f]? = some fd) (h3 : P.info? fd.type = some i) (h4 : i.size ≠ 0) :
    SemOK P own o (.fld fd.offset (arOf x)) := by
  intro α w0 mine N pb gh s a w g dst k r H h
  obtain ⟨V, h5, h6⟩ := get_ok H h
  have key : ∀ b off, a.eval x = .pointer (some ⟨b, off, none⟩) → (execOp a.eval o).run P w = .ok (.value (.pointer (some ⟨b, off + fd.offset, none⟩))) w := by
    intro b off he
    refine eval_v (x := Instr.fieldAt st (a.eval x) f) (by simp [execOp, ho]) ?_
    rw [he]
    have hs := run_size h3 w
    simp [Instr.fieldAt, run_underlying h1, h2, Instr.sureAddr, fieldPlace, hs, h4, add_mk]
  split at h5
  · obtain ⟨b, h7, h8⟩ := h6.bxV
    exact quiet_ok H h5 (key _ _ h8) (.bx _ _ _ h7)
  · obtain ⟨ai, h7, h8⟩ := h6.epV
    refine quiet_ok H h5 (key _ _ h8) ?_
    rw [Nat.add_assoc]
    exact .ep _ _ _ ai h7
  · obtain ⟨b, base, s', cap, h7, h8, h9, h10⟩ := h6.fpV
    refine quiet_ok H h5 (key _ _ h10) ?_
    rw [Nat.add_assoc]
    exact .fp _ _ _ b base s' cap h7 h8 h9
  · exact (run_fail_ h5).elim
end
end Go.Pv

set_option linter.unusedSimpArgs false
set_option linter.unusedVariables false
namespace Go.Pv
variable {α : Type} {w0 : World} {mine : Mine} {N : Nat} {pb : List Nat} {gh : Gh} {s : St} {a : Act} {w : World} {g : Ora} {r : α × St} {P : Program} {own : Nat → Nat → Mode}

theorem FR.lsV {sh : BSet} {h : Array Obj} {o : Bool} {xs : List (List V)} {x : Value} (H : FR sh h (.ls o xs) x) : ∃ A cap, x = .slice A xs.length cap ∧ xs.length ≤ cap := by
  cases H with
  | nil _ A cap => exact ⟨A, cap, rfl, Nat.zero_le _⟩
  | ls _ _ b base s cap c f hb hc hl h1 h2 h3 => exact ⟨_, cap, rfl, hl⟩
/-- a row's element, cell by cell -/
theorem FR.at {sh : BSet} {h : Array Obj} {o : Bool} {xs : List (List V)} {b base cap n : Nat} (H : FR sh h (.ls o xs) (.slice (some ⟨b, base, none⟩) n cap)) {i : Nat} {cs : List V} (hi : xs[i]? = some cs) :
    ∃ s c t fz, sh b ∧ h[b]? = some (.cells c t fz) ∧ (∀ (i : Nat) (cs : List V), xs[i]? = some cs → cs.length = s) ∧ ∀ (j : Nat) (v : V), cs[j]? = some v → ∃ x, c[base + i * s + j]? = some x ∧ FR sh h v x := by
  generalize hx : Value.slice (some ⟨b, base, none⟩) n cap = X at H
  cases H with
  | nil _ A cap => simp at hi
  | ls _ _ b' base' s cap' c f hb hc hl h1 h2 h3 =>
    injection hx with e1 e2 e3
    injection e1 with e1
    injection e1 with e1 e4 e5
    subst e1 e4
    obtain ⟨t, fz, hc⟩ := hc
    exact ⟨s, c, t, fz, hb, hc, h1, fun j v hj => ⟨_, h2 i cs j v hi hj, h3 i cs j v hi hj⟩⟩
theorem RowOk.at {n : Nat} {ai : AI} {fz : Bool} {xs : List (List V)} {h : Array Obj} (H : RowOk gh h n ai fz xs) {i : Nat} {cs : List V} (hi : xs[i]? = some cs) :
    cs.length = ai.s ∧ ∃ c t z, h[ai.b]? = some (.cells c t z) ∧ ∀ (j : Nat) (v : V), cs[j]? = some v → ∃ x, c[ai.base + i * ai.s + j]? = some x ∧ (if fz then FR gh.sh h v x else ∃ F, OR gh.sh h v x F) := by
  cases fz with
  | true =>
    obtain ⟨h1, h2⟩ := H
    have hl := h2 cs (List.mem_of_getElem? hi)
    obtain ⟨s', c, t, z, h3, h4, h5, h6⟩ := h1.at hi
    have : s' = ai.s := by rw [← h5 i cs hi, hl]
    subst this
    exact ⟨hl, c, t, z, h4, fun j v hj => by simpa using h6 j v hj⟩
  | false =>
    rcases H with ⟨rfl, _⟩ | ⟨h1, h2, h3, c0, t0, h4, h5⟩
    · simp at hi
    · have hl := h2 cs (List.mem_of_getElem? hi)
      generalize hF : (fun x => gh.own x = some (Res.a n)) = F at h1
      generalize hx : Value.slice (some ⟨ai.b, ai.base, none⟩) xs.length ai.cap = X at h1
      cases h1 with
      | nil A _ e => simp at hi
      | own _ b' base' s' cap' c t f Fs _ e0 e1 e2 e3 e4 e5 e6 e7 e8 e9 e10 e11 =>
        injection hx with q1 q2 q3
        injection q1 with q1
        injection q1 with q1 q4 q5
        subst q1 q4
        have : s' = ai.s := by rw [← e4 i cs hi, hl]
        subst this
        exact ⟨hl, c, t, (0, 0), e1, fun j v hj => ⟨_, e5 i cs j v hi hj, by simpa using ⟨_, e6 i cs j v hi hj⟩⟩⟩
theorem ld1_ok {fz : Bool} {v u : V} {x : Value} {h : Array Obj} (hv : ld1 fz v = some u) (hx : if fz then FR gh.sh h v x else ∃ F, OR gh.sh h v x F) : RT gh h u x := by
  cases v with
  | sc y =>
    simp [ld1] at hv; subst hv
    cases fz with
    | true => simp at hx; cases hx; exact .sc _ ‹_›
    | false => simp at hx; obtain ⟨F, hx⟩ := hx; cases hx; exact .sc _ ‹_›
  | ls o xs =>
    cases o with
    | false =>
      simp [ld1] at hv; subst hv
      cases fz with
      | true => simp at hx; exact .fz _ _ hx
      | false => simp at hx; obtain ⟨F, hx⟩ := hx; cases hx; exact .fz _ _ ‹_›
    | true =>
      cases xs with
      | nil =>
        simp [ld1] at hv; subst hv
        cases fz with
        | true => simp at hx; exact .fz _ _ (hx.flag false)
        | false =>
          simp at hx; obtain ⟨F, hx⟩ := hx
          cases hx with
          | nil A _ e => exact .fz _ _ (.nil false A 0)
          | own _ b' base' s' cap' c t f Fs _ e0 e1 e2 e3 e4 e5 e6 e7 e8 e9 e10 e11 => exact absurd rfl e0
      | cons y ys =>
        cases fz with
        | true =>
          simp [ld1] at hv; subst hv
          simp at hx
          exact .fz _ _ hx.frz
        | false => simp [ld1] at hv
  | rf _ _ _ => simp [ld1] at hv
  | ag _ => simp [ld1] at hv
  | tu _ => simp [ld1] at hv
  | bx _ _ => simp [ld1] at hv
  | ep _ _ _ => simp [ld1] at hv
  | fp _ _ _ => simp [ld1] at hv
  | fn _ _ => simp [ld1] at hv
  | mp _ => simp [ld1] at hv
theorem ldL_ok {fz : Bool} : ∀ {cs us : List V}, ldL fz cs = some us → us.length = cs.length ∧ ∀ (i : Nat) (u : V), us[i]? = some u → ∃ v, cs[i]? = some v ∧ ld1 fz v = some u
  | [], us, h => by simp [ldL] at h; subst h; simp
  | v :: l, us, h => by
    simp only [ldL] at h
    split at h
    · rename_i x r' h1 h2
      injection h with h; subst h
      obtain ⟨h3, h4⟩ := ldL_ok h2
      refine ⟨by simp [h3], ?_⟩
      intro i u hu
      cases i with
      | zero => simp at hu; subst hu; exact ⟨v, rfl, h1⟩
      | succ i => simp at hu; simpa using h4 i u hu
    · cases h
theorem agg_run {t : TypeId} {ag : Bool} (hg : aggT P t = some ag) (w : World) : (isAgg t).run P w = .ok ag w := by
  unfold aggT at hg
  unfold isAgg
  cases hu : P.underlying t with
  | none => rw [hu] at hg; cases hg
  | some d =>
    rw [hu] at hg
    simp only [Sem.run_bind, run_underlying hu, Result.andThen_ok]
    cases d <;> first | cases hg; done | (injection hg with hg; subst hg; rfl)
/-- 'n' cells from a place on, of which something is known each, read as a variable of type 't' -/
theorem load_run {t : TypeId} {i : TypeInfo} {ag : Bool} (hi : P.info? t = some i) (hg : aggT P t = some ag) {b off : Nat} {c : Array Value} {ty : TypeId} {z : Nat × Nat} (hb : w.heap[b]? = some (.cells c ty z))
    (hag : ag = true → off + i.size ≤ c.size) (hone : ag = false → off < c.size) :
    (Instr.loadAt t (.pointer (some ⟨b, off, none⟩))).run P w = .ok (if ag then .agg ((c.toList.drop off).take i.size).toArray else c.getD off undef) w := by
  unfold Instr.loadAt loadVar
  have hA := agg_run hg w
  cases ag with
  | true =>
    have hlen : ((c.toList.drop off).take i.size).length = i.size := by
      have := hag rfl
      simp; omega
    have hc : (loadCells ⟨b, off, none⟩ i.size).run P w = .ok ((c.toList.drop off).take i.size).toArray w := by
      have := run_loadCells_list (P := P) (w := w) ⟨b, off, none⟩ ((c.toList.drop off).take i.size) (fun j v hj => by
        rw [add_mk, cell_at hb]
        rw [List.getElem?_take] at hj
        split at hj
        · simpa using hj
        · cases hj)
      rw [hlen] at this
      exact this
    simp [Instr.sureAddr, hA, run_size hi, hc]
  | false =>
    have := hone rfl
    simp [Instr.sureAddr, hA, cell_at hb, this]
end Go.Pv

set_option linter.unusedSimpArgs false
set_option linter.unusedVariables false
namespace Go.Pv
variable {α : Type} {w0 : World} {mine : Mine} {N : Nat} {pb : List Nat} {gh : Gh} {s : St} {a : Act} {w : World} {g : Ora} {r : α × St} {P : Program} {own : Nat → Nat → Mode}

/-- a part of an aggregate whose cells are told -/
theorem part_ok {h : Array Obj} {c : Array Value} {cs : List V} (hc : cs.length = c.size) (hr : ∀ (i : Nat) (x : V) (v : Value), cs[i]? = some x → c[i]? = some v → RT gh h x v) (off n : Nat) (hn : off + n ≤ cs.length) :
    RT gh h (.ag ((cs.drop off).take n)) (.agg ((c.toList.drop off).take n).toArray) := by
  refine .ag _ _ (by simp; omega) ?_
  intro i x v hx hv
  simp only [List.getElem?_toArray] at hv
  rw [List.getElem?_take] at hx hv
  split at hx
  · rename_i hi
    simp [hi] at hv
    rw [List.getElem?_drop] at hx
    exact hr _ x v hx hv
  · cases hx
theorem ldN_ok {t : TypeId} {i : TypeInfo} {ag fz : Bool} (hi : P.info? t = some i) (hg : aggT P t = some ag) (h0 : i.size ≠ 0) {b off base : Nat} {c : Array Value} {ty : TypeId} {z : Nat × Nat} (hb : w.heap[b]? = some (.cells c ty z))
    {cs : List V} (hcs : ∀ (j : Nat) (v : V), cs[j]? = some v → ∃ x, c[base + j]? = some x ∧ (if fz then FR gh.sh w.heap v x else ∃ F, OR gh.sh w.heap v x F)) {U : V} (hU : ldN i.size ag fz cs off = some U) :
    ∃ v, (Instr.loadAt t (.pointer (some ⟨b, base + off, none⟩))).run P w = .ok v w ∧ RT gh w.heap U v := by
  unfold ldN at hU
  cases ag with
  | true =>
    simp only [if_true] at hU
    split at hU
    · rename_i hle
      obtain ⟨us, h1, rfl⟩ := Option.map_eq_some_iff.1 hU
      obtain ⟨h2, h3⟩ := ldL_ok h1
      have hl : us.length = i.size := by rw [h2]; simp; omega
      have hsz : base + off + i.size ≤ c.size := by
        have hj : off + i.size - 1 < cs.length := by omega
        obtain ⟨x, hx, _⟩ := hcs (off + i.size - 1) _ (List.getElem?_eq_getElem hj)
        have := (Array.getElem?_eq_some_iff.1 hx).1
        omega
      refine ⟨_, load_run hi hg hb (fun _ => hsz) (fun h => by cases h), ?_⟩
      simp only [if_true]
      refine .ag _ _ (by simp; omega) ?_
      intro j u v hu hv
      obtain ⟨y, hy, hld⟩ := h3 j u hu
      rw [List.getElem?_take] at hy
      split at hy
      · rename_i hj
        rw [List.getElem?_drop] at hy
        obtain ⟨x, hx, hF⟩ := hcs _ y hy
        have : v = x := by
          simp only [List.getElem?_toArray] at hv
          rw [List.getElem?_take, if_pos hj, List.getElem?_drop] at hv
          rw [show base + (off + j) = base + off + j by omega] at hx
          simp at hv
          rw [hx] at hv
          injection hv with hv
          exact hv.symm
        subst this
        exact ld1_ok hld hF
      · cases hy
    · cases hU
  | false =>
    simp only [Bool.false_eq_true, if_false] at hU
    split at hU
    · rename_i y hy
      obtain ⟨x, hx, hF⟩ := hcs off y hy
      have hlt := (Array.getElem?_eq_some_iff.1 hx).1
      refine ⟨_, load_run hi hg hb (fun h => by cases h) (fun _ => hlt), ?_⟩
      have : c.getD (base + off) undef = x := by simp [Array.getD_eq_getD_getElem?, hx]
      simp only [Bool.false_eq_true, if_false, this]
      exact ld1_ok hU hF
    · cases hU
section
variable [Glb]
theorem load_ok {o : Oper} {t : TypeId} {x : Operand} {i : TypeInfo} {ag : Bool} (ho : o.op = .load t x) (hi : P.info? t = some i) (hg : aggT P t = some ag) (h0 : i.size ≠ 0) : SemOK P own o (.load i.size ag (arOf x)) := by
  intro α w0 mine N pb gh s a w g dst k r H h
  obtain ⟨V, h1, h2⟩ := get_ok H h
  have hex : execOp a.eval o = (do pure (Next.value (← Instr.loadAt t (a.eval x)))) := by simp [execOp, ho]
  split at h1
  · rename_i b off
    obtain ⟨bb, h3, h4⟩ := h2.bxV
    obtain ⟨cs, b', h5, h6, h7, ⟨vs, ty, h8, h9, h10⟩, h11⟩ := rdB_ok H h1
    rw [h3] at h6; injection h6 with h6; subst h6
    split at h11
    · rename_i hag
      subst hag
      split at h11
      · rename_i hle
        refine quiet_ok H h11 (eval_v hex ?_) (part_ok h9 h10 off i.size hle)
        rw [h4]
        have := load_run (w := w) hi hg h8 (off := off) (fun _ => by omega) (fun h => by cases h)
        simpa using this
      · exact (run_fail_ h11).elim
    · rename_i hag
      simp at hag
      subst hag
      obtain ⟨v, h12, h13⟩ := optK_ok h11
      have hlt : off < vs.size := by rw [← h9]; exact (List.getElem?_eq_some_iff.1 h12).1
      refine quiet_ok H h13 (v := vs[off]) (eval_v hex ?_) (h10 off v _ h12 (Array.getElem?_eq_getElem hlt))
      rw [h4]
      have := load_run (w := w) hi hg h8 (off := off) (fun h => by cases h) (fun _ => hlt)
      simpa [hlt] using this
  · rename_i n ix off
    obtain ⟨ai, h3, h4⟩ := h2.epV
    obtain ⟨fz, xs, ai', h5, h6, h7, h8⟩ := rdA_ok H h1
    rw [h3] at h6; injection h6 with h6; subst h6
    split at h8
    · rename_i cs hcs
      obtain ⟨U, h9, h10⟩ := optK_ok h8
      obtain ⟨h11, c, ty, z, h12, h13⟩ := h7.at hcs
      obtain ⟨v, h14, h15⟩ := ldN_ok hi hg h0 h12 h13 h9
      exact quiet_ok H h10 (eval_v hex (by rw [h4]; exact h14)) h15
    · exact (run_fail_ h8).elim
  · rename_i xs ix off
    obtain ⟨b, base, s', cap, h3, h4, h5, h6⟩ := h2.fpV
    split at h1
    · rename_i cs hcs
      obtain ⟨U, h9, h10⟩ := optK_ok h1
      obtain ⟨s'', c, ty, z, h11, h12, h13, h14⟩ := h3.at hcs
      have : s'' = s' := by rw [← h13 _ _ hcs, h5 _ _ hcs]
      subst this
      obtain ⟨v, h15, h16⟩ := ldN_ok (fz := true) hi hg h0 h12 (by simpa using h14) h9
      exact quiet_ok H h10 (eval_v hex (by rw [h6]; exact h15)) h16
    · exact (run_fail_ h1).elim
  · exact (run_fail_ h1).elim
theorem fget_ok {o : Oper} {t : TypeId} {x : Operand} {f : Nat} {fs : Array Field} {fd : Field} {i : TypeInfo} {ag : Bool} (ho : o.op = .field t x f) (h1 : P.underlying t = some (.struct fs)) (h2 : fs[f]? = some fd)
    (hi : P.info? fd.type = some i) (hg : aggT P fd.type = some ag) : SemOK P own o (.fget fd.offset i.size ag (arOf x)) := by
  intro α w0 mine N pb gh s a w g dst k r H h
  obtain ⟨V, h3, h4⟩ := get_ok H h
  have hA := agg_run hg w
  split at h3
  · rename_i cs
    obtain ⟨vs, h5, h6, h7⟩ := h4.agV
    have hex : execOp a.eval o = (do pure (Next.value (← Instr.field t (a.eval x) f))) := by simp [execOp, ho]
    split at h3
    · rename_i hag
      subst hag
      split at h3
      · rename_i hle
        refine quiet_ok H h3 (eval_v hex ?_) (part_ok h6 h7 fd.offset i.size hle)
        rw [h5]
        simp [Instr.field, run_underlying h1, h2, asAgg, part, hA, run_size hi]
        rw [← Array.toList_inj]
        simp [List.take_drop]
      · exact (run_fail_ h3).elim
    · rename_i hag
      simp at hag
      subst hag
      obtain ⟨v, h12, h13⟩ := optK_ok h3
      have hlt : fd.offset < vs.size := by rw [← h6]; exact (List.getElem?_eq_some_iff.1 h12).1
      refine quiet_ok H h13 (v := vs[fd.offset]) (eval_v hex ?_) (h7 _ v _ h12 (Array.getElem?_eq_getElem hlt))
      rw [h5]
      simp [Instr.field, run_underlying h1, h2, asAgg, part, hA, hlt]
  · exact (run_fail_ h3).elim
end
end Go.Pv
