/- Trees: what the law's own helpers come to: the bulk, a copy, a comparison. No condition. -/
import Derived.Test.YtpjfnjnidmlhcaaXFnExactDeep
import Derived.Test.YtpjfnjnidmlhcaaPl
namespace Go.Proofs.Ytpjfnjnidmlhcaa.XFnExactDeep
open Go.RowKit Go.Proofs.YtpjfnjnidmlhcaaW.PrintWords Go.Proofs.Ytpjfnjnidmlhcaa.Pl
set_option linter.unusedVariables false

abbrev NA := S41
abbrev NB := S46
theorem now_one {α : Type} {g : Nat → Option α} {r : α} (h : ∀ k, g (k + 1) = some r) : Ev g r := ⟨1, fun k hk => by
  obtain ⟨m, rfl⟩ : ∃ m, k = m + 1 := ⟨k - 1, by omega⟩
  exact h m⟩
theorem now_all {α : Type} {g : Nat → Option α} {r : α} (h : ∀ k, g k = some r) : Ev g r := ⟨0, fun k _ => h k⟩

mutual
/-- how many nodes there are -/
def many : NA → Nat
  | ⟨_, _, _, ks⟩ => manys ks + 1
def manys : List NA → Nat
  | [] => 0
  | x :: r => many x + manys r
end
mutual
def manyB : NB → Nat
  | ⟨_, _, _, ks⟩ => manysB ks + 1
def manysB : List NB → Nat
  | [] => 0
  | x :: r => manyB x + manysB r
end
mutual
/-- how much the law's szNode counts -/
def bulk : NA → Nat
  | ⟨_, s, _, ks⟩ => s.size + bulks ks
def bulks : List NA → Nat
  | [] => 0
  | x :: r => bulk x + 1 + bulks r
end
mutual
def fits : NA → Prop
  | ⟨_, s, _, ks⟩ => s.size ≤ maxLen ∧ ks.length ≤ maxLen ∧ fitss ks
def fitss : List NA → Prop
  | [] => True
  | x :: r => fits x ∧ fitss r
end
mutual
def conv : NA → NB
  | ⟨o, s, n, ks⟩ => ⟨o, s, n, convs ks⟩
def convs : List NA → List NB
  | [] => []
  | x :: r => conv x :: convs r
end
theorem convs_map (l : List NA) : convs l = l.map conv := by
  induction l with
  | nil => rfl
  | cons x r ih => simp [convs, ih]
theorem convs_len (l : List NA) : (convs l).length = l.length := by rw [convs_map, List.length_map]
theorem many_mem {x : NA} {l : List NA} (h : x ∈ l) : many x ≤ manys l := by
  induction l with
  | nil => simp at h
  | cons y r ih =>
    unfold manys
    rcases List.mem_cons.1 h with rfl | h
    · omega
    · have := ih h; omega
theorem manyB_mem {x : NB} {l : List NB} (h : x ∈ l) : manyB x ≤ manysB l := by
  induction l with
  | nil => simp at h
  | cons y r ih =>
    unfold manysB
    rcases List.mem_cons.1 h with rfl | h
    · omega
    · have := ih h; omega
theorem fits_mem {x : NA} {l : List NA} (hl : fitss l) (h : x ∈ l) : fits x := by
  induction l with
  | nil => simp at h
  | cons y r ih =>
    unfold fitss at hl
    rcases List.mem_cons.1 h with rfl | h
    · exact hl.1
    · exact ih hl.2 h
theorem fitss_of {l : List NA} (h : ∀ x ∈ l, fits x) : fitss l := by
  induction l with
  | nil => trivial
  | cons y r ih => exact ⟨h y (by simp), ih (fun x hx => h x (by simp [hx]))⟩
theorem bulks_take (l : List NA) (i : Nat) (h : i < l.length) : bulks (l.take (i + 1)) = bulks (l.take i) + bulk l[i] + 1 := by
  induction l generalizing i with
  | nil => simp at h
  | cons y r ih =>
    cases i with
    | zero => simp [bulks]
    | succ i =>
      have h' : i < r.length := by simpa using h
      have := ih i h'
      simp only [List.take_succ_cons, bulks, List.getElem_cons_succ]
      omega
theorem bulk_mem {x : NA} {l : List NA} (h : x ∈ l) : bulk x + 1 ≤ bulks l := by
  induction l with
  | nil => simp at h
  | cons y r ih =>
    unfold bulks
    rcases List.mem_cons.1 h with rfl | h
    · omega
    · have := ih h; omega
theorem bulks_len (l : List NA) : l.length ≤ bulks l := by
  induction l with
  | nil => simp
  | cons y r ih => simp only [bulks, List.length_cons]; omega
mutual
theorem many_le (x : NA) : many x ≤ bulk x + 1 := by
  cases x with
  | mk o s n ks =>
    have := manys_le ks
    simp only [many, bulk]
    omega
theorem manys_le (l : List NA) : manys l ≤ bulks l := by
  cases l with
  | nil => simp [manys]
  | cons x r =>
    have := many_le x
    have := manys_le r
    simp only [manys, bulks]
    omega
end
mutual
theorem manyB_conv (x : NA) : manyB (conv x) = many x := by
  cases x with
  | mk o s n ks => simp only [conv, manyB, many, manysB_conv ks]
theorem manysB_conv (l : List NA) : manysB (convs l) = manys l := by
  cases l with
  | nil => rfl
  | cons x r => simp only [convs, manysB, manys, manyB_conv x, manysB_conv r]
end

theorem etaB (x : NB) : (⟨x.f0, x.f1, x.f2, x.f3⟩ : NB) = x := by cases x; rfl
theorem rdA (xs : List NA) (i : Nat) (h : i < xs.length) : rd_T41 xs (i : Int) = xs[i] := getD_nat _ xs i h
theorem rdB (xs : List NB) (i : Nat) (h : i < xs.length) : rd_T46 xs (i : Int) = xs[i] := getD_nat _ xs i h

theorem sz_ev (N : Nat) : (∀ (x : NA) (a : Int), many x ≤ N → fits x → 0 ≤ a → a ≤ 1048576 → ∃ r, Ev (fun k => laws_szNode.f k x.f0 x.f1 x.f2 x.f3 a) r ∧ (r = -1 ∨ 0 ≤ r ∧ r + bulk x = a)) := by
  induction N with
  | zero =>
    intro x a hm
    cases x
    simp [many] at hm
  | succ N ih =>
    intro x a hm hf h0 ha
    obtain ⟨o, s, n, ks⟩ := x
    simp only [fits, maxLen] at hf
    simp only [many] at hm
    obtain ⟨f1, f2, f3⟩ := hf
    have hlist : ∀ (b : Int), 0 ≤ b → b ≤ 1048576 → ∃ r, Ev (fun k => laws_szNodeS.f k ks b) r ∧ (r = -1 ∨ 0 ≤ r ∧ r + bulks ks = b) := by
      intro b b0 b1
      by_cases h1 : b - (ks.length : Int) < 0
      · refine ⟨-1, now_one (fun k => ?_), .inl rfl⟩
        simp only [laws_szNodeS.f]
        rw [w64 _ (by omega) (by omega), if_pos h1]
      · have key := ev_inv (fun k i (s : Int) => laws_szNodeS.l0 k ks s i) ks.length (fun i s => 0 ≤ s ∧ s ≤ 1048576 ∧ s + ks.length + bulks (ks.take i) = b + i) (fun r => r = -1 ∨ 0 ≤ r ∧ r + bulks ks = b) (by
          intro s ⟨q0, q1, q2⟩
          refine ⟨s, now_one (fun k => ?_), .inr ⟨q0, by rw [List.take_length] at q2; omega⟩⟩
          simp only [laws_szNodeS.l0]
          rw [if_neg (by omega)]) (by
          intro i s hi ⟨q0, q1, q2⟩ ih2
          have hmem := List.getElem_mem hi
          obtain ⟨z, hz, hq⟩ := ih ks[i] s (by have := many_mem hmem; omega) (fits_mem f3 hmem) q0 q1
          have e : ∀ k, laws_szNodeS.l0 (k + 1) ks s (i : Int) = (laws_szNode.f k ks[i].f0 ks[i].f1 ks[i].f2 ks[i].f3 s).bind fun t => if t < 0 then some (-1) else laws_szNodeS.l0 k ks t ((i + 1 : Nat) : Int) := by
            intro k
            simp only [laws_szNodeS.l0]
            rw [if_pos (by omega), if_pos (by omega), rdA _ _ hi, w64n i (by omega)]
          rcases hq with rfl | ⟨h2, h3⟩
          · exact ⟨-1, Ev.step e (Ev.bind hz (Ev.now _)), .inl rfl⟩
          · obtain ⟨r, hr, hq⟩ := ih2 z ⟨h2, by omega, by have := bulks_take ks i hi; omega⟩
            refine ⟨r, Ev.step e (Ev.bind hz ?_), hq⟩
            simp only [if_neg (show ¬ z < 0 by omega)]
            exact hr) 0 (b - ks.length) (Nat.zero_le _) ⟨by omega, by omega, by simp [bulks]⟩
        obtain ⟨r, hr, hq⟩ := key
        refine ⟨r, Ev.step (fun k => ?_) hr, hq⟩
        simp only [laws_szNodeS.f]
        rw [w64 _ (by omega) (by omega), if_neg h1]
        rfl
    by_cases h1 : a - (s.size : Int) < 0
    · refine ⟨-1, now_one (fun k => ?_), .inl rfl⟩
      simp only [laws_szNode.f]
      rw [w64 _ (by omega) (by omega), if_pos h1]
    · obtain ⟨r, hr, hq⟩ := hlist (a - s.size) (by omega) (by omega)
      refine ⟨r, Ev.step (f := fun k => (laws_szNodeS.f k ks (a - s.size)).bind fun t => if t < 0 then some (-1) else some t) (fun k => ?_) (Ev.bind hr ?_), ?_⟩
      · simp only [laws_szNode.f]
        rw [w64 _ (by omega) (by omega), if_neg h1]
      · rcases hq with rfl | ⟨q0, q1⟩
        · exact Ev.now _
        · simp only [if_neg (show ¬ r < 0 by omega)]
          exact Ev.now _
      · rcases hq with rfl | ⟨q0, q1⟩
        · exact .inl rfl
        · exact .inr ⟨q0, by simp only [bulk]; omega⟩

theorem to_ev (N : Nat) : ∀ (x : NA), many x ≤ N → bulk x ≤ 1048576 → Ev (fun k => laws_toNode.f k x.f0 x.f1 x.f2 x.f3) ((conv x).f0, (conv x).f1, (conv x).f2, (conv x).f3) := by
  induction N with
  | zero =>
    intro x hm
    cases x
    simp [many] at hm
  | succ N ih =>
    intro x hm hb
    obtain ⟨o, s, n, ks⟩ := x
    simp only [many] at hm
    simp only [bulk] at hb
    have hlen := bulks_len ks
    have key := copy_loop ks conv z46 (by omega) (fun k ys i => laws_toNodeS.l0 k ks ys i) (by
      intro k ys hy
      simp only [laws_toNodeS.l0]
      rw [if_neg (by omega)]) (by
      intro i hi ys hy r hr
      have hmem := List.getElem_mem hi
      have e : ∀ k, laws_toNodeS.l0 (k + 1) ks ys (i : Int) = (laws_toNode.f k ks[i].f0 ks[i].f1 ks[i].f2 ks[i].f3).bind fun t => laws_toNodeS.l0 k ks (ys.set i ⟨t.1, t.2.1, t.2.2.1, t.2.2.2⟩) ((i + 1 : Nat) : Int) := by
        intro k
        simp only [laws_toNodeS.l0, if_pos (show (i : Int) < (ks.length : Int) by omega), if_pos (show (0 : Int) ≤ (i : Int) by omega), if_pos (show (i : Int) < (ys.length : Int) by omega), rdA _ _ hi, w64n i (by omega), Int.toNat_natCast]
      exact Ev.step e (Ev.bind (ih ks[i] (by have := many_mem hmem; omega) (by have := bulk_mem hmem; omega)) (by simp only [etaB]; exact hr)))
    rw [← convs_map] at key
    have h2 : Ev (fun k => laws_toNodeS.f k ks) (convs ks) := by
      refine Ev.step (fun k => ?_) key
      simp only [laws_toNodeS.f]
      rw [if_pos (by omega), if_pos (by rw [Int.toNat_natCast]; omega), Int.toNat_natCast]
    exact Ev.step (f := fun k => (laws_toNodeS.f k ks).bind fun t => some (o, s, n, t)) (fun k => by simp only [laws_toNode.f]) (Ev.bind h2 (Ev.now _))

theorem eq_ev (N : Nat) : ∀ (x : NB), manyB x ≤ N → N ≤ 1048577 → Ev (fun k => laws_eqNode.f k x.f0 x.f1 x.f2 x.f3 x.f0 x.f1 x.f2 x.f3) true := by
  induction N with
  | zero =>
    intro x hm
    cases x
    simp [manyB] at hm
  | succ N ih =>
    intro x hm hN
    obtain ⟨o, s, n, ks⟩ := x
    simp only [manyB] at hm
    have hlen : ks.length ≤ manysB ks := by
      clear ih hm
      induction ks with
      | nil => simp
      | cons y r ih =>
        have : 1 ≤ manyB y := by cases y; simp [manyB]
        simp only [manysB, List.length_cons]
        omega
    have key := ev_for (fun k i (_ : Unit) => laws_eqNodeS.l0 k ks ks i) ks.length (fun _ _ => true) (by
      intro _
      refine now_one (fun k => ?_)
      simp only [laws_eqNodeS.l0]
      rw [if_neg (by omega)]) (by
      intro i _ hi ih2
      have hmem := List.getElem_mem hi
      have e : ∀ k, laws_eqNodeS.l0 (k + 1) ks ks (i : Int) = (laws_eqNode.f k ks[i].f0 ks[i].f1 ks[i].f2 ks[i].f3 ks[i].f0 ks[i].f1 ks[i].f2 ks[i].f3).bind fun t => if t = true then laws_eqNodeS.l0 k ks ks ((i + 1 : Nat) : Int) else some false := by
        intro k
        simp only [laws_eqNodeS.l0, if_pos (show (i : Int) < (ks.length : Int) by omega), if_pos (show (0 : Int) ≤ (i : Int) by omega), rdB _ _ hi, w64n i (by omega)]
      refine Ev.step e (Ev.bind (ih ks[i] (by have := manyB_mem hmem; omega) (by omega)) ?_)
      simp only [if_true]
      exact ih2 ()) 0 () (Nat.zero_le _)
    have h2 : Ev (fun k => laws_eqNodeS.f k ks ks) true := by
      refine Ev.step (fun k => ?_) key
      simp only [laws_eqNodeS.f, if_true]
      rfl
    refine Ev.step (f := fun k => (laws_eqNodeS.f k ks ks).bind fun t => if t = true then some true else some false) (fun k => by simp only [laws_eqNode.f, if_true]) (Ev.bind h2 ?_)
    simp only [if_true]
    exact Ev.now _
end Go.Proofs.Ytpjfnjnidmlhcaa.XFnExactDeep
