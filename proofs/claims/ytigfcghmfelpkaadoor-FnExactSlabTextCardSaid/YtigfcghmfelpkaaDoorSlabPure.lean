/- The law FnExactSlabText, of whatever slab: the reference's text and the program's are the same. No condition but the kind's range. -/
import Derived.Test.YtigfcghmfelpkaaDoorSlabDigits
import Derived.Laws.BitsLemmas
import Derived.Lib.Join
namespace Go.Proofs.YtigfcghmfelpkaaDoor.XFnExactSlabText
open Go.RowKit Go.Proofs.YtigfcghmfelpkaaDoorW.PrintWords Go.Proofs.YtigfcghmfelpkaaDoor.Pl
set_option linter.unusedVariables false

def i64 (n : Int) : Prop := -9223372036854775808 ≤ n ∧ n ≤ 9223372036854775807
def kd (w : Int) : Int := Go.bits .and .i64 w 7
theorem wraps_i64 (n : Int) (h₀ : 0 ≤ n) (h₁ : n < 2 ^ 63) : IntKind.i64.wrap n = n := by rw [IntKind.wrap_i64]; omega
theorem kd_eq (w : Int) (h0 : 0 ≤ w) (h1 : w ≤ 9223372036854775807) : kd w = w % 8 := bits_mask .i64 63 (by decide) wraps_i64 3 (by decide) w h0 (by omega)
theorem rdI (xs : List Int) (i : Nat) (h : i < xs.length) : rd xs (i : Int) = xs[i] := getD_nat _ xs i h
theorem rdI' (xs : List Int) (i : Int) (h0 : 0 ≤ i) (h : i < xs.length) : rd xs i ∈ xs := by
  obtain ⟨n, rfl⟩ : ∃ n : Nat, i = n := ⟨i.toNat, by omega⟩
  rw [rdI xs n (by omega)]
  exact List.getElem_mem _
theorem ba_size (a : ByteArray) : a.size = a.data.toList.length := by rw [Array.length_toList]; rfl
theorem ba_append (a b : ByteArray) : (a ++ b).data.toList = a.data.toList ++ b.data.toList := by
  rw [ByteArray.data_append, Array.toList_append]
theorem in_spec (a b c : Int) : spec_l1In.f a b c = some (decide (b ≤ a ∧ a ≤ c)) := by
  unfold spec_l1In.f
  by_cases h : a ≥ b
  · rw [if_pos h]; simp [show b ≤ a from h]
  · rw [if_neg h]; simp; omega
theorem in_impl (a b c : Int) : impl_within.f a b c = some (decide (b ≤ a ∧ a ≤ c)) := by
  unfold impl_within.f
  by_cases h : a ≥ b
  · rw [if_pos h]; simp [show b ≤ a from h]
  · rw [if_neg h]; simp; omega
theorem itoa_f (n : Int) (h0 : -9223372036854775808 ≤ n) (h1 : n ≤ 9223372036854775807) : strconv_Itoa.f n = some (mk (Lib.itoa n)) := by
  unfold strconv_Itoa.f
  rw [if_pos ⟨h0, h1⟩]
  rfl
theorem ev_late {β : Type} {g h : Nat → Option β} {r : β} (K : Nat) (e : ∀ k, K ≤ k → g (k + 1) = h k) : Ev h r → Ev g r := fun ⟨M, hM⟩ => ⟨K + M + 1, fun k hk => by
  obtain ⟨m, rfl⟩ : ∃ m, k = m + 1 := ⟨k - 1, by omega⟩
  rw [e m (by omega)]
  exact hM m (by omega)⟩
theorem ev_one {β : Type} {g : Nat → Option β} {r : β} (e : ∀ k, g (k + 1) = some r) : Ev g r := ⟨1, fun k hk => by
  obtain ⟨m, rfl⟩ : ∃ m, k = m + 1 := ⟨k - 1, by omega⟩
  exact e m⟩

/-! The blocks' places -/
def good (l : List Int) (b : Int) : Prop := 0 ≤ b ∧ b < l.length ∧ 0 ≤ kd (rd l b) ∧ kd (rd l b) ≤ 5
def place (acc : List Int) : Option (List Int) → List Int × Bool
  | none => ([], false)
  | some bs => (acc ++ bs, true)
theorem scan (l : List Int) (hn : l.length ≤ 1048576) (hr : ∀ x ∈ l, i64 x) : ∀ (d at_ : Nat), at_ ≤ l.length → l.length - at_ = d →
    ∃ res : Option (List Int),
      Ev (fun k => spec_SlabOk.l0 k (at_ : Int) l) (res.isSome && decide ((l.length : Int) ≤ 2000)) ∧
      (∀ bs, res = some bs → (∀ b ∈ bs, good l b) ∧ bs.length ≤ l.length - at_ ∧ ∀ acc : List Int, acc.length ≤ at_ → Ev (fun k => spec_l2Blocks.l0 k acc (at_ : Int) l) (acc ++ bs)) ∧
      ∀ acc : List Int, acc.length ≤ at_ → Ev (fun k => impl_places.l0 k acc (at_ : Int) l) (place acc res) := by
  intro d
  induction d using Nat.strongRecOn with
  | _ d ih =>
    intro at_ ha hd
    by_cases hlt : at_ < l.length
    · have hx := hr l[at_] (List.getElem_mem hlt)
      generalize hw : l[at_] = w at hx
      have hrd : rd l (at_ : Int) = w := by rw [rdI l at_ hlt, hw]
      obtain ⟨x0, x1⟩ := hx
      have hsub : wrap64 ((l.length : Int) - (at_ : Int)) = (l.length : Int) - (at_ : Int) := w64 _ (by omega) (by omega)
      by_cases hsz : 2 ≤ w / 8 ∧ w / 8 ≤ (l.length : Int) - (at_ : Int)
      · have hk := kd_eq w (by omega) x1
        by_cases hk5 : kd w > 5
        · refine ⟨none, ev_one fun k => ?_, (fun bs h => by cases h), fun acc hacc => ev_one fun k => ?_⟩
          · simp only [spec_SlabOk.l0, spec_l2Size.f, spec_l2Kind.f, in_spec]
            rw [if_pos (by omega), if_pos (by omega)]
            simp only [hrd, Option.bind_some, hsub, decide_eq_true hsz, if_true]
            rw [if_pos (show Go.bits .and .i64 w 7 > 5 from hk5)]
            rfl
          · simp only [impl_places.l0, in_impl]
            rw [if_pos (by omega), if_pos (by omega)]
            simp only [hrd, Option.bind_some, hsub, decide_eq_true hsz, if_true]
            rw [if_pos (show Go.bits .and .i64 w 7 > 5 from hk5)]
            rfl
        · obtain ⟨t, ht⟩ : ∃ t : Nat, w / 8 = (t : Int) := ⟨(w / 8).toNat, by omega⟩
          have hadd : wrap64 ((at_ : Int) + w / 8) = ((at_ + t : Nat) : Int) := by rw [w64 _ (by omega) (by omega)]; omega
          obtain ⟨res, r1, r2, r3⟩ := ih (l.length - (at_ + t)) (by omega) (at_ + t) (by omega) rfl
          refine ⟨res.map (fun bs => (at_ : Int) :: bs), ?_, ?_, ?_⟩
          · have e : (res.map (fun bs => (at_ : Int) :: bs)).isSome = res.isSome := by cases res <;> rfl
            rw [e]
            refine Ev.step (fun k => ?_) r1
            simp only [spec_SlabOk.l0, spec_l2Size.f, spec_l2Kind.f, in_spec]
            rw [if_pos (by omega), if_pos (by omega)]
            simp only [hrd, Option.bind_some, hsub, decide_eq_true hsz, if_true]
            rw [if_neg (show ¬ Go.bits .and .i64 w 7 > 5 from hk5), hadd]
          · intro bs hbs
            cases res with
            | none => cases hbs
            | some cs =>
              obtain rfl := Option.some.inj hbs
              obtain ⟨g1, g2, g3⟩ := r2 cs rfl
              refine ⟨fun b hb => ?_, by simp only [List.length_cons]; omega, fun acc hacc => ?_⟩
              · rcases List.mem_cons.1 hb with rfl | hb
                · exact ⟨by omega, by omega, by rw [hrd, hk]; omega, by rw [hrd]; omega⟩
                · exact g1 b hb
              · have := g3 (acc ++ [(at_ : Int)]) (by rw [List.length_append, List.length_singleton]; omega)
                rw [List.append_assoc, List.singleton_append] at this
                refine Ev.step (fun k => ?_) this
                simp only [spec_l2Blocks.l0, spec_l2Size.f]
                rw [if_pos (by omega), if_pos (by omega), if_pos (by omega)]
                simp only [hrd, Option.bind_some, hadd]
          · intro acc hacc
            have e : place acc (res.map (fun bs => (at_ : Int) :: bs)) = place (acc ++ [(at_ : Int)]) res := by
              cases res with
              | none => rfl
              | some cs => simp [place]
            rw [e]
            refine Ev.step (fun k => ?_) (r3 (acc ++ [(at_ : Int)]) (by rw [List.length_append, List.length_singleton]; omega))
            simp only [impl_places.l0, in_impl]
            rw [if_pos (by omega), if_pos (by omega)]
            simp only [hrd, Option.bind_some, hsub, decide_eq_true hsz, if_true]
            rw [if_neg (show ¬ Go.bits .and .i64 w 7 > 5 from hk5), if_pos (by omega), hadd]
      · refine ⟨none, ev_one fun k => ?_, (fun bs h => by cases h), fun acc hacc => ev_one fun k => ?_⟩
        · simp only [spec_SlabOk.l0, spec_l2Size.f, in_spec]
          rw [if_pos (by omega), if_pos (by omega)]
          simp only [hrd, Option.bind_some, hsub, decide_eq_false hsz]
          rfl
        · simp only [impl_places.l0, in_impl]
          rw [if_pos (by omega), if_pos (by omega)]
          simp only [hrd, Option.bind_some, hsub, decide_eq_false hsz]
          rfl
    · refine ⟨some [], ev_one fun k => ?_, (fun bs h => ?_), fun acc hacc => ev_one fun k => ?_⟩
      · simp only [spec_SlabOk.l0]
        rw [if_neg (by omega)]
        simp
      · obtain rfl := Option.some.inj h
        refine ⟨(fun b hb => by cases hb), by simp, fun acc hacc => ev_one fun k => ?_⟩
        simp only [spec_l2Blocks.l0]
        rw [if_neg (by omega), List.append_nil]
      · simp only [impl_places.l0]
        rw [if_neg (by omega)]
        simp [place]

theorem blocks (l : List Int) (hn : l.length ≤ 1048576) (hr : ∀ x ∈ l, i64 x) : ∃ B : List Int, (∀ b ∈ B, good l b) ∧ B.length ≤ l.length ∧ Ev (fun k => spec_Blocks.f k l) B ∧ Ev (fun k => impl_Blocks.f k l) B := by
  obtain ⟨res, r1, r2, r3⟩ := scan l hn hr l.length 0 (Nat.zero_le _) rfl
  have r4 := r3 [] (Nat.zero_le _)
  by_cases h2 : (l.length : Int) ≤ 2000
  · rw [decide_eq_true h2, Bool.and_true] at r1
    cases res with
    | none =>
      refine ⟨[], (fun b hb => by cases hb), Nat.zero_le _, ?_, ?_⟩
      · unfold spec_Blocks.f
        refine Ev.bind (a := false) (by unfold spec_SlabOk.f; exact r1) ?_
        exact Ev.now _
      · unfold impl_Blocks.f impl_places.f
        simp only [if_neg (show ¬ (l.length : Int) > 2000 by omega)]
        exact Ev.bind r4 (Ev.now _)
    | some bs =>
      obtain ⟨g1, g2, g3⟩ := r2 bs rfl
      have g4 := g3 [] (Nat.zero_le _)
      refine ⟨bs, g1, by omega, ?_, ?_⟩
      · unfold spec_Blocks.f
        refine Ev.bind (a := true) (by unfold spec_SlabOk.f; exact r1) ?_
        simp only [if_true]
        exact Ev.bind (a := bs) (by unfold spec_l2Blocks.f; exact g4) (Ev.now _)
      · unfold impl_Blocks.f impl_places.f
        simp only [if_neg (show ¬ (l.length : Int) > 2000 by omega)]
        exact Ev.bind r4 (Ev.now _)
  · rw [decide_eq_false h2, Bool.and_false] at r1
    refine ⟨[], (fun b hb => by cases hb), Nat.zero_le _, ?_, ?_⟩
    · unfold spec_Blocks.f
      refine Ev.bind (a := false) (by unfold spec_SlabOk.f; exact r1) ?_
      exact Ev.now _
    · unfold impl_Blocks.f impl_places.f
      simp only [if_pos (show (l.length : Int) > 2000 by omega), Option.bind_some]
      exact Ev.now _

/-! The text -/
theorem join_more (ps : List (List UInt8)) (y sep : List UInt8) (h : ps ≠ []) : Lib.join (ps ++ [y]) sep = Lib.join ps sep ++ sep ++ y := by
  cases ps with
  | nil => exact absurd rfl h
  | cons x r =>
    rw [List.cons_append, Lib.join_cons, Lib.join_cons]
    simp [Lib.joinTail, List.append_assoc]
abbrev E : ByteArray := ⟨#[46, 116, 111, 99, 102, 115]⟩
theorem E_size : E.size = 6 := rfl
def part (l : List Int) (b : Int) : ByteArray := E.extract (kd (rd l b)).toNat (kd (rd l b) + 1).toNat
theorem part_size (l : List Int) (b : Int) : (part l b).size ≤ 6 := by
  unfold part
  rw [ByteArray.size_extract, E_size]
  omega
theorem both (l B : List Int) (hn : l.length ≤ 1048576) (hr : ∀ x ∈ l, i64 x) (hB : ∀ b ∈ B, good l b) (hBl : B.length ≤ l.length) : ∀ (d i : Nat), i ≤ B.length → B.length - i = d → ∀ (s : ByteArray) (ps : List ByteArray),
    s.size ≤ 100 * i → ps.length = i → s.data.toList = Lib.join (ps.map (·.data.toList)) [32] →
    ∃ r, Ev (fun k => spec_SlabText.l0 k s B (i : Int) l) r ∧ Ev (fun k => impl_SlabText.l0 k ps B (B.length : Int) (i : Int) l) r := by
  intro d
  induction d with
  | zero =>
    intro i hi hd s ps hs hp hj
    refine ⟨s, ev_one fun k => ?_, ev_one fun k => ?_⟩
    · simp only [spec_SlabText.l0]
      rw [if_neg (by omega)]
    · simp only [impl_SlabText.l0, strings_Join.f]
      rw [if_neg (by omega), ← hj, if_pos ⟨by omega, by rw [← ba_size]; omega⟩]
      rfl
  | succ d ih =>
    intro i hi hd s ps hs hp hj
    have hlt : i < B.length := by omega
    obtain ⟨g0, g1, g2, g3⟩ := hB B[i] (List.getElem_mem hlt)
    have hrB : rd B (i : Int) = B[i] := rdI B i hlt
    generalize B[i] = b at g0 g1 g2 g3 hrB
    obtain ⟨w0, w1⟩ := hr (rd l b) (rdI' l b g0 g1)
    obtain ⟨K1, e1⟩ := digits_ev (rd l b / 8) (by omega) (by omega)
    have hD := itoa_len (rd l b / 8) (by omega) (by omega)
    have hf := itoa_f (rd l b / 8) (by omega) (by omega)
    generalize mk (Lib.itoa (rd l b / 8)) = D at e1 hD hf
    dsimp only at e1
    have hpz := part_size l b
    have hk : wrap64 (kd (rd l b) + 1) = kd (rd l b) + 1 := w64 _ (by omega) (by omega)
    have hP : (part l b ++ D).size = (part l b).size + D.size := ByteArray.size_append ..
    -- the state ahead of the part
    have key : ∀ s' : ByteArray, s'.size ≤ 100 * i + 1 → s'.data.toList ++ (part l b ++ D).data.toList = Lib.join ((ps ++ [part l b ++ D]).map (·.data.toList)) [32] →
        ∃ r, Ev (fun k => spec_SlabText.j1 k s' B (i : Int) l) r ∧ Ev (fun k => impl_SlabText.l0 k ps B (B.length : Int) (i : Int) l) r := by
      intro s' hs' hj'
      have s1 : (s' ++ part l b).size = s'.size + (part l b).size := ByteArray.size_append ..
      have s2 : ((s' ++ part l b) ++ D).size = s'.size + (part l b).size + D.size := by rw [ByteArray.size_append, s1]
      obtain ⟨r, r1, r2⟩ := ih (i + 1) (by omega) (by omega) ((s' ++ part l b) ++ D) (ps ++ [part l b ++ D]) (by rw [s2]; omega) (by rw [List.length_append, hp]; rfl) (by rw [← hj', ba_append, ba_append, ba_append, List.append_assoc])
      refine ⟨r, ev_late K1 (fun k hk' => ?_) r1, Ev.step (fun k => ?_) r2⟩
      · simp only [spec_SlabText.j1, spec_l2Kind.f, spec_l2Size.f]
        rw [if_pos (by omega), if_pos (by omega), hrB, if_pos g0, if_pos g1]
        simp only [Option.bind_some]
        change (if 0 ≤ kd (rd l b) then (if kd (rd l b) ≤ wrap64 (kd (rd l b) + 1) then (if wrap64 (kd (rd l b) + 1) ≤ 6 then (if s'.size + (E.extract (kd (rd l b)).toNat (wrap64 (kd (rd l b) + 1)).toNat).size ≤ 9223372036854775807 then ((spec_l7Digits.f k (rd l b / 8)).bind fun t => (if (s' ++ E.extract (kd (rd l b)).toNat (wrap64 (kd (rd l b) + 1)).toNat).size + t.size ≤ 9223372036854775807 then (spec_SlabText.l0 k ((s' ++ E.extract (kd (rd l b)).toNat (wrap64 (kd (rd l b) + 1)).toNat) ++ t) B (wrap64 ((i : Int) + 1)) l) else none)) else none) else none) else none) else none) = _
        rw [hk]
        change (if 0 ≤ kd (rd l b) then (if kd (rd l b) ≤ kd (rd l b) + 1 then (if kd (rd l b) + 1 ≤ 6 then (if s'.size + (part l b).size ≤ 9223372036854775807 then ((spec_l7Digits.f k (rd l b / 8)).bind fun t => (if (s' ++ part l b).size + t.size ≤ 9223372036854775807 then (spec_SlabText.l0 k ((s' ++ part l b) ++ t) B (wrap64 ((i : Int) + 1)) l) else none)) else none) else none) else none) else none) = _
        rw [if_pos g2, if_pos (by omega), if_pos (by omega), if_pos (by omega), e1 k hk', Option.bind_some, if_pos (by rw [s1]; omega), w64n i (by omega)]
      · simp only [impl_SlabText.l0]
        rw [if_pos (by omega), if_pos (by omega), if_pos (by omega), hrB, if_pos g0, if_pos g1, hf]
        simp only [Option.bind_some]
        change (if 0 ≤ kd (rd l b) then (if kd (rd l b) ≤ wrap64 (kd (rd l b) + 1) then (if wrap64 (kd (rd l b) + 1) ≤ 6 then (if (E.extract (kd (rd l b)).toNat (wrap64 (kd (rd l b) + 1)).toNat).size + D.size ≤ 9223372036854775807 then (if ps.length < 8796093022208 then (impl_SlabText.l0 k (ps ++ [E.extract (kd (rd l b)).toNat (wrap64 (kd (rd l b) + 1)).toNat ++ D]) B (B.length : Int) (wrap64 ((i : Int) + 1)) l) else none) else none) else none) else none) else none) = _
        rw [hk]
        change (if 0 ≤ kd (rd l b) then (if kd (rd l b) ≤ kd (rd l b) + 1 then (if kd (rd l b) + 1 ≤ 6 then (if (part l b).size + D.size ≤ 9223372036854775807 then (if ps.length < 8796093022208 then (impl_SlabText.l0 k (ps ++ [part l b ++ D]) B (B.length : Int) (wrap64 ((i : Int) + 1)) l) else none) else none) else none) else none) else none) = _
        rw [if_pos g2, if_pos (by omega), if_pos (by omega), if_pos (by omega), if_pos (by omega), w64n i (by omega)]
    by_cases h0 : i = 0
    · have hps : ps = [] := List.eq_nil_of_length_eq_zero (by omega)
      subst hps
      have hs0 : s.data.toList = [] := by rw [hj]; rfl
      obtain ⟨r, r1, r2⟩ := key s (by omega) (by rw [hs0]; simp [Lib.join_one])
      refine ⟨r, Ev.step (fun k => ?_) r1, r2⟩
      simp only [spec_SlabText.l0]
      rw [if_pos (by omega), if_neg (by omega)]
    · have hb1 : (⟨#[32]⟩ : ByteArray).size = 1 := rfl
      have h32 : (⟨#[32]⟩ : ByteArray).data.toList = [32] := rfl
      obtain ⟨r, r1, r2⟩ := key (s ++ (⟨#[32]⟩ : ByteArray)) (by rw [ByteArray.size_append, hb1]; omega) (by
        rw [List.map_append, List.map_singleton, join_more _ _ _ (by intro h; rw [List.map_eq_nil_iff] at h; subst h; exact h0 hp.symm), ← hj, ba_append s, h32])
      refine ⟨r, Ev.step (fun k => ?_) r1, r2⟩
      simp only [spec_SlabText.l0]
      rw [if_pos (by omega), if_pos (by omega), if_pos (by omega)]

theorem toSlab_ev (l : List Int) (hl : l.length ≤ 1048576) : Ev (fun k => laws_toSlab.f k l) l := by
  unfold laws_toSlab.f
  refine Ev.bind (a := l) ?_ (Ev.now _)
  have key := copy_loop l (fun x => x) (0 : Int) (by omega) (fun k ys i => laws_toIntS.l0 k l ys i) (by
    intro k ys hy
    simp only [laws_toIntS.l0]
    rw [if_neg (by omega)]) (by
    intro i hi ys hy r hr
    refine Ev.step (fun k => ?_) hr
    simp only [laws_toIntS.l0]
    rw [if_pos (by omega), if_pos (by omega), if_pos (by omega), rdI _ _ hi, w64n i (by omega), Int.toNat_natCast])
  rw [List.map_id'] at key
  refine Ev.congr (fun k => ?_) key
  unfold laws_toIntS.f
  rw [if_pos (by omega), if_pos (by rw [Int.toNat_natCast]; omega), Int.toNat_natCast]
theorem eqSlab_ev (l : List Int) (hl : l.length ≤ 1048576) : Ev (fun k => laws_eqSlab.f k l l) true := by
  unfold laws_eqSlab.f
  refine Ev.bind (a := true) ?_ (by simp only [if_true]; exact Ev.now _)
  obtain ⟨r, hr, rfl⟩ := ev_inv (fun k i (_ : Unit) => laws_eqIntS.l0 k l l i) l.length (fun _ _ => True) (fun r => r = true) (by
    intro _ _
    refine ⟨true, ev_one fun k => ?_, rfl⟩
    simp only [laws_eqIntS.l0]
    rw [if_neg (by omega)]) (by
    intro i _ hi _ ih
    obtain ⟨r, hr, hq⟩ := ih () trivial
    refine ⟨r, Ev.step (fun k => ?_) hr, hq⟩
    simp only [laws_eqIntS.l0]
    rw [if_pos (by omega), if_pos (by omega), if_pos (by omega)]
    simp only [if_true]
    rw [w64n i (by omega)]) 0 () (Nat.zero_le _) trivial
  refine Ev.congr (fun k => ?_) hr
  unfold laws_eqIntS.f
  rw [if_pos rfl]
  rfl
theorem szSlab_eq (l : List Int) (hl : l.length ≤ maxLen) : laws_szSlab.f l 1048576 = some (-1) ∨ ∃ r, laws_szSlab.f l 1048576 = some r ∧ 0 ≤ r ∧ l.length ≤ 1048576 := by
  unfold maxLen at hl
  unfold laws_szSlab.f laws_szIntS.f
  rw [w64 _ (by omega) (by omega)]
  by_cases h : (1048576 : Int) - (l.length : Int) < 0
  · rw [if_pos h]; exact .inl rfl
  · rw [if_neg h]
    refine .inr ⟨1048576 - (l.length : Int), ?_, by omega, by omega⟩
    rw [Option.bind_some, if_neg h]

theorem law (l : List Int) (hl : l.length ≤ maxLen) (hr : ∀ x ∈ l, i64 x) : ∃ k, laws_FnExactSlabText.f k l = some true := by
  refine Ev.rounds ?_
  unfold laws_FnExactSlabText.f
  rcases szSlab_eq l hl with h | ⟨z, h, h1, h2⟩
  · simp only [h, Option.bind_some]
    exact Ev.now _
  · simp only [h, Option.bind_some, if_neg (show ¬ z < 0 by omega)]
    obtain ⟨B, b1, b2, b3, b4⟩ := blocks l h2 hr
    obtain ⟨r, r1, r2⟩ := both l B h2 hr b1 b2 B.length 0 (Nat.zero_le _) rfl ⟨#[]⟩ [] (by decide) rfl rfl
    refine Ev.bind (toSlab_ev l h2) ?_
    refine Ev.bind (a := r) (by unfold spec_SlabText.f; exact Ev.bind b3 r1) ?_
    refine Ev.bind (toSlab_ev l h2) ?_
    refine Ev.bind (a := r) (by unfold impl_SlabText.f; exact Ev.bind b4 r2) ?_
    simp only [if_true]
    refine Ev.bind (toSlab_ev l h2) ?_
    refine Ev.bind (eqSlab_ev l h2) ?_
    simp only [if_true]
    exact Ev.now _
end Go.Proofs.YtigfcghmfelpkaaDoor.XFnExactSlabText
