/- What the law's own helpers on lists of texts come to: sizes summed, a copy, a comparison. No condition. -/
import Derived.Test.YtahcicfcnehafaaXFnExactUnitOk
import Derived.Test.YtahcicfcnehafaaPl
namespace Go.Proofs.Ytahcicfcnehafaa.XFnExactUnitOk
open Go.RowKit Go.Proofs.YtahcicfcnehafaaW.PrintWords Go.Proofs.Ytahcicfcnehafaa.Pl
set_option linter.unusedVariables false

def sizes (l : List ByteArray) : Nat := (l.map ByteArray.size).sum
theorem sizes_take (l : List ByteArray) (i : Nat) (h : i < l.length) : sizes (l.take (i + 1)) = sizes (l.take i) + l[i].size := by
  unfold sizes
  rw [List.take_succ_eq_append_getElem h, List.map_append, List.sum_append]
  simp

theorem szStringS_ev (l : List ByteArray) (a : Int) (h0 : 0 ≤ a) (ha : a ≤ 1048576) (hl : l.length ≤ maxLen) (hs : ∀ s ∈ l, s.size ≤ maxLen) :
    ∃ r, Ev (fun k => laws_szStringS.f k l a) r ∧ (r = -1 ∨ 0 ≤ r ∧ r + l.length + sizes l = a) := by
  unfold maxLen at hl hs
  unfold laws_szStringS.f
  by_cases h1 : a - l.length < 0
  · refine ⟨-1, ⟨0, fun k _ => ?_⟩, .inl rfl⟩
    dsimp only
    rw [w64 _ (by omega) (by omega), if_pos h1]
  · simp only [w64 (a - l.length) (by omega) (by omega), if_neg h1]
    refine ev_inv (fun k i (s : Int) => laws_szStringS.l0 k l s i) l.length (fun i s => 0 ≤ s ∧ s + l.length + sizes (l.take i) = a) (fun r => r = -1 ∨ 0 ≤ r ∧ r + l.length + sizes l = a) ?_ ?_ 0 (a - l.length) (Nat.zero_le _) ⟨by omega, by simp [sizes]⟩
    · intro s ⟨q0, q1⟩
      refine ⟨s, ⟨1, fun k hk => ?_⟩, .inr ⟨q0, by rw [List.take_length] at q1; exact q1⟩⟩
      obtain ⟨m, rfl⟩ : ∃ m, k = m + 1 := ⟨k - 1, by omega⟩
      simp only [laws_szStringS.l0]
      rw [if_neg (by omega)]
    · intro i s hi ⟨q0, q1⟩ ih
      have hsz := hs l[i] (List.getElem_mem hi)
      have e : ∀ k, laws_szStringS.l0 (k + 1) l s (i : Int) = if s - (l[i].size : Int) < 0 then some (-1) else laws_szStringS.l0 k l (s - (l[i].size : Int)) ((i + 1 : Nat) : Int) := by
        intro k
        simp only [laws_szStringS.l0]
        rw [if_pos (by omega), if_pos (by omega), rdOf_nat _ _ _ hi, w64 (s - _) (by omega) (by omega), w64n i (by omega)]
      by_cases h2 : s - (l[i].size : Int) < 0
      · refine ⟨-1, Ev.step e ⟨0, fun k _ => ?_⟩, .inl rfl⟩
        dsimp only
        rw [if_pos h2]
      · obtain ⟨r, hr, hq⟩ := ih (s - (l[i].size : Int)) ⟨by omega, by rw [sizes_take _ _ hi]; omega⟩
        refine ⟨r, Ev.step e (Ev.congr (fun k => ?_) hr), hq⟩
        rw [if_neg h2]

theorem toStringS_ev (l : List ByteArray) (hl : l.length ≤ 1048576) : Ev (fun k => laws_toStringS.f k l) l := by
  have key := copy_loop l (fun x => x) (⟨#[]⟩ : ByteArray) (by omega) (fun k ys i => laws_toStringS.l0 k l ys i) (by
    intro k ys hy
    simp only [laws_toStringS.l0]
    rw [if_neg (by omega)]) (by
    intro i hi ys hy r hr
    refine Ev.step (fun k => ?_) hr
    simp only [laws_toStringS.l0]
    rw [if_pos (by omega), if_pos (by omega), if_pos (by omega), rdOf_nat _ _ _ hi, w64n i (by omega), Int.toNat_natCast])
  rw [List.map_id'] at key
  refine Ev.congr (fun k => ?_) key
  unfold laws_toStringS.f
  rw [if_pos (by omega), if_pos (by rw [Int.toNat_natCast]; omega), Int.toNat_natCast]

theorem eqStringS_ev (l l' : List ByteArray) (hm : l.length ≤ 1048576) : Ev (fun k => laws_eqStringS.f k l l') (decide (l = l')) := by
  by_cases hl : l.length = l'.length
  · have key := eq_loop l l' hl (by omega) (fun k i => laws_eqStringS.l0 k l l' i) (by
      intro k
      simp only [laws_eqStringS.l0]
      rw [if_neg (by omega)]) (by
      intro i hi e r hr
      refine Ev.step (fun k => ?_) hr
      simp only [laws_eqStringS.l0]
      rw [if_pos (by omega), if_pos (by omega), if_pos (by omega), rdOf_nat _ _ _ hi, rdOf_nat _ _ _ (by omega), if_pos (by rw [e]), w64n i (by omega)]) (by
      intro i hi e
      refine ⟨1, fun k hk => ?_⟩
      obtain ⟨m, rfl⟩ : ∃ m, k = m + 1 := ⟨k - 1, by omega⟩
      simp only [laws_eqStringS.l0]
      rw [if_pos (by omega), if_pos (by omega), if_pos (by omega), rdOf_nat _ _ _ hi, rdOf_nat _ _ _ (by omega), if_neg (by rw [ba_eq]; exact e)])
    refine Ev.congr (fun k => ?_) key
    unfold laws_eqStringS.f
    rw [if_pos (by omega)]
  · refine ⟨0, fun k _ => ?_⟩
    unfold laws_eqStringS.f
    dsimp only
    rw [if_neg (by omega), decide_eq_false (fun h => hl (by rw [h]))]
end Go.Proofs.Ytahcicfcnehafaa.XFnExactUnitOk
