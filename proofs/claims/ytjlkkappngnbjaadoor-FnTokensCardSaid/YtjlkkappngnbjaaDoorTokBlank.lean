/- One token of a text, told as a value; with a blank behind the text it is the same. No condition. -/
import Derived.Test.YtjlkkappngnbjaaDoorTokensOne
import Derived.Test.YtjlkkappngnbjaaDoorTokDraws
namespace Go.Proofs.YtjlkkappngnbjaaDoor.XFnTokens
open Go.RowKit Go.Proofs.YtjlkkappngnbjaaDoorW.PrintWords Go.Proofs.YtjlkkappngnbjaaDoor.Pl
set_option linter.unusedVariables false
set_option linter.unusedSimpArgs false

abbrev SP : ByteArray := ⟨#[32]⟩
theorem bl_size (s : ByteArray) : (s ++ SP).size = s.size + 1 := by rw [ByteArray.size_append]; rfl
theorem bl_list (s : ByteArray) : (s ++ SP).data.toList = s.data.toList ++ [32] := by rw [ByteArray.data_append, Array.toList_append]
theorem get_list (s : ByteArray) (i : Nat) (h : i < s.size) : s[i]'h = s.data.toList[i]'(by rw [Array.length_toList]; exact h) := rfl
theorem bl_bt (s : ByteArray) (i : Nat) (h : i < s.size) : bt (s ++ SP) (i : Int) = bt s (i : Int) := by
  rw [bt_nat s i h, bt_nat (s ++ SP) i (by rw [bl_size]; omega), get_list, get_list]
  simp only [bl_list]
  rw [List.getElem_append_left]
theorem bl_end (s : ByteArray) : bt (s ++ SP) (s.size : Int) = 32 := by
  rw [bt_nat (s ++ SP) s.size (by rw [bl_size]; omega), get_list]
  simp only [bl_list]
  rw [List.getElem_append_right (by rw [Array.length_toList]; exact Nat.le_refl _)]
  simp
theorem stop_s (p : Int → Bool) (s : ByteArray) (d i : Nat) : stop p s (d + 1) i = if p (bt s (i : Int)) = true then stop p s d (i + 1) else i := rfl
theorem stop_z (p : Int → Bool) (s : ByteArray) (i : Nat) : stop p s 0 i = i := rfl
theorem stop_bl (p : Int → Bool) (s : ByteArray) (hp : p 32 = false) : ∀ d i, i + d = s.size → stop p (s ++ SP) (d + 1) i = stop p s d i
  | 0, i, h => by
    obtain rfl : i = s.size := by omega
    rw [stop_s, bl_end, hp]
    rfl
  | d + 1, i, h => by
    rw [stop_s, bl_bt s i (by omega), stop_bl p s hp d (i + 1) (by omega)]
    rfl
theorem stop_bl2 (p : Int → Bool) (s : ByteArray) : ∀ d i, i + d = s.size → stop p s d i < s.size → stop p (s ++ SP) (d + 1) i = stop p s d i
  | 0, i, h, hl => by rw [stop_z] at hl; omega
  | d + 1, i, h, hl => by
    rw [stop_s p (s ++ SP), bl_bt s i (by omega)]
    rw [stop_s p s] at hl ⊢
    by_cases hp : p (bt s (i : Int)) = true
    · rw [if_pos hp] at hl ⊢
      rw [if_pos hp]
      exact stop_bl2 p s d (i + 1) (by omega) hl
    · rw [if_neg hp, if_neg hp]
theorem seg_bl (s : ByteArray) (i e : Nat) (h : e ≤ s.size) : seg (s ++ SP) i e = seg s i e := by
  rw [seg_eq, seg_eq, bl_list, List.take_append_of_le_length (by rw [Array.length_toList]; exact h)]
theorem ex_bl (s : ByteArray) (i e : Nat) (h : e ≤ s.size) : (s ++ SP).extract i e = s.extract i e := ba_ext (seg_bl s i e h)

def signT (s : ByteArray) (a : Nat) : ByteArray := if two s a then EE else if sg (bt s (a : Int)) then s.extract a (a + 1) else (⟨#[]⟩ : ByteArray)
def oneR (s : ByteArray) (a : Nat) : Res :=
  if letb (bt s (a : Int)) = true then nameR s a (stop (fun c => letb c || digb c) s (s.size - a) a)
  else if digb (bt s (a : Int)) = true then numR s a (stop digb s (s.size - a) a) (cap 0 (seg s a (stop digb s (s.size - a) a)))
  else if bt s (a : Int) = 34 then textR s a (stop txb s (s.size - a - 1) (a + 1))
  else (4, signT s a, 0, (a : Int), ((a + (signT s a).size : Nat) : Int), (signT s a).toList != ([] : List UInt8))
theorem signT_size (s : ByteArray) (a : Nat) : (signT s a).size ≤ 2 := by
  unfold signT
  split
  · decide
  · split
    · rw [ByteArray.size_extract]; omega
    · decide
theorem one_sp (s : ByteArray) (hs : s.size ≤ 801) (hs8 : s.size ≤ 800) (a : Nat) (ha : a < s.size) : Ev (fun k => spec_l11One.f k s (a : Int)) (oneR s a) := by
  unfold spec_l11One.f oneR
  simp only [if_pos (show (0 : Int) ≤ (a : Int) by omega), if_pos (show (a : Int) < (s.size : Int) by omega), sletter, sdigit, Option.bind_some]
  by_cases hl : letb (bt s (a : Int)) = true
  · simp only [if_pos hl]
    exact Ev.bind (name_ev s hs8 a _ (by omega)) (Ev.now _)
  · simp only [if_neg hl]
    by_cases hg : digb (bt s (a : Int)) = true
    · simp only [if_pos hg]
      exact Ev.bind (num_ev s hs8 a (s.size - a) a 0 (Nat.le_refl _) (by omega) (by omega)) (Ev.now _)
    · simp only [if_neg hg]
      by_cases h34 : bt s (a : Int) = 34
      · simp only [if_pos h34]
        exact Ev.bind (text_ev s hs8 a (s.size - a - 1) (by omega)) (Ev.now _)
      · simp only [if_neg h34]
        have hz := signT_size s a
        refine Ev.bind (sign_ev s hs8 a ha) ?_
        change Ev (fun n => some (4, signT s a, 0, (a : Int), wrap64 ((a : Int) + ((signT s a).size : Int)), (signT s a).toList != ([] : List UInt8))) _
        rw [w64 _ (by omega) (by omega)]
        exact Ev.now _
theorem one_im (s : ByteArray) (hs8 : s.size ≤ 800) (a : Nat) (ha : a < s.size) : ∃ r : Res, Ev (fun k => impl_tokenAt.f k s (a : Int)) r ∧ (oneR s a).2.2.2.2.2 = r.2.2.2.2.2 ∧
    ((oneR s a).2.2.2.2.2 = true → r = oneR s a ∧ ∃ e : Nat, (oneR s a).2.2.2.2.1 = (e : Int) ∧ a < e ∧ e ≤ s.size) := by
  obtain ⟨r1, r2, e1, e2, h, h2⟩ := one_ev s hs8 a ha
  obtain rfl := ev_unique e1 (one_sp s (by omega) hs8 a ha)
  exact ⟨r2, e2, h, fun ho => ⟨(h2 ho).1.symm, (h2 ho).2⟩⟩

/-- What the law asks of a token's text. -/
def TX (s : ByteArray) (t : S29) : Prop := t.f0 = 3 ∨ t.f0 = 2 ∨ t.f0 = 0 ∨ ∃ p e : Nat, p ≤ e ∧ e ≤ s.size ∧ t.f3 = (p : Int) ∧ t.f1 = s.extract p e
theorem seg_two (s : ByteArray) (a : Nat) (h : two s a = true) : EE = s.extract a (a + 2) := by
  have h' := of_decide_eq_true (show decide (a + 1 < s.size ∧ bt s (a : Int) = 61 ∧ bt s ((a + 1 : Nat) : Int) = 61) = true from h)
  apply ba_ext
  change _ = seg s a (a + 2)
  rw [seg_cons s a (a + 2) (by omega) (by omega), seg_cons s (a + 1) (a + 2) (by omega) (by omega), seg_nil]
  have h1 := h'.2.1
  have h2 := h'.2.2
  rw [bt_nat s a (by omega)] at h1
  rw [bt_nat s (a + 1) (by omega)] at h2
  have e1 : s[a]'(by omega) = 61 := UInt8.toNat_inj.1 (by have : (61 : UInt8).toNat = 61 := rfl; omega)
  have e2 : s[a + 1]'(by omega) = 61 := UInt8.toNat_inj.1 (by have : (61 : UInt8).toNat = 61 := rfl; omega)
  rw [e1, e2]
theorem oneR_at (s : ByteArray) (a : Nat) (ha : a < s.size) (ho : (oneR s a).2.2.2.2.2 = true) :
    (oneR s a).2.2.2.1 = (a : Int) ∧ TX s ⟨(oneR s a).1, (oneR s a).2.1, (oneR s a).2.2.1, (oneR s a).2.2.2.1⟩ := by
  unfold oneR at ho ⊢
  by_cases hl : letb (bt s (a : Int)) = true
  · simp only [if_pos hl] at ho ⊢
    have := stop_le (fun c => letb c || digb c) s (s.size - a) a
    exact ⟨rfl, .inr (.inr (.inr ⟨a, _, this.1, by omega, rfl, rfl⟩))⟩
  · simp only [if_neg hl] at ho ⊢
    by_cases hg : digb (bt s (a : Int)) = true
    · simp only [if_pos hg] at ho ⊢
      exact ⟨rfl, .inr (.inl rfl)⟩
    · simp only [if_neg hg] at ho ⊢
      by_cases h34 : bt s (a : Int) = 34
      · simp only [if_pos h34] at ho ⊢
        unfold textR at ho ⊢
        split
        · exact ⟨by first | rfl | trivial, .inl rfl⟩
        · rename_i hh
          rw [if_neg hh] at ho
          cases ho
      · simp only [if_neg h34] at ho ⊢
        refine ⟨trivial, .inr (.inr (.inr ?_))⟩
        unfold signT at ho ⊢
        by_cases h2 : two s a = true
        · rw [if_pos h2] at ho ⊢
          have h' := of_decide_eq_true (show decide (a + 1 < s.size ∧ bt s (a : Int) = 61 ∧ bt s ((a + 1 : Nat) : Int) = 61) = true from h2)
          exact ⟨a, a + 2, by omega, by omega, rfl, seg_two s a h2⟩
        · rw [if_neg h2] at ho ⊢
          by_cases h3 : sg (bt s (a : Int)) = true
          · rw [if_pos h3]
            exact ⟨a, a + 1, by omega, by omega, rfl, rfl⟩
          · rw [if_neg h3] at ho
            rw [ba_toList] at ho
            cases ho
theorem two_bl (s : ByteArray) (a : Nat) (ha : a < s.size) : two (s ++ SP) a = two s a := by
  unfold two
  rw [bl_size, bl_bt s a ha]
  by_cases h : a + 1 < s.size
  · rw [bl_bt s (a + 1) h]
    exact decide_eq_decide.2 ⟨fun z => ⟨h, z.2⟩, fun z => ⟨by omega, z.2⟩⟩
  · obtain h1 : a + 1 = s.size := by omega
    rw [h1, bl_end]
    exact decide_eq_decide.2 ⟨fun z => absurd z.2.2 (by decide), fun z => absurd z.1 (by omega)⟩
theorem oneR_bl (s : ByteArray) (a : Nat) (ha : a < s.size) (ho : (oneR s a).2.2.2.2.2 = true) : oneR (s ++ SP) a = oneR s a := by
  unfold oneR at ho ⊢
  rw [bl_bt s a ha, bl_size, show s.size + 1 - a = (s.size - a) + 1 by omega]
  by_cases hl : letb (bt s (a : Int)) = true
  · simp only [if_pos hl]
    have := stop_le (fun c => letb c || digb c) s (s.size - a) a
    rw [stop_bl _ s (by decide) _ a (by omega)]
    unfold nameR
    rw [ex_bl _ _ _ (by omega)]
  · simp only [if_neg hl] at ho ⊢
    by_cases hg : digb (bt s (a : Int)) = true
    · simp only [if_pos hg]
      have := stop_le digb s (s.size - a) a
      rw [stop_bl _ s (by decide) _ a (by omega), seg_bl _ _ _ (by omega)]
      unfold numR
      rw [ex_bl _ _ _ (by omega)]
    · simp only [if_neg hg] at ho ⊢
      by_cases h34 : bt s (a : Int) = 34
      · simp only [if_pos h34] at ho ⊢
        have hc : stop txb s (s.size - a - 1) (a + 1) < s.size ∧ bt s ((stop txb s (s.size - a - 1) (a + 1) : Nat) : Int) = 34 ∧ stop txb s (s.size - a - 1) (a + 1) ≤ a + 31 := by
          unfold textR at ho
          by_cases hh : stop txb s (s.size - a - 1) (a + 1) < s.size ∧ bt s ((stop txb s (s.size - a - 1) (a + 1) : Nat) : Int) = 34 ∧ stop txb s (s.size - a - 1) (a + 1) ≤ a + 31
          · exact hh
          · rw [if_neg hh] at ho
            cases ho
        rw [show s.size - a + 1 - 1 = (s.size - a - 1) + 1 by omega, stop_bl2 txb s _ (a + 1) (by omega) hc.1]
        unfold textR
        rw [if_pos hc, bl_bt s _ hc.1, bl_size, if_pos ⟨by omega, hc.2.1, hc.2.2⟩, ex_bl _ _ _ (by omega)]
      · simp only [if_neg h34]
        have : signT (s ++ SP) a = signT s a := by
          unfold signT
          rw [two_bl s a ha, bl_bt s a ha, ex_bl _ _ _ (by omega)]
        rw [this]
end Go.Proofs.YtjlkkappngnbjaaDoor.XFnTokens
