/- The law FnTokens, of whatever bytes. No condition. -/
import Derived.Test.YtjlkkappngnbjaaDoorTokBlank
namespace Go.Proofs.YtjlkkappngnbjaaDoor.XFnTokens
open Go.RowKit Go.Proofs.YtjlkkappngnbjaaDoorW.PrintWords Go.Proofs.YtjlkkappngnbjaaDoor.Pl
set_option linter.unusedVariables false
set_option linter.unusedSimpArgs false

def tokOf (r : Res) : Tok := ⟨r.1, r.2.1, r.2.2.1, r.2.2.2.1⟩
/-! One round of each loop -/
theorem s_blank (s : ByteArray) (hs : s.size ≤ 801) (a : Nat) (ha : a < s.size) (hb : bt s (a : Int) = 32 ∨ bt s (a : Int) = 10) (acc : List Tok) {r : List Tok × Int} (h : Ev (fun k => spec_Tokens.l0 k s acc ((a + 1 : Nat) : Int)) r) : Ev (fun k => spec_Tokens.l0 k s acc (a : Int)) r := by
  have q : Ev (fun k => spec_Tokens.j1 k s acc (a : Int) true) r := Ev.step (fun k => by simp only [spec_Tokens.j1, if_true]; rw [w64n a (by omega)]) h
  refine Ev.step (fun k => ?_) q
  simp only [spec_Tokens.l0]
  rw [if_pos (by omega), if_pos (by omega)]
  rcases hb with h | h
  · rw [if_pos h]
  · rw [if_neg (by omega), h]; rfl
theorem i_blank (s : ByteArray) (hs : s.size ≤ 801) (a : Nat) (ha : a < s.size) (hb : bt s (a : Int) = 32 ∨ bt s (a : Int) = 10) (acc : List Tok) {r : List Tok × Int} (h : Ev (fun k => impl_Tokens.l0 k s acc ((a + 1 : Nat) : Int)) r) : Ev (fun k => impl_Tokens.l0 k s acc (a : Int)) r := by
  have q : Ev (fun k => impl_Tokens.j1 k s acc (a : Int) true) r := Ev.step (fun k => by simp only [impl_Tokens.j1, if_true]; rw [w64n a (by omega)]) h
  refine Ev.step (fun k => ?_) q
  simp only [impl_Tokens.l0]
  rw [if_pos (by omega), if_pos (by omega)]
  rcases hb with h | h
  · rw [if_pos h]
  · rw [if_neg (by omega), h]; rfl
theorem s_tok (s : ByteArray) (hs : s.size ≤ 801) (a : Nat) (ha : a < s.size) (hb : ¬ (bt s (a : Int) = 32 ∨ bt s (a : Int) = 10)) (acc : List Tok) (hacc : acc.length ≤ 900) {t : Res} (ht : Ev (fun k => spec_l11One.f k s (a : Int)) t) (ho : t.2.2.2.2.2 = true) {e : Nat} (he : t.2.2.2.2.1 = (e : Int))
    {r : List Tok × Int} (h : Ev (fun k => spec_Tokens.l0 k s (acc ++ [tokOf t]) (e : Int)) r) : Ev (fun k => spec_Tokens.l0 k s acc (a : Int)) r := by
  have hb1 : ¬ bt s (a : Int) = 32 := fun h => hb (.inl h)
  have hb2 : (bt s (a : Int) == 10) = false := by simpa using fun h => hb (.inr h)
  obtain ⟨K, ht⟩ := ht
  dsimp only at ht
  refine Ev.step (f := fun k => spec_Tokens.j1 k s acc (a : Int) false) (fun k => ?_) (ev_late K (fun k hk => ?_) h)
  · simp only [spec_Tokens.l0]
    rw [if_pos (by omega), if_pos (by omega), if_neg hb1, hb2]
  · simp only [spec_Tokens.j1, Bool.false_eq_true, if_false]
    rw [ht k hk, Option.bind_some, ho, if_pos rfl, if_pos (by omega), he]
    rfl
theorem i_tok (s : ByteArray) (hs : s.size ≤ 801) (a : Nat) (ha : a < s.size) (hb : ¬ (bt s (a : Int) = 32 ∨ bt s (a : Int) = 10)) (acc : List Tok) (hacc : acc.length ≤ 900) {t : Res} (ht : Ev (fun k => impl_tokenAt.f k s (a : Int)) t) (ho : t.2.2.2.2.2 = true) {e : Nat} (he : t.2.2.2.2.1 = (e : Int))
    {r : List Tok × Int} (h : Ev (fun k => impl_Tokens.l0 k s (acc ++ [tokOf t]) (e : Int)) r) : Ev (fun k => impl_Tokens.l0 k s acc (a : Int)) r := by
  have hb1 : ¬ bt s (a : Int) = 32 := fun h => hb (.inl h)
  have hb2 : (bt s (a : Int) == 10) = false := by simpa using fun h => hb (.inr h)
  obtain ⟨K, ht⟩ := ht
  dsimp only at ht
  refine Ev.step (f := fun k => impl_Tokens.j1 k s acc (a : Int) false) (fun k => ?_) (ev_late K (fun k hk => ?_) h)
  · simp only [impl_Tokens.l0]
    rw [if_pos (by omega), if_pos (by omega), if_neg hb1, hb2]
  · simp only [impl_Tokens.j1, Bool.false_eq_true, if_false]
    rw [ht k hk, Option.bind_some, ho, if_pos rfl, if_pos (by omega), he]
    rfl
theorem s_bad (s : ByteArray) (hs : s.size ≤ 801) (a : Nat) (ha : a < s.size) (hb : ¬ (bt s (a : Int) = 32 ∨ bt s (a : Int) = 10)) (acc : List Tok) {t : Res} (ht : Ev (fun k => spec_l11One.f k s (a : Int)) t) (ho : t.2.2.2.2.2 = false) : Ev (fun k => spec_Tokens.l0 k s acc (a : Int)) ([], (a : Int)) := by
  have hb1 : ¬ bt s (a : Int) = 32 := fun h => hb (.inl h)
  have hb2 : (bt s (a : Int) == 10) = false := by simpa using fun h => hb (.inr h)
  obtain ⟨K, ht⟩ := ht
  dsimp only at ht
  refine Ev.step (f := fun k => spec_Tokens.j1 k s acc (a : Int) false) (fun k => ?_) ⟨K + 1, fun k hk => ?_⟩
  · simp only [spec_Tokens.l0]
    rw [if_pos (by omega), if_pos (by omega), if_neg hb1, hb2]
  · obtain ⟨m, rfl⟩ : ∃ m, k = m + 1 := ⟨k - 1, by omega⟩
    simp only [spec_Tokens.j1, Bool.false_eq_true, if_false]
    rw [ht m (by omega), Option.bind_some, ho]
    rfl
theorem i_bad (s : ByteArray) (hs : s.size ≤ 801) (a : Nat) (ha : a < s.size) (hb : ¬ (bt s (a : Int) = 32 ∨ bt s (a : Int) = 10)) (acc : List Tok) {t : Res} (ht : Ev (fun k => impl_tokenAt.f k s (a : Int)) t) (ho : t.2.2.2.2.2 = false) : Ev (fun k => impl_Tokens.l0 k s acc (a : Int)) ([], (a : Int)) := by
  have hb1 : ¬ bt s (a : Int) = 32 := fun h => hb (.inl h)
  have hb2 : (bt s (a : Int) == 10) = false := by simpa using fun h => hb (.inr h)
  obtain ⟨K, ht⟩ := ht
  dsimp only at ht
  refine Ev.step (f := fun k => impl_Tokens.j1 k s acc (a : Int) false) (fun k => ?_) ⟨K + 1, fun k hk => ?_⟩
  · simp only [impl_Tokens.l0]
    rw [if_pos (by omega), if_pos (by omega), if_neg hb1, hb2]
  · obtain ⟨m, rfl⟩ : ∃ m, k = m + 1 := ⟨k - 1, by omega⟩
    simp only [impl_Tokens.j1, Bool.false_eq_true, if_false]
    rw [ht m (by omega), Option.bind_some, ho]
    rfl
def endT (s : ByteArray) : Tok := ⟨0, (⟨#[]⟩ : ByteArray), 0, (s.size : Int)⟩
theorem s_end (s : ByteArray) (a : Nat) (ha : ¬ a < s.size) (acc : List Tok) (hacc : acc.length ≤ 900) : Ev (fun k => spec_Tokens.l0 k s acc (a : Int)) (acc ++ [endT s], -1) := ev_one fun k => by
  simp only [spec_Tokens.l0]
  rw [if_neg (by omega), if_pos (by omega)]
  rfl
theorem i_end (s : ByteArray) (a : Nat) (ha : ¬ a < s.size) (acc : List Tok) (hacc : acc.length ≤ 900) : Ev (fun k => impl_Tokens.l0 k s acc (a : Int)) (acc ++ [endT s], -1) := ev_one fun k => by
  simp only [impl_Tokens.l0]
  rw [if_neg (by omega), if_pos (by omega)]
  rfl

structure Good (s : ByteArray) (a : Nat) (l : List Tok) : Prop where
  ge : ∀ t ∈ l, (a : Int) ≤ t.f3
  le : ∀ t ∈ l, t.f3 ≤ (s.size : Int)
  tx : ∀ t ∈ l, TX s t
  pw : l.Pairwise (fun x y => x.f3 < y.f3)
  last : ∃ l' t, l = l' ++ [t] ∧ t.f0 = 0
  len : l.length ≤ s.size + 1 - a
theorem all_toks (s : ByteArray) (hs : s.size ≤ 800) : ∀ (d a : Nat), a + d = s.size → ∀ acc : List Tok, acc.length ≤ a →
    (∃ i : Nat, Ev (fun k => spec_Tokens.l0 k s acc (a : Int)) ([], (i : Int)) ∧ Ev (fun k => impl_Tokens.l0 k s acc (a : Int)) ([], (i : Int))) ∨
    (∃ l, Good s a l ∧ Ev (fun k => spec_Tokens.l0 k s acc (a : Int)) (acc ++ l, -1) ∧ Ev (fun k => impl_Tokens.l0 k s acc (a : Int)) (acc ++ l, -1) ∧ (s.size < 800 → ∃ l' : List Tok, l'.length = l.length ∧ Ev (fun k => impl_Tokens.l0 k (s ++ SP) acc (a : Int)) (acc ++ l', -1))) := by
  have hz := bl_size s
  intro d
  induction d using Nat.strongRecOn with
  | _ d ih =>
    intro a hd acc hacc
    by_cases hlt : a < s.size
    · by_cases hb : bt s (a : Int) = 32 ∨ bt s (a : Int) = 10
      · rcases ih (d - 1) (by omega) (a + 1) (by omega) acc (by omega) with ⟨i, h1, h2⟩ | ⟨l, g, h1, h2, h3⟩
        · exact .inl ⟨i, s_blank s (by omega) a hlt hb acc h1, i_blank s (by omega) a hlt hb acc h2⟩
        · refine .inr ⟨l, ⟨fun t ht => by have := g.ge t ht; omega, g.le, g.tx, g.pw, g.last, by have := g.len; omega⟩, s_blank s (by omega) a hlt hb acc h1, i_blank s (by omega) a hlt hb acc h2, fun h8 => ?_⟩
          obtain ⟨l', e1, e2⟩ := h3 h8
          exact ⟨l', e1, i_blank (s ++ SP) (by omega) a (by omega) (by rw [bl_bt s a hlt]; exact hb) acc e2⟩
      · have e1 := one_sp s (by omega) hs a hlt
        obtain ⟨t2, e2, hok, hsame⟩ := one_im s hs a hlt
        cases ho : (oneR s a).2.2.2.2.2 with
        | false => exact .inl ⟨a, s_bad s (by omega) a hlt hb acc e1 ho, i_bad s (by omega) a hlt hb acc e2 (by rw [← hok]; exact ho)⟩
        | true =>
          obtain ⟨rfl, e, he, h1, h2⟩ := hsame ho
          obtain ⟨hat, htx⟩ := oneR_at s a hlt ho
          have hl : (acc ++ [tokOf (oneR s a)]).length ≤ e := by rw [List.length_append, List.length_singleton]; omega
          rcases ih (d - (e - a)) (by omega) e (by omega) (acc ++ [tokOf (oneR s a)]) hl with ⟨i, q1, q2⟩ | ⟨l, g, q1, q2, q3⟩
          · exact .inl ⟨i, s_tok s (by omega) a hlt hb acc (by omega) e1 ho he q1, i_tok s (by omega) a hlt hb acc (by omega) e2 ho he q2⟩
          · have ass : (acc ++ [tokOf (oneR s a)]) ++ l = acc ++ (tokOf (oneR s a) :: l) := by rw [List.append_assoc]; rfl
            rw [ass] at q1 q2
            have hf3 : (tokOf (oneR s a)).f3 = (a : Int) := hat
            refine .inr ⟨tokOf (oneR s a) :: l, ⟨?_, ?_, ?_, ?_, ?_, ?_⟩, s_tok s (by omega) a hlt hb acc (by omega) e1 ho he q1, i_tok s (by omega) a hlt hb acc (by omega) e2 ho he q2, fun h8 => ?_⟩
            · intro t ht
              rcases List.mem_cons.1 ht with rfl | ht
              · omega
              · have := g.ge t ht; omega
            · intro t ht
              rcases List.mem_cons.1 ht with rfl | ht
              · omega
              · exact g.le t ht
            · intro t ht
              rcases List.mem_cons.1 ht with rfl | ht
              · exact htx
              · exact g.tx t ht
            · refine List.pairwise_cons.2 ⟨fun t ht => ?_, g.pw⟩
              have := g.ge t ht
              omega
            · obtain ⟨l', t, rfl, h0⟩ := g.last
              exact ⟨tokOf (oneR s a) :: l', t, rfl, h0⟩
            · have := g.len
              rw [List.length_cons]
              omega
            · obtain ⟨l', f1, f2⟩ := q3 h8
              obtain ⟨t3, e3, hok3, hsame3⟩ := one_im (s ++ SP) (by omega) a (by omega)
              have hbl := oneR_bl s a hlt ho
              rw [hbl] at hok3 hsame3
              obtain ⟨rfl, _⟩ := hsame3 ho
              rw [List.append_assoc] at f2
              exact ⟨tokOf (oneR s a) :: l', by rw [List.length_cons, List.length_cons, f1], i_tok (s ++ SP) (by omega) a (by omega) (by rw [bl_bt s a hlt]; exact hb) acc (by omega) e3 ho he f2⟩
    · have : a = s.size := by omega
      subst this
      refine .inr ⟨[endT s], ⟨?_, ?_, ?_, ?_, ⟨[], _, rfl, rfl⟩, ?_⟩, s_end s _ hlt acc (by omega), i_end s _ hlt acc (by omega), fun h8 => ⟨[endT (s ++ SP)], rfl, ?_⟩⟩
      · intro t ht; rw [List.mem_singleton.1 ht]; exact Int.le_refl _
      · intro t ht; rw [List.mem_singleton.1 ht]; exact Int.le_refl _
      · intro t ht; rw [List.mem_singleton.1 ht]; exact .inr (.inr (.inl rfl))
      · exact List.pairwise_singleton _ _
      · simp
      · exact i_blank (s ++ SP) (by omega) s.size (by omega) (.inl (bl_end s)) acc (i_end (s ++ SP) _ (by omega) acc (by omega))
end Go.Proofs.YtjlkkappngnbjaaDoor.XFnTokens
