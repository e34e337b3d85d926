/- What the printed functions of FnExactWord come to: for any token the law's own function answers true. No condition. -/
import Derived.Test.YtpjfnjnidmlhcaaPFnExactWordx1
namespace Go.Proofs.Ytpjfnjnidmlhcaa.WordPure
open Go.RowKit Go.Proofs.Ytpjfnjnidmlhcaa.PFnExactWord Go.Proofs.YtpjfnjnidmlhcaaW.PrintWords Go.Proofs.YtpjfnjnidmlhcaaW.PrintLast

def words : List ByteArray := [(⟨#[108, 101, 116]⟩ : ByteArray), (⟨#[105, 102]⟩ : ByteArray), (⟨#[101, 108, 115, 101]⟩ : ByteArray), (⟨#[119, 104, 105, 108, 101]⟩ : ByteArray), (⟨#[114, 101, 116, 117, 114, 110]⟩ : ByteArray), (⟨#[112, 114, 105, 110, 116]⟩ : ByteArray), (⟨#[102, 117, 110, 99, 116, 105, 111, 110]⟩ : ByteArray), (⟨#[116, 114, 117, 101]⟩ : ByteArray), (⟨#[102, 97, 108, 115, 101]⟩ : ByteArray), (⟨#[110, 117, 108, 108]⟩ : ByteArray), (⟨#[117, 110, 100, 101, 102, 105, 110, 101, 100]⟩ : ByteArray), (⟨#[112, 114, 111, 116, 111]⟩ : ByteArray)]

theorem words_len : words.length = 12 := rfl

theorem wrap_step {i : Int} (h0 : 0 ≤ i) (h : i < 12) : wrap64 (i + 1) = i + 1 := by
  unfold wrap64
  omega

/-- is t one of the words from place i on -/
def isIn (t : ByteArray) : List ByteArray → Bool
  | [] => false
  | x :: r => if t.toList = x.toList then true else isIn t r

theorem drop_word (i : Int) (h0 : 0 ≤ i) (h : i < 12) : words.drop i.toNat = rdOf ByteArray.empty words i :: words.drop (i + 1).toNat := by
  have e : (i + 1).toNat = i.toNat + 1 := by omega
  have hl : i.toNat < words.length := by rw [words_len]; omega
  rw [e, List.drop_eq_getElem_cons hl]
  congr 1
  unfold rdOf
  rw [List.getD_eq_getElem?_getD, List.getElem?_eq_getElem hl]
  rfl

theorem spec_loop (kind : Int) (t : ByteArray) (a b : Int) (d : Nat) : ∀ (k : Nat) (i : Int), 0 ≤ i → i ≤ 12 → 12 - i = d → d < k →
    spec_Word.l0 k words i kind t a b = some (decide (kind = 1) && isIn t (words.drop i.toNat)) := by
  induction d with
  | zero =>
    intro k i h0 h1 hd hk
    obtain ⟨k, rfl⟩ : ∃ m, k = m + 1 := ⟨k - 1, by omega⟩
    obtain rfl : i = 12 := by omega
    simp only [spec_Word.l0]
    rw [if_neg (by rw [words_len]; omega)]
    have : words.drop (12 : Int).toNat = [] := rfl
    rw [this]
    simp [isIn]
  | succ d ih =>
    intro k i h0 h1 hd hk
    obtain ⟨k, rfl⟩ : ∃ m, k = m + 1 := ⟨k - 1, by omega⟩
    have hn := ih k (i + 1) (by omega) (by omega) (by omega) (by omega)
    simp only [spec_Word.l0]
    rw [if_pos (by rw [words_len]; omega), wrap_step h0 (by omega), drop_word i h0 (by omega)]
    by_cases hk1 : kind = 1
    · rw [if_pos hk1, if_pos h0]
      by_cases e : t.toList = (rdOf ByteArray.empty words i).toList
      · rw [if_pos e]
        simp [isIn, e, hk1]
      · rw [if_neg e, hn]
        simp [isIn, e]
    · rw [if_neg hk1, hn]
      simp [hk1]

theorem index_loop (t : ByteArray) (d : Nat) : ∀ (k : Nat) (i : Int), 0 ≤ i → i ≤ 12 → 12 - i = d → d < k →
    ∃ r, slices_Index_string_string.l0 k words t 12 i = some r ∧ decide (r ≥ 0) = isIn t (words.drop i.toNat) := by
  induction d with
  | zero =>
    intro k i h0 h1 hd hk
    obtain ⟨k, rfl⟩ : ∃ m, k = m + 1 := ⟨k - 1, by omega⟩
    obtain rfl : i = 12 := by omega
    refine ⟨-1, ?_, ?_⟩
    · simp only [slices_Index_string_string.l0]
      rw [if_neg (by omega)]
    · have : words.drop (12 : Int).toNat = [] := rfl
      rw [this]
      simp [isIn]
  | succ d ih =>
    intro k i h0 h1 hd hk
    obtain ⟨k, rfl⟩ : ∃ m, k = m + 1 := ⟨k - 1, by omega⟩
    obtain ⟨r, hr, hr2⟩ := ih k (i + 1) (by omega) (by omega) (by omega) (by omega)
    simp only [slices_Index_string_string.l0]
    rw [if_pos (by omega), if_pos h0, if_pos (by rw [words_len]; omega), wrap_step h0 (by omega), drop_word i h0 (by omega)]
    by_cases e : t.toList = (rdOf ByteArray.empty words i).toList
    · rw [if_pos e]
      exact ⟨i, rfl, by simp [isIn, e, h0]⟩
    · rw [if_neg e]
      exact ⟨r, hr, by rw [hr2]; simp [isIn, e]⟩

theorem word_true (kind : Int) (t : ByteArray) (a b : Int) : laws_FnExactWord.f 13 kind t a b = some true := by
  have hs : spec_Word.f 13 kind t a b = some (decide (kind = 1) && isIn t words) := spec_loop kind t a b 12 13 0 (by omega) (by omega) (by omega) (by omega)
  obtain ⟨r, hr, hr2⟩ := index_loop t 12 13 0 (by omega) (by omega) (by omega) (by omega)
  have hi : impl_Word.f 13 kind t a b = some (decide (kind = 1) && isIn t words) := by
    unfold impl_Word.f
    by_cases h : kind = 1
    · rw [if_pos h]
      unfold impl_isWord.f slices_Contains_string_string.f slices_Index_string_string.f
      show ((((slices_Index_string_string.l0 13 words t 12 0).bind fun t111 => some (decide (t111 ≥ 0))).bind fun t115 => some t115).bind fun t117 => some t117) = _
      rw [hr]
      simp only [Option.bind_some]
      rw [hr2]
      simp [h]
    · rw [if_neg h]
      simp [h]
  unfold laws_FnExactWord.f laws_szToken.f laws_toToken.f
  simp only [hs, hi, Option.bind_some]
  split
  · simp only [Option.bind_some]
    rw [if_pos (by omega)]
  · simp only [Option.bind_some, bne_self_eq_false, Bool.false_eq_true, if_false, ite_self]
end Go.Proofs.Ytpjfnjnidmlhcaa.WordPure
