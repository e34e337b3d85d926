/- The draws of the reference: they come to an end, within their bounds. No condition. -/
import Derived.Test.YtjlkkappngnbjaaDoorXFnTokens
import Derived.Test.YtjlkkappngnbjaaDoorPl
import Derived.Laws.Bits128
namespace Go.Proofs.YtjlkkappngnbjaaDoor.XFnTokens
open Go.RowKit Go.Proofs.YtjlkkappngnbjaaDoorW.PrintWords Go.Proofs.YtjlkkappngnbjaaDoor.Pl
set_option linter.unusedVariables false
set_option linter.unusedSimpArgs false

theorem ev_unique {β : Type} {g : Nat → Option β} {a b : β} : Ev g a → Ev g b → a = b := fun ⟨M, hM⟩ ⟨K, hK⟩ => by
  have h1 := hM (M + K) (by omega)
  have h2 := hK (M + K) (by omega)
  rw [h1] at h2
  exact Option.some.inj h2
theorem ev_one1 {β : Type} {g : Nat → Option β} {r : β} (e : ∀ k, g (k + 1) = some r) : Ev g r := ⟨1, fun k hk => by
  obtain ⟨m, rfl⟩ : ∃ m, k = m + 1 := ⟨k - 1, by omega⟩
  exact e m⟩
theorem i64_and255 (n : Int) : bits .and .i64 n 255 = n % 256 := by
  have h255 : (BitVec.ofInt 64 255).toNat = 2 ^ 8 - 1 := by decide
  have key : (BitVec.ofInt 64 n &&& BitVec.ofInt 64 255).toNat = (n % ((2 ^ 64 : Nat) : Int)).toNat % 2 ^ 8 := by
    rw [BitVec.toNat_and, BitVec.toNat_ofInt, h255, Nat.and_two_pow_sub_one_eq_mod]
  show IntKind.i64.wrap ((BitVec.ofInt 64 n &&& BitVec.ofInt 64 255).toNat : Nat) = n % 256
  rw [key, IntKind.wrap_i64]
  omega

theorem new_ev (l : List Int) : ∃ h : Int, Ev (fun k => spec_l1New.f k l) (l, 0, h) := by
  have key : ∀ (n i : Nat) (x : Int), i + n = 4000 → ∃ h : Int, Ev (fun k => spec_l1New.l0 k l x (i : Int)) (l, 0, h) := by
    intro n
    induction n with
    | zero =>
      intro i x hi
      refine ⟨x, ev_one1 fun k => ?_⟩
      simp only [spec_l1New.l0]
      rw [if_neg (show ¬ (i : Int) < 4000 by omega)]
      split <;> rfl
    | succ n ih =>
      intro i x hi
      by_cases hl : (i : Int) < (l.length : Int)
      · obtain ⟨h, hh⟩ := ih (i + 1) (Go.bits .and .i64 (wrap64 ((wrap64 ((wrap64 (x * 131)) + (wrap64 (rd l (i : Int))))) + 7)) 1073741823) (by omega)
        refine ⟨h, Ev.step (fun k => ?_) hh⟩
        simp only [spec_l1New.l0]
        rw [if_pos hl, if_pos (show (i : Int) < 4000 by omega), if_pos (show (0 : Int) ≤ (i : Int) by omega), w64n i (by omega)]
      · refine ⟨x, ev_one1 fun k => ?_⟩
        simp only [spec_l1New.l0]
        rw [if_neg hl]
  exact key 4000 0 _ rfl

theorem byte_ok (l : List Int) (hl : l.length < 9223372036854775807) (i h : Int) (hi : 0 ≤ i) : ∃ b i' h', spec_l1Byte.f l i h = some (b, i', h') ∧ 0 ≤ b ∧ b ≤ 255 ∧ 0 ≤ i' := by
  unfold spec_l1Byte.f
  by_cases c : i < (l.length : Int)
  · rw [if_pos c, if_pos hi]
    exact ⟨_, _, _, rfl, by rw [i64_and255]; omega, by rw [i64_and255]; omega, by rw [w64 _ (by omega) (by omega)]; omega⟩
  · rw [if_neg c]
    exact ⟨_, _, _, rfl, by rw [i64_and255]; omega, by rw [i64_and255]; omega, hi⟩
theorem tmod_ok (b n : Int) (h0 : 0 ≤ b) (hn : 0 < n) : 0 ≤ Int.tmod b n ∧ Int.tmod b n < n := by
  rw [Int.tmod_eq_emod_of_nonneg h0]
  exact ⟨Int.emod_nonneg _ (by omega), Int.emod_lt_of_pos _ hn⟩
theorem below_ok (l : List Int) (hl : l.length < 9223372036854775807) (i h n : Int) (hi : 0 ≤ i) (hn : 0 < n) : ∃ b i' h', spec_l1Below.f l i h n = some (b, i', h') ∧ 0 ≤ b ∧ b < n ∧ 0 ≤ i' := by
  unfold spec_l1Below.f
  rw [if_neg (by omega)]
  obtain ⟨b1, i1, h1, e1, p1, q1, r1⟩ := byte_ok l hl i h hi
  by_cases c : n ≤ 256
  · rw [if_pos c, e1, Option.bind_some, if_neg (by omega)]
    exact ⟨_, _, _, rfl, (tmod_ok b1 n p1 hn).1, (tmod_ok b1 n p1 hn).2, r1⟩
  · rw [if_neg c, e1, Option.bind_some]
    obtain ⟨b2, i2, h2, e2, p2, q2, r2⟩ := byte_ok l hl i1 h1 r1
    rw [e2, Option.bind_some]
    obtain ⟨b3, i3, h3, e3, p3, q3, r3⟩ := byte_ok l hl i2 h2 r2
    rw [e3, Option.bind_some]
    obtain ⟨b4, i4, h4, e4, p4, q4, r4⟩ := byte_ok l hl i3 h3 r3
    rw [e4, Option.bind_some, if_neg (by omega)]
    dsimp only
    rw [w64 (b1 * 16777216) (by omega) (by omega), w64 (b2 * 65536) (by omega) (by omega), w64 (b3 * 256) (by omega) (by omega), w64 (b1 * 16777216 + b2 * 65536) (by omega) (by omega), w64 (b1 * 16777216 + b2 * 65536 + b3 * 256) (by omega) (by omega), w64 (b1 * 16777216 + b2 * 65536 + b3 * 256 + b4) (by omega) (by omega)]
    exact ⟨_, _, _, rfl, (tmod_ok _ n (by omega) hn).1, (tmod_ok _ n (by omega) hn).2, r4⟩
theorem pick_ok (l : List Int) (hl : l.length < 9223372036854775807) (i h : Int) (hi : 0 ≤ i) (xs : List ByteArray) (hx : 0 < xs.length) : ∃ s i' h', spec_l1Pick.f l i h xs = some (s, i', h') ∧ s ∈ xs ∧ 0 ≤ i' := by
  unfold spec_l1Pick.f
  obtain ⟨b, i', h', e, p, q, r⟩ := below_ok l hl i h (xs.length : Int) hi (by omega)
  rw [e, Option.bind_some, if_pos p, if_pos q]
  obtain ⟨m, rfl⟩ := Int.eq_ofNat_of_zero_le p
  refine ⟨_, _, _, rfl, ?_, r⟩
  have hm : m < xs.length := by omega
  show rdOf ByteArray.empty xs ((m : Nat) : Int) ∈ xs
  rw [rdOf_nat _ xs m hm]
  exact List.getElem_mem _
theorem pickInt_ok (l : List Int) (hl : l.length < 9223372036854775807) (i h : Int) (hi : 0 ≤ i) (xs : List Int) (hx : 0 < xs.length) : ∃ s i' h', spec_l1PickInt.f l i h xs = some (s, i', h') ∧ 0 ≤ i' := by
  unfold spec_l1PickInt.f
  obtain ⟨b, i', h', e, p, q, r⟩ := below_ok l hl i h (xs.length : Int) hi (by omega)
  rw [e, Option.bind_some, if_pos p, if_pos q]
  exact ⟨_, _, _, rfl, r⟩
end Go.Proofs.YtjlkkappngnbjaaDoor.XFnTokens
