/- The law FnExactTokens, of whatever text: the reference's tokens and the program's are the same; what one call gives is no other's memory. No condition. -/
import Derived.Test.YtpdgcpgdjdkpbaaDoorTokensDigits
import Derived.Lib.AtoiAll
namespace Go.Proofs.YtpdgcpgdjdkpbaaDoor.XFnExactTokens
open Go.RowKit Go.Proofs.YtpdgcpgdjdkpbaaDoorW.PrintWords Go.Proofs.YtpdgcpgdjdkpbaaDoor.Pl
set_option linter.unusedVariables false
set_option linter.unusedSimpArgs false

theorem itoa_f (n : Int) (h0 : -9223372036854775808 ≤ n) (h1 : n ≤ 9223372036854775807) : strconv_Itoa.f n = some (mk (Lib.itoa n)) := by
  unfold strconv_Itoa.f
  rw [if_pos ⟨h0, h1⟩]
  rfl
theorem ev_late {β : Type} {g h : Nat → Option β} {r : β} (K : Nat) (e : ∀ k, K ≤ k → g (k + 1) = h k) : Ev h r → Ev g r := fun ⟨M, hM⟩ => ⟨K + M + 1, fun k hk => by
  obtain ⟨m, rfl⟩ : ∃ m, k = m + 1 := ⟨k - 1, by omega⟩
  rw [e m (by omega)]
  exact hM m (by omega)⟩
theorem ev_one {β : Type} {g : Nat → Option β} {r : β} (e : ∀ k, g (k + 1) = some r) : Ev g r := ⟨1, fun k hk => by
  obtain ⟨m, rfl⟩ : ∃ m, k = m + 1 := ⟨k - 1, by omega⟩
  exact e m⟩

/-! Kinds of bytes -/
def letb (c : Int) : Bool := decide (97 ≤ c ∧ c ≤ 122 ∨ 65 ≤ c ∧ c ≤ 90)
def digb (c : Int) : Bool := decide (48 ≤ c ∧ c ≤ 57)
def txb (c : Int) : Bool := decide (32 ≤ c ∧ c ≤ 126 ∧ c ≠ 34)
theorem some_dec {p q : Prop} [Decidable p] [Decidable q] (h : p ↔ q) : some (decide p) = some (decide q) := by rw [decide_eq_decide.2 h]
theorem some_t {q : Prop} [Decidable q] (h : q) : some true = some (decide q) := by rw [decide_eq_true h]
theorem some_f {q : Prop} [Decidable q] (h : ¬ q) : some false = some (decide q) := by rw [decide_eq_false h]
theorem sletter (c : Int) : spec_l11Letter.f c = some (letb c) := by
  unfold spec_l11Letter.f letb
  repeat' split
  all_goals first | exact some_t (by omega) | exact some_f (by omega) | exact some_dec (by omega)
theorem iletter (c : Int) : impl_letter.f c = some (letb c) := by
  unfold impl_letter.f letb
  repeat' split
  all_goals first | exact some_t (by omega) | exact some_f (by omega) | exact some_dec (by omega)
theorem sdigit (c : Int) : spec_l11Digit.f c = some (digb c) := by
  unfold spec_l11Digit.f digb
  repeat' split
  all_goals first | exact some_t (by omega) | exact some_f (by omega) | exact some_dec (by omega)
theorem idigit (c : Int) : impl_digit.f c = some (digb c) := by
  unfold impl_digit.f digb
  repeat' split
  all_goals first | exact some_t (by omega) | exact some_f (by omega) | exact some_dec (by omega)
theorem itext (c : Int) : impl_textByte.f c = some (txb c) := by
  unfold impl_textByte.f txb
  repeat' split
  · by_cases h : c = 34
    · subst h; rfl
    · rw [show (c != 34) = true by simp [h]]; exact some_t (by omega)
  · exact some_f (by omega)
  · exact some_f (by omega)

theorem bt_nat (s : ByteArray) (i : Nat) (h : i < s.size) : bt s (i : Int) = ((s[i]'h).toNat : Int) := by
  unfold bt
  simp [h]

/-! Where a run of bytes ends -/
def stop (p : Int → Bool) (s : ByteArray) : Nat → Nat → Nat
  | 0, i => i
  | d + 1, i => if p (bt s (i : Int)) then stop p s d (i + 1) else i
theorem stop_le (p : Int → Bool) (s : ByteArray) : ∀ d i, i ≤ stop p s d i ∧ stop p s d i ≤ i + d
  | 0, i => ⟨Nat.le_refl _, Nat.le_refl _⟩
  | d + 1, i => by
    unfold stop
    have := stop_le p s d (i + 1)
    split <;> omega
theorem scan_ev {β : Type} (p : Int → Bool) (s : ByteArray) (g : Nat → Int → Option β) (R : Nat → β) (lo : Nat)
    (hend : ∀ k, lo ≤ s.size → g (k + 1) (s.size : Int) = some (R s.size))
    (hno : ∀ k (i : Nat), lo ≤ i → i < s.size → p (bt s (i : Int)) = false → g (k + 1) (i : Int) = some (R i))
    (hyes : ∀ k (i : Nat), lo ≤ i → i < s.size → p (bt s (i : Int)) = true → g (k + 1) (i : Int) = g k ((i + 1 : Nat) : Int)) :
    ∀ d i : Nat, lo ≤ i → i + d = s.size → Ev (fun k => g k (i : Int)) (R (stop p s d i)) := by
  intro d
  induction d with
  | zero =>
    intro i hl h
    obtain rfl : i = s.size := by omega
    exact ev_one fun k => hend k hl
  | succ d ih =>
    intro i hl h
    by_cases hp : p (bt s (i : Int)) = true
    · have := ih (i + 1) (by omega) (by omega)
      rw [show stop p s (d + 1) i = stop p s d (i + 1) by rw [stop, if_pos hp]]
      exact Ev.step (fun k => hyes k i hl (by omega) hp) this
    · rw [show stop p s (d + 1) i = i by rw [stop, if_neg hp]]
      exact ev_one fun k => hno k i hl (by omega) (by simpa using hp)

theorem run73 (s : ByteArray) (hs : s.size ≤ 800) (i d : Nat) (h : i + d = s.size) : Ev (fun k => impl_run_f73.f k s (i : Int) ()) ((stop (fun c => letb c || digb c) s d i : Nat) : Int) := by
  unfold impl_run_f73.f
  refine scan_ev (fun c => letb c || digb c) s (fun k i => impl_run_f73.l0 k s i) (fun e => (e : Int)) 0 ?_ ?_ ?_ d i (Nat.zero_le _) h
  · intro k _
    simp only [impl_run_f73.l0]
    rw [if_neg (by omega)]
  · intro k i _ hi hp
    simp only [impl_run_f73.l0, impl_tokenAt_1.f, iletter, idigit, Option.bind_some]
    rw [if_pos (by omega), if_pos (by omega)]
    simp only [Bool.or_eq_false_iff] at hp
    simp [hp.1, hp.2]
  · intro k i _ hi hp
    simp only [impl_run_f73.l0, impl_tokenAt_1.f, iletter, idigit, Option.bind_some]
    rw [if_pos (by omega), if_pos (by omega), w64n i (by omega)]
    cases hl : letb (bt s (i : Int)) with
    | true => simp
    | false => simp only [hl, Bool.false_or] at hp; simp [hp]
theorem run74 (s : ByteArray) (hs : s.size ≤ 800) (i d : Nat) (h : i + d = s.size) : Ev (fun k => impl_run_f74.f k s (i : Int) ()) ((stop digb s d i : Nat) : Int) := by
  unfold impl_run_f74.f
  refine scan_ev digb s (fun k i => impl_run_f74.l0 k s i) (fun e => (e : Int)) 0 ?_ ?_ ?_ d i (Nat.zero_le _) h
  · intro k _
    simp only [impl_run_f74.l0]
    rw [if_neg (by omega)]
  · intro k i _ hi hp
    simp only [impl_run_f74.l0, idigit, Option.bind_some]
    rw [if_pos (by omega), if_pos (by omega), hp]
    rfl
  · intro k i _ hi hp
    simp only [impl_run_f74.l0, idigit, Option.bind_some]
    rw [if_pos (by omega), if_pos (by omega), w64n i (by omega), hp]
    rfl
theorem run77 (s : ByteArray) (hs : s.size ≤ 800) (i d : Nat) (h : i + d = s.size) : Ev (fun k => impl_run_f77.f k s (i : Int) ()) ((stop txb s d i : Nat) : Int) := by
  unfold impl_run_f77.f
  refine scan_ev txb s (fun k i => impl_run_f77.l0 k s i) (fun e => (e : Int)) 0 ?_ ?_ ?_ d i (Nat.zero_le _) h
  · intro k _
    simp only [impl_run_f77.l0]
    rw [if_neg (by omega)]
  · intro k i _ hi hp
    simp only [impl_run_f77.l0, itext, Option.bind_some]
    rw [if_pos (by omega), if_pos (by omega), hp]
    rfl
  · intro k i _ hi hp
    simp only [impl_run_f77.l0, itext, Option.bind_some]
    rw [if_pos (by omega), if_pos (by omega), w64n i (by omega), hp]
    rfl

abbrev Res := Int × ByteArray × Int × Int × Int × Bool
def nameR (s : ByteArray) (a e : Nat) : Res := (1, s.extract a e, 0, (a : Int), (e : Int), decide (((e : Int) - (a : Int)) ≤ 12))
theorem name_ev (s : ByteArray) (hs : s.size ≤ 800) (a d : Nat) (h : a + d = s.size) : Ev (fun k => spec_l11Name.f k s (a : Int)) (nameR s a (stop (fun c => letb c || digb c) s d a)) := by
  unfold spec_l11Name.f
  have fin : ∀ e : Nat, a ≤ e → e ≤ s.size → (if 0 ≤ (a : Int) then (if (a : Int) ≤ (e : Int) then (if (e : Int) ≤ (s.size : Int) then (some (1, s.extract ((a : Int) : Int).toNat ((e : Int) : Int).toNat, 0, (a : Int), (e : Int), decide ((wrap64 ((e : Int) - (a : Int))) ≤ 12))) else (none)) else (none)) else (none)) = some (nameR s a e) := by
    intro e h1 h2
    rw [if_pos (by omega), if_pos (by omega), if_pos (by omega), w64 _ (by omega) (by omega), Int.toNat_natCast, Int.toNat_natCast]
    rfl
  refine scan_ev (fun c => letb c || digb c) s (fun k i => spec_l11Name.l0 k s (a : Int) i) (nameR s a) a ?_ ?_ ?_ d a (Nat.le_refl _) h
  · intro k hl
    simp only [spec_l11Name.l0]
    rw [if_neg (by omega)]
    exact fin s.size hl (Nat.le_refl _)
  · intro k i hl hi hp
    simp only [Bool.or_eq_false_iff] at hp
    simp only [spec_l11Name.l0, sletter, sdigit, Option.bind_some]
    rw [if_pos (by omega), if_pos (by omega), hp.1, hp.2]
    exact fin i hl (by omega)
  · intro k i hl hi hp
    simp only [spec_l11Name.l0, sletter, sdigit, Option.bind_some]
    rw [if_pos (by omega), if_pos (by omega), w64n i (by omega)]
    cases hl : letb (bt s (i : Int)) with
    | true => simp
    | false => simp only [hl, Bool.false_or] at hp; simp [hp]

/-! Numbers -/
def cap (x : Nat) : List UInt8 → Nat
  | [] => x
  | c :: r => if x ≤ 2147483647 then cap (10 * x + (c.toNat - 48)) r else cap x r
def seg (s : ByteArray) (i e : Nat) : List UInt8 := (s.extract i e).data.toList
theorem seg_eq (s : ByteArray) (i e : Nat) : seg s i e = (s.data.toList.take e).drop i := by
  unfold seg
  rw [ByteArray.data_extract, Array.toList_extract, List.extract_eq_take_drop, List.drop_take]
theorem seg_cons (s : ByteArray) (i e : Nat) (h : i < s.size) (he : i < e) : seg s i e = s[i]'h :: seg s (i + 1) e := by
  have hl : i < (s.data.toList.take e).length := by
    rw [List.length_take, Array.length_toList]
    have : s.data.size = s.size := rfl
    omega
  rw [seg_eq, seg_eq, List.drop_eq_getElem_cons hl]
  congr 1
  rw [List.getElem_take]
  rfl
theorem seg_nil (s : ByteArray) (e : Nat) : seg s e e = [] := by
  rw [seg_eq, List.drop_eq_nil_of_le (by rw [List.length_take]; omega)]
theorem seg_digs (s : ByteArray) : ∀ d i : Nat, i + d = s.size → ∀ c ∈ seg s i (stop digb s d i), 48 ≤ c.toNat ∧ c.toNat ≤ 57 := by
  intro d
  induction d with
  | zero =>
    intro i h c hc
    rw [stop, seg_nil] at hc
    cases hc
  | succ d ih =>
    intro i h c hc
    by_cases hp : digb (bt s (i : Int)) = true
    · rw [stop, if_pos hp] at hc
      have hle := (stop_le digb s d (i + 1)).1
      rw [seg_cons s i _ (by omega) (by omega)] at hc
      rcases List.mem_cons.1 hc with rfl | hc
      · rw [bt_nat s i (by omega)] at hp
        have := of_decide_eq_true hp
        omega
      · exact ih (i + 1) (by omega) c hc
    · rw [stop, if_neg hp, seg_nil] at hc
      cases hc

def numR (s : ByteArray) (a e x : Nat) : Res := (2, (⟨#[]⟩ : ByteArray), (x : Int), (a : Int), (e : Int), decide (x ≤ 2147483647) && ((mk (Lib.itoa (x : Int))).toList == (s.extract a e).toList))
theorem num_end (s : ByteArray) (hs : s.size ≤ 800) (a e x : Nat) (h1 : a ≤ e) (h2 : e ≤ s.size) (hx : x ≤ 99999999999) (y : Int) (hy : y = (x : Int)) : Ev (fun k => spec_l11Num.j1 k s (a : Int) (e : Int) y false) (numR s a e x) := by
  subst hy
  obtain ⟨K, e1⟩ := digits_ev (x : Int) (by omega) (by omega)
  dsimp only at e1
  refine ⟨K + 1, fun k hk => ?_⟩
  obtain ⟨m, rfl⟩ : ∃ m, k = m + 1 := ⟨k - 1, by omega⟩
  simp only [spec_l11Num.j1, Bool.false_eq_true, if_false]
  unfold numR
  by_cases h : (x : Int) ≤ 2147483647
  · rw [if_pos h, e1 m (by omega), Option.bind_some, if_pos (by omega), if_pos (by omega), if_pos (by omega), Int.toNat_natCast, Int.toNat_natCast, decide_eq_true (by omega), Bool.true_and]
  · rw [if_neg h, decide_eq_false (by omega), Bool.false_and]
theorem num_ev (s : ByteArray) (hs : s.size ≤ 800) (a : Nat) : ∀ d i x : Nat, a ≤ i → i + d = s.size → x ≤ 99999999999 →
    Ev (fun k => spec_l11Num.l0 k s (a : Int) (i : Int) (x : Int)) (numR s a (stop digb s d i) (cap x (seg s i (stop digb s d i)))) := by
  intro d
  induction d with
  | zero =>
    intro i x ha h hx
    rw [stop, seg_nil, cap]
    refine Ev.step (fun k => ?_) (num_end s hs a i x ha (by omega) hx x rfl)
    simp only [spec_l11Num.l0]
    rw [if_neg (by omega)]
  | succ d ih =>
    intro i x ha h hx
    by_cases hp : digb (bt s (i : Int)) = true
    · have hle := (stop_le digb s d (i + 1)).1
      rw [show stop digb s (d + 1) i = stop digb s d (i + 1) by rw [stop, if_pos hp]]
      rw [seg_cons s i _ (by omega) (by omega), cap]
      have hb := bt_nat s i (by omega)
      have hc := of_decide_eq_true (show decide (48 ≤ bt s (i : Int) ∧ bt s (i : Int) ≤ 57) = true from hp)
      have e0 : ∀ k, spec_l11Num.l0 (k + 1) s (a : Int) (i : Int) (x : Int) = spec_l11Num.j1 k s (a : Int) (i : Int) (x : Int) true := by
        intro k
        simp only [spec_l11Num.l0, sdigit, Option.bind_some]
        rw [if_pos (by omega), if_pos (by omega), hp]
      by_cases hm : x ≤ 2147483647
      · rw [if_pos hm]
        have := ih (i + 1) (10 * x + ((s[i]'(by omega)).toNat - 48)) (by omega) (by omega) (by rw [hb] at hc; omega)
        refine Ev.step e0 (Ev.step (fun k => ?_) this)
        simp only [spec_l11Num.j1, if_true]
        rw [if_pos (by omega), if_pos (by omega), if_pos (by omega), w64n i (by omega)]
        congr 1
        rw [hb] at hc ⊢
        rw [w64 (10 * (x : Int)) (by omega) (by omega), w64 (((s[i]'(by omega)).toNat : Int)) (by omega) (by omega), w64 (10 * (x : Int) + ((s[i]'(by omega)).toNat : Int)) (by omega) (by omega), w64 _ (by omega) (by omega)]
        omega
      · rw [if_neg hm]
        have := ih (i + 1) x (by omega) (by omega) hx
        refine Ev.step e0 (Ev.step (fun k => ?_) this)
        simp only [spec_l11Num.j1, if_true]
        rw [if_neg (by omega), w64n i (by omega)]
    · rw [show stop digb s (d + 1) i = i by rw [stop, if_neg hp], seg_nil, cap]
      refine Ev.step (fun k => ?_) (num_end s hs a i x ha (by omega) hx x rfl)
      simp only [spec_l11Num.l0, sdigit, Option.bind_some]
      rw [if_pos (by omega), if_pos (by omega), show digb (bt s (i : Int)) = false by simpa using hp]

def fits (x : Nat) : Lib.NumEnd Nat → Prop
  | .ok u => (x ≤ 2147483647 ∧ u = x) ∨ (2147483647 < x ∧ 2147483647 < u)
  | .range => 2147483647 < x
  | _ => False
theorem cap_big (x : Nat) (h : 2147483647 < x) : ∀ l, cap x l = x
  | [] => rfl
  | c :: r => by rw [cap, if_neg (by omega), cap_big x h r]
theorem parse_fits : ∀ (l : List UInt8) (x acc : Nat), (∀ c ∈ l, 48 ≤ c.toNat ∧ c.toNat ≤ 57) → (x = acc ∨ (2147483647 < x ∧ 2147483647 < acc)) → fits (cap x l) (Lib.parseUint10 acc l)
  | [], x, acc, _, h => by
    simp only [Lib.parseUint10, cap, fits]
    omega
  | c :: r, x, acc, hc, h => by
    have h0 := hc c (List.mem_cons_self ..)
    have hr : ∀ c ∈ r, 48 ≤ c.toNat ∧ c.toNat ≤ 57 := fun y hy => hc y (List.mem_cons_of_mem _ hy)
    rw [Lib.parseUint10, if_pos h0]
    by_cases hx : x ≤ 2147483647
    · obtain rfl : x = acc := by omega
      rw [if_neg (by omega), if_neg (by omega), cap, if_pos hx]
      exact parse_fits r _ _ hr (.inl (by omega))
    · rw [cap, if_neg hx]
      split
      · show 2147483647 < cap x r
        rw [cap_big x (by omega)]; omega
      · split
        · show 2147483647 < cap x r
          rw [cap_big x (by omega)]; omega
        · exact parse_fits r _ _ hr (.inr ⟨by omega, by omega⟩)
theorem atoi_digs (l : List UInt8) (hn : l ≠ []) (hc : ∀ c ∈ l, 48 ≤ c.toNat ∧ c.toNat ≤ 57) :
    (∃ u : Nat, Lib.atoiAll l = .ok (u : Int) ∧ u < 9223372036854775808 ∧ ((cap 0 l ≤ 2147483647 ∧ u = cap 0 l) ∨ (2147483647 < cap 0 l ∧ 2147483647 < u))) ∨ (Lib.atoiAll l = .range ∧ 2147483647 < cap 0 l) := by
  cases l with
  | nil => exact absurd rfl hn
  | cons c r =>
    have h0 := hc c (List.mem_cons_self ..)
    have hf := parse_fits (c :: r) 0 0 hc (.inl rfl)
    unfold Lib.atoiAll
    simp only []
    rw [if_neg (by omega : ¬ (c.toNat = 43 ∨ c.toNat = 45))]
    have hm : Lib.parseMag (c :: r) = Lib.parseUint10 0 (c :: r) := by
      unfold Lib.parseMag
      rw [if_neg (by simp)]
    rw [hm]
    cases hp : Lib.parseUint10 0 (c :: r) with
    | ok u =>
      rw [hp] at hf
      simp only []
      by_cases hb : 9223372036854775808 ≤ u
      · right
        rw [if_pos ⟨by omega, hb⟩]
        refine ⟨rfl, ?_⟩
        have : (cap 0 (c :: r) ≤ 2147483647 ∧ u = cap 0 (c :: r)) ∨ (2147483647 < cap 0 (c :: r) ∧ 2147483647 < u) := hf
        omega
      · left
        rw [if_neg (by omega), if_neg (by omega), if_neg (by omega)]
        exact ⟨u, rfl, by omega, hf⟩
    | range =>
      rw [hp] at hf
      right
      exact ⟨rfl, hf⟩
    | _ =>
      rw [hp] at hf
      exact hf.elim

/-! Texts -/
def bad (a : Nat) : Res := (0, (⟨#[]⟩ : ByteArray), 0, 0, (a : Int), false)
def textR (s : ByteArray) (a e : Nat) : Res := if e < s.size ∧ bt s (e : Int) = 34 ∧ e ≤ a + 31 then (3, s.extract (a + 1) e, 0, (a : Int), ((e + 1 : Nat) : Int), true) else bad a
theorem text_ev (s : ByteArray) (hs : s.size ≤ 800) (a d : Nat) (h : a + 1 + d = s.size) : Ev (fun k => spec_l11Text.f k s (a : Int)) (textR s a (stop txb s d (a + 1))) := by
  unfold spec_l11Text.f
  rw [w64n a (by omega)]
  refine scan_ev txb s (fun k i => spec_l11Text.l0 k s (a : Int) i) (textR s a) (a + 1) ?_ ?_ ?_ d (a + 1) (Nat.le_refl _) h
  · intro k hl
    simp only [spec_l11Text.l0]
    rw [if_neg (by omega), if_pos (by omega), textR, if_neg (by omega)]
    rfl
  · intro k i hl hi hp
    have hq : ¬ (32 ≤ bt s (i : Int) ∧ bt s (i : Int) ≤ 126 ∧ bt s (i : Int) ≠ 34) := of_decide_eq_false hp
    simp only [spec_l11Text.l0]
    rw [if_pos (by omega), if_pos (by omega), w64n i (by omega), w64n a (by omega), w64 ((i : Int) - (a : Int)) (by omega) (by omega), w64 ((i : Int) - (a : Int) - 1) (by omega) (by omega), Int.toNat_natCast, Int.toNat_natCast]
    by_cases h34 : bt s (i : Int) = 34
    · rw [if_pos h34, if_neg (by omega)]
      by_cases hz : (i : Int) - (a : Int) - 1 > 30
      · rw [if_pos hz, textR, if_neg (by omega)]; rfl
      · rw [if_neg hz, if_pos (by omega), if_pos (by omega), if_pos (by omega), textR, if_pos ⟨hi, h34, by omega⟩]
    · rw [if_neg h34]
      have R : textR s a i = bad a := by rw [textR, if_neg (fun h => h34 h.2.1)]
      rw [R]
      by_cases h1 : bt s (i : Int) ≥ 32
      · rw [if_pos h1, if_neg (by omega), if_neg (by omega)]; rfl
      · rw [if_neg h1, if_neg (by omega)]; rfl
  · intro k i hl hi hp
    have hq : 32 ≤ bt s (i : Int) ∧ bt s (i : Int) ≤ 126 ∧ bt s (i : Int) ≠ 34 := of_decide_eq_true hp
    simp only [spec_l11Text.l0]
    rw [if_pos (by omega), if_pos (by omega), if_neg (by omega), if_pos (by omega), if_pos (by omega), w64n i (by omega)]

/-! Signs -/
abbrev SG : ByteArray := ⟨#[40, 41, 123, 125, 44, 59, 58, 46, 61, 43, 45, 42, 60, 33]⟩
theorem SG_size : SG.size = 14 := rfl
def sg (c : Int) : Bool := decide (stop (fun x => x != c) SG 14 0 < 14)
theorem sg_all : ∀ n : Fin 256, sg (n.val : Int) = decide (0 ≤ Lib.indexByte SG.data.toList (UInt8.ofNat n.val)) := by decide +kernel
theorem sg_byte (c : UInt8) : sg (c.toNat : Int) = decide (0 ≤ Lib.indexByte SG.data.toList c) := by
  have := sg_all ⟨c.toNat, c.toNat_lt⟩
  simpa using this
theorem signs_ev (s : ByteArray) (hs : s.size ≤ 800) (a : Nat) (ha : a < s.size) : Ev (fun k => spec_l11Sign.l0 k s (a : Int) SG 0) (if sg (bt s (a : Int)) then s.extract a (a + 1) else (⟨#[]⟩ : ByteArray)) := by
  have key := scan_ev (fun x => x != bt s (a : Int)) SG (fun k i => spec_l11Sign.l0 k s (a : Int) SG i) (fun e => if e < 14 then s.extract a (a + 1) else (⟨#[]⟩ : ByteArray)) 0 (by
    intro k _
    simp only [spec_l11Sign.l0]
    rw [if_neg (by omega)]
    rfl) (by
    intro k i _ hi hp
    rw [SG_size] at hi
    simp only [spec_l11Sign.l0]
    have he : bt SG (i : Int) = bt s (a : Int) := by simpa using hp
    rw [if_pos (by rw [SG_size]; omega), if_pos (by omega), if_pos (by omega), if_pos (by omega), if_pos he, w64n a (by omega), if_pos (by omega), if_pos (by omega), if_pos (by omega), Int.toNat_natCast, Int.toNat_natCast]) (by
    intro k i _ hi hp
    rw [SG_size] at hi
    simp only [spec_l11Sign.l0]
    have he : ¬ bt SG (i : Int) = bt s (a : Int) := by simpa using hp
    rw [if_pos (by rw [SG_size]; omega), if_pos (by omega), if_pos (by omega), if_pos (by omega), if_neg he, w64n i (by omega)]) 14 0 (Nat.zero_le _) rfl
  unfold sg
  simpa using key
def two (s : ByteArray) (a : Nat) : Bool := decide (a + 1 < s.size ∧ bt s (a : Int) = 61 ∧ bt s ((a + 1 : Nat) : Int) = 61)
abbrev EE : ByteArray := ⟨#[61, 61]⟩
theorem sign_ev (s : ByteArray) (hs : s.size ≤ 800) (a : Nat) (ha : a < s.size) : Ev (fun k => spec_l11Sign.f k s (a : Int)) (if two s a then EE else if sg (bt s (a : Int)) then s.extract a (a + 1) else (⟨#[]⟩ : ByteArray)) := by
  unfold spec_l11Sign.f
  simp only [if_pos (show (0 : Int) ≤ (a : Int) by omega), if_pos (show (a : Int) < (s.size : Int) by omega), w64n a (by omega)]
  have no : two s a = false → Ev (fun k => spec_l11Sign.j0 k s (a : Int) false) (if two s a then EE else if sg (bt s (a : Int)) then s.extract a (a + 1) else (⟨#[]⟩ : ByteArray)) := by
    intro h
    rw [h]
    exact Ev.step (fun k => by simp only [spec_l11Sign.j0]; rfl) (signs_ev s hs a ha)
  by_cases h1 : bt s (a : Int) = 61
  · simp only [if_pos h1]
    by_cases h2 : a + 1 < s.size
    · simp only [if_pos (show ((a + 1 : Nat) : Int) < (s.size : Int) by omega), if_pos (show (0 : Int) ≤ ((a + 1 : Nat) : Int) by omega)]
      by_cases h3 : bt s ((a + 1 : Nat) : Int) = 61
      · rw [h3, show two s a = true from decide_eq_true ⟨h2, h1, h3⟩]
        exact ev_one fun k => by simp only [spec_l11Sign.j0]; rfl
      · rw [show (bt s ((a + 1 : Nat) : Int) == 61) = false by simpa using h3]
        exact no (decide_eq_false (fun h => h3 h.2.2))
    · simp only [if_neg (show ¬ ((a + 1 : Nat) : Int) < (s.size : Int) by omega)]
      exact no (decide_eq_false (fun h => h2 h.1))
  · simp only [if_neg h1]
    exact no (decide_eq_false (fun h => h1 h.2.1))
theorem pre_ev (s : ByteArray) (hs : s.size ≤ 800) (a : Nat) (ha : a < s.size) : strings_HasPrefix.f (s.extract a s.size) EE = some (two s a) := by
  have hz : (s.extract a s.size).size = s.size - a := by rw [ByteArray.size_extract]; omega
  have hE : EE.size = 2 := rfl
  unfold strings_HasPrefix.f stringslite_HasPrefix.f
  by_cases h : (((s.extract a s.size).size : Nat) : Int) ≥ (EE.size : Int)
  · rw [if_pos h, if_pos (by omega), if_pos (by omega), Option.bind_some]
    rw [hz, hE] at h
    have h2 : a + 1 < s.size := by omega
    have e1 : ((s.extract a s.size).extract 0 ((EE.size : Int)).toNat).toList = [s[a]'ha, s[a + 1]'h2] := by
      rw [ba_toList]
      have : ((s.extract a s.size).extract 0 ((EE.size : Int)).toNat).data.toList = (seg s a s.size).take 2 := by
        change seg (s.extract a s.size) 0 ((EE.size : Int)).toNat = _
        rw [seg_eq, List.drop_zero]
        rfl
      rw [this, seg_cons s a _ ha ha, seg_cons s (a + 1) _ h2 h2]
      rfl
    rw [e1, ba_toList]
    unfold two
    rw [bt_nat s a ha, bt_nat s (a + 1) h2]
    congr 1
    show (([s[a]'ha, s[a + 1]'h2] : List UInt8) == [61, 61]) = _
    by_cases q1 : s[a]'ha = 61
    · by_cases q2 : s[a + 1]'h2 = 61
      · rw [q1, q2, decide_eq_true ⟨h2, rfl, rfl⟩]; rfl
      · rw [decide_eq_false]
        · simp [q2]
        · intro hh
          have := hh.2.2
          exact q2 (UInt8.toNat_inj.1 (by show _ = 61; omega))
    · rw [decide_eq_false]
      · simp [q1]
      · intro hh
        have := hh.2.1
        exact q1 (UInt8.toNat_inj.1 (by show _ = 61; omega))
  · rw [if_neg h, Option.bind_some]
    rw [hz, hE] at h
    rw [show two s a = false from decide_eq_false (fun hh => by have := hh.1; omega)]

/-! One token -/
theorem one_ev (s : ByteArray) (hs : s.size ≤ 800) (a : Nat) (ha : a < s.size) : ∃ r1 r2 : Res, Ev (fun k => spec_l11One.f k s (a : Int)) r1 ∧ Ev (fun k => impl_tokenAt.f k s (a : Int)) r2 ∧ r1.2.2.2.2.2 = r2.2.2.2.2.2 ∧
    (r1.2.2.2.2.2 = true → r1 = r2 ∧ ∃ e : Nat, r1.2.2.2.2.1 = (e : Int) ∧ a < e ∧ e ≤ s.size) := by
  obtain ⟨d, hd⟩ : ∃ d, a + d = s.size := ⟨s.size - a, by omega⟩
  obtain ⟨d', rfl⟩ : ∃ d', d = d' + 1 := ⟨d - 1, by omega⟩
  unfold spec_l11One.f impl_tokenAt.f
  simp only [if_pos (show (0 : Int) ≤ (a : Int) by omega), if_pos (show (a : Int) < (s.size : Int) by omega), sletter, sdigit, iletter, idigit, Option.bind_some]
  by_cases hl : letb (bt s (a : Int)) = true
  · -- a name
    simp only [if_pos hl]
    have hst := stop_le (fun c => letb c || digb c) s (d' + 1) a
    have h1 : stop (fun c => letb c || digb c) s (d' + 1) a = stop (fun c => letb c || digb c) s d' (a + 1) := by rw [stop, if_pos (by simp [hl])]
    have hst' := stop_le (fun c => letb c || digb c) s d' (a + 1)
    refine ⟨_, nameR s a (stop (fun c => letb c || digb c) s (d' + 1) a), Ev.bind (name_ev s hs a (d' + 1) hd) (Ev.now _), Ev.bind (run73 s hs a (d' + 1) hd) ?_, rfl, fun _ => ⟨rfl, _, rfl, by omega, by omega⟩⟩
    simp only [if_pos (show (a : Int) ≤ ((stop (fun c => letb c || digb c) s (d' + 1) a : Nat) : Int) by omega), if_pos (show ((stop (fun c => letb c || digb c) s (d' + 1) a : Nat) : Int) ≤ (s.size : Int) by omega), w64 (((stop (fun c => letb c || digb c) s (d' + 1) a : Nat) : Int) - (a : Int)) (by omega) (by omega), Int.toNat_natCast]
    exact Ev.now _
  · simp only [if_neg hl]
    by_cases hg : digb (bt s (a : Int)) = true
    · -- a number
      simp only [if_pos hg]
      have hst := stop_le digb s (d' + 1) a
      have h1 : stop digb s (d' + 1) a = stop digb s d' (a + 1) := by rw [stop, if_pos hg]
      have hst' := stop_le digb s d' (a + 1)
      have hsd := seg_digs s (d' + 1) a hd
      have hcons := seg_cons s a (stop digb s (d' + 1) a) ha (by omega)
      generalize he : stop digb s (d' + 1) a = e at hst h1 hsd hcons
      have hnum := num_ev s hs a (d' + 1) a 0 (Nat.le_refl _) hd (by omega)
      have hrun := run74 s hs a (d' + 1) hd
      rw [he] at hnum hrun
      have hat := atoi_digs (seg s a e) (by rw [hcons]; simp) hsd
      have hxs : (s.extract a e).size ≤ 140737488355328 := by rw [ByteArray.size_extract]; omega
      generalize hX : cap 0 (seg s a e) = X at hnum hat
      have big : ∀ u : Int, u > 2147483647 ∨ True → True := fun _ _ => trivial
      rcases hat with ⟨u, hu, hu2, hfit⟩ | ⟨hu, hx⟩
      · have hA : strconv_Atoi.f (s.extract a e) = some ((u : Int), none) := by
          unfold strconv_Atoi.f
          rw [if_pos hxs, show (s.extract a e).data.toList = seg s a e from rfl, hu]
        rcases hfit with ⟨hm, rfl⟩ | ⟨hm, hum⟩
        · refine ⟨_, numR s a e u, Ev.bind hnum (Ev.now _), Ev.bind hrun ?_, rfl, fun _ => ⟨rfl, _, rfl, by omega, by omega⟩⟩
          simp only [if_pos (show (a : Int) ≤ (e : Int) by omega), if_pos (show (e : Int) ≤ (s.size : Int) by omega), Int.toNat_natCast, hA, Option.bind_some, Option.isNone_none, if_true, if_pos (show (u : Int) ≤ 2147483647 by omega), itoa_f (u : Int) (by omega) (by omega)]
          unfold numR
          rw [decide_eq_true hm, Bool.true_and]
          exact Ev.now _
        · refine ⟨_, (2, (⟨#[]⟩ : ByteArray), (u : Int), (a : Int), (e : Int), false), Ev.bind hnum (Ev.now _), Ev.bind hrun ?_, ?_, ?_⟩
          · simp only [if_pos (show (a : Int) ≤ (e : Int) by omega), if_pos (show (e : Int) ≤ (s.size : Int) by omega), Int.toNat_natCast, hA, Option.bind_some, Option.isNone_none, if_true, if_neg (show ¬ (u : Int) ≤ 2147483647 by omega)]
            exact Ev.now _
          · show (decide (X ≤ 2147483647) && _) = false
            rw [decide_eq_false (by omega), Bool.false_and]
          · intro hh
            have : (decide (X ≤ 2147483647) && ((mk (Lib.itoa (X : Int))).toList == (s.extract a e).toList)) = true := hh
            rw [decide_eq_false (by omega), Bool.false_and] at this
            cases this
      · have hA : strconv_Atoi.f (s.extract a e) = some (Lib.atoiSat (seg s a e), some 0) := by
          unfold strconv_Atoi.f
          rw [if_pos hxs, show (s.extract a e).data.toList = seg s a e from rfl, hu]
        refine ⟨_, (2, (⟨#[]⟩ : ByteArray), Lib.atoiSat (seg s a e), (a : Int), (e : Int), false), Ev.bind hnum (Ev.now _), Ev.bind hrun ?_, ?_, ?_⟩
        · simp only [if_pos (show (a : Int) ≤ (e : Int) by omega), if_pos (show (e : Int) ≤ (s.size : Int) by omega), Int.toNat_natCast, hA, Option.bind_some, Option.isNone_some, Bool.false_eq_true, if_false]
          exact Ev.now _
        · show (decide (X ≤ 2147483647) && _) = false
          rw [decide_eq_false (by omega), Bool.false_and]
        · intro hh
          have : (decide (X ≤ 2147483647) && ((mk (Lib.itoa (X : Int))).toList == (s.extract a e).toList)) = true := hh
          rw [decide_eq_false (by omega), Bool.false_and] at this
          cases this
    · simp only [if_neg hg]
      by_cases h34 : bt s (a : Int) = 34
      · -- a text
        simp only [if_pos h34, w64n a (by omega)]
        have hst := stop_le txb s d' (a + 1)
        have htx := text_ev s hs a d' (by omega)
        have hrun := run77 s hs (a + 1) d' (by omega)
        generalize stop txb s d' (a + 1) = e at hst htx hrun
        have hz : (s.extract (a + 1) e).size = e - (a + 1) := by rw [ByteArray.size_extract]; omega
        by_cases h1 : e < s.size ∧ bt s (e : Int) = 34
        · refine ⟨_, (3, s.extract (a + 1) e, 0, (a : Int), ((e + 1 : Nat) : Int), decide (((s.extract (a + 1) e).size : Int) ≤ 30)), Ev.bind htx (Ev.now _), Ev.bind hrun ?_, ?_, ?_⟩
          · simp only [if_pos (show (0 : Int) ≤ ((a + 1 : Nat) : Int) by omega), if_pos (show ((a + 1 : Nat) : Int) ≤ (e : Int) by omega), if_pos (show (e : Int) ≤ (s.size : Int) by omega), if_pos (show (e : Int) < (s.size : Int) by omega), if_pos (show (0 : Int) ≤ (e : Int) by omega), if_pos h1.2, Int.toNat_natCast, w64n e (by omega)]
            exact Ev.now _
          · unfold textR
            by_cases h2 : e ≤ a + 31
            · rw [if_pos ⟨h1.1, h1.2, h2⟩]
              exact (decide_eq_true (by omega)).symm
            · rw [if_neg (by omega)]
              exact (decide_eq_false (by omega)).symm
          · unfold textR
            by_cases h2 : e ≤ a + 31
            · rw [if_pos ⟨h1.1, h1.2, h2⟩]
              intro _
              exact ⟨by rw [decide_eq_true (show ((s.extract (a + 1) e).size : Int) ≤ 30 by omega)], e + 1, rfl, by omega, by omega⟩
            · rw [if_neg (by omega)]
              intro hh; cases hh
        · refine ⟨_, (3, s.extract (a + 1) e, 0, (a : Int), ((e + 1 : Nat) : Int), false), Ev.bind htx (Ev.now _), Ev.bind hrun ?_, ?_, ?_⟩
          · simp only [if_pos (show (0 : Int) ≤ ((a + 1 : Nat) : Int) by omega), if_pos (show ((a + 1 : Nat) : Int) ≤ (e : Int) by omega), if_pos (show (e : Int) ≤ (s.size : Int) by omega), Int.toNat_natCast, w64n e (by omega)]
            by_cases h2 : e < s.size
            · simp only [if_pos (show (e : Int) < (s.size : Int) by omega), if_pos (show (0 : Int) ≤ (e : Int) by omega), if_neg (show ¬ bt s (e : Int) = 34 from fun h => h1 ⟨h2, h⟩)]
              exact Ev.now _
            · simp only [if_neg (show ¬ (e : Int) < (s.size : Int) by omega)]
              exact Ev.now _
          · unfold textR
            rw [if_neg (fun h => h1 ⟨h.1, h.2.1⟩)]
            rfl
          · unfold textR
            rw [if_neg (fun h => h1 ⟨h.1, h.2.1⟩)]
            intro hh; cases hh
      · -- a sign
        simp only [if_neg h34, w64n a (by omega)]
        have hsg := sign_ev s hs a ha
        have hpre := pre_ev s hs a ha
        have h1z : (s.extract a (a + 1)).size = 1 := by rw [ByteArray.size_extract]; omega
        simp only [if_pos (show (a : Int) ≤ ((a + 1 : Nat) : Int) by omega), if_pos (show ((a + 1 : Nat) : Int) ≤ (s.size : Int) by omega), if_pos (show (a : Int) ≤ (s.size : Int) by omega), Int.toNat_natCast, hpre, Option.bind_some]
        by_cases h2 : two s a = true
        · rw [h2] at hsg
          simp only [if_true] at hsg
          have hlt : a + 1 < s.size := (of_decide_eq_true (show decide (a + 1 < s.size ∧ bt s (a : Int) = 61 ∧ bt s ((a + 1 : Nat) : Int) = 61) = true from h2)).1
          have hc : strings_Contains.f SG (EE.extract 0 1) = some true := by decide +kernel
          have hEE : (EE.toList != []) = true := by rw [ba_toList]; rfl
          refine ⟨_, (4, EE, 0, (a : Int), ((a + 2 : Nat) : Int), true), Ev.bind hsg (Ev.now _), ?_, hEE, fun _ => ⟨?_, a + 2, ?_, by omega, by omega⟩⟩
          · simp only [if_pos h2, if_pos (show (0 : Int) ≤ 1 by omega), if_pos (show (1 : Int) ≤ 2 by omega), hc, Option.bind_some, w64 ((a : Int) + 2) (by omega) (by omega)]
            exact Ev.now _
          · have : wrap64 ((a : Int) + (EE.size : Int)) = ((a + 2 : Nat) : Int) := by rw [show (EE.size : Int) = 2 from rfl, w64 _ (by omega) (by omega)]; omega
            rw [this, hEE]
          · show wrap64 ((a : Int) + (EE.size : Int)) = _
            rw [show (EE.size : Int) = 2 from rfl, w64 _ (by omega) (by omega)]; omega
        · have h2' : two s a = false := by simpa using h2
          rw [h2'] at hsg
          simp only [Bool.false_eq_true, if_false] at hsg
          have hx : (s.extract a (a + 1)).extract 0 1 = s.extract a (a + 1) := by
            apply ba_ext
            change seg (s.extract a (a + 1)) 0 1 = seg s a (a + 1)
            rw [seg_eq, List.drop_zero]
            change (seg s a (a + 1)).take 1 = _
            exact List.take_of_length_le (by change (s.extract a (a + 1)).data.toList.length ≤ 1; rw [Array.length_toList]; change (s.extract a (a + 1)).size ≤ 1; omega)
          have hb0 : (s.extract a (a + 1)).data[0]! = s[a]'ha := by
            have hcons := seg_cons s a (a + 1) ha (by omega)
            rw [seg_nil] at hcons
            have : (s.extract a (a + 1)).data = #[s[a]'ha] := Array.toList_inj.1 hcons
            rw [this]; rfl
          have hc : strings_Contains.f SG ((s.extract a (a + 1)).extract 0 1) = some (sg (bt s (a : Int))) := by
            rw [hx]
            unfold strings_Contains.f
            rw [if_pos h1z, hb0, bt_nat s a ha, sg_byte]
            rfl
          refine ⟨_, (4, s.extract a (a + 1), 0, (a : Int), ((a + 1 : Nat) : Int), sg (bt s (a : Int))), Ev.bind hsg (Ev.now _), ?_, ?_, ?_⟩
          · simp only [h2', Bool.false_eq_true, if_false, if_pos (show (0 : Int) ≤ 1 by omega), if_pos (show (1 : Int) ≤ ((s.extract a (a + 1)).size : Int) by omega), hc, Option.bind_some, h1z]
            rw [show ((1 : Nat) : Int) = 1 from rfl, w64n a (by omega)]
            exact Ev.now _
          · cases hsb : sg (bt s (a : Int)) with
            | true =>
              simp only [if_true]
              show (_ != []) = true
              have hcons := seg_cons s a (a + 1) ha (by omega)
              rw [ba_toList]
              change (seg s a (a + 1) != []) = true
              rw [hcons]; rfl
            | false =>
              simp only [Bool.false_eq_true, if_false]
              rw [ba_toList]
              rfl
          · intro hh
            cases hsb : sg (bt s (a : Int)) with
            | true =>
              simp only [if_true]
              have hcons := seg_cons s a (a + 1) ha (by omega)
              have hne : ((s.extract a (a + 1)).toList != []) = true := by
                rw [ba_toList]
                change (seg s a (a + 1) != []) = true
                rw [hcons]; rfl
              have hw : wrap64 ((a : Int) + ((s.extract a (a + 1)).size : Int)) = ((a + 1 : Nat) : Int) := by rw [h1z, show ((1 : Nat) : Int) = 1 from rfl, w64n a (by omega)]
              exact ⟨by rw [hne, hw], a + 1, hw, by omega, by omega⟩
            | false =>
              rw [hsb] at hh
              simp only [Bool.false_eq_true, if_false] at hh
              have : ((⟨#[]⟩ : ByteArray).toList != []) = true := hh
              rw [ba_toList] at this
              cases this

/-! All tokens -/
abbrev Tok := S57
theorem loops (s : ByteArray) (hs : s.size ≤ 800) : ∀ (d a : Nat), a + d = s.size → ∀ acc : List Tok, acc.length ≤ a →
    ∃ r : List Tok × Int, Ev (fun k => spec_Tokens.l0 k s acc (a : Int)) r ∧ Ev (fun k => impl_Tokens.l0 k s acc (a : Int)) r ∧ r.1.length ≤ 801 := by
  intro d
  induction d using Nat.strongRecOn with
  | _ d ih =>
    intro a hd acc hacc
    by_cases hlt : a < s.size
    · by_cases hb : bt s (a : Int) = 32 ∨ bt s (a : Int) = 10
      · obtain ⟨r, r1, r2, r3⟩ := ih (d - 1) (by omega) (a + 1) (by omega) acc (by omega)
        refine ⟨r, ?_, ?_, r3⟩
        · have q : Ev (fun k => spec_Tokens.j1 k s acc (a : Int) true) r := Ev.step (fun k => by simp only [spec_Tokens.j1, if_true]; rw [w64n a (by omega)]) r1
          refine Ev.step (fun k => ?_) q
          simp only [spec_Tokens.l0]
          rw [if_pos (by omega), if_pos (by omega)]
          rcases hb with h | h
          · rw [if_pos h]
          · rw [if_neg (by omega), h]; rfl
        · have q : Ev (fun k => impl_Tokens.j1 k s acc (a : Int) true) r := Ev.step (fun k => by simp only [impl_Tokens.j1, if_true]; rw [w64n a (by omega)]) r2
          refine Ev.step (fun k => ?_) q
          simp only [impl_Tokens.l0]
          rw [if_pos (by omega), if_pos (by omega)]
          rcases hb with h | h
          · rw [if_pos h]
          · rw [if_neg (by omega), h]; rfl
      · have hb1 : ¬ bt s (a : Int) = 32 := fun h => hb (.inl h)
        have hb2 : (bt s (a : Int) == 10) = false := by simpa using fun h => hb (.inr h)
        obtain ⟨t1, t2, e1, e2, hok, hsame⟩ := one_ev s hs a hlt
        have s0 : ∀ k, spec_Tokens.l0 (k + 1) s acc (a : Int) = spec_Tokens.j1 k s acc (a : Int) false := by
          intro k
          simp only [spec_Tokens.l0]
          rw [if_pos (by omega), if_pos (by omega), if_neg hb1, hb2]
        have i0 : ∀ k, impl_Tokens.l0 (k + 1) s acc (a : Int) = impl_Tokens.j1 k s acc (a : Int) false := by
          intro k
          simp only [impl_Tokens.l0]
          rw [if_pos (by omega), if_pos (by omega), if_neg hb1, hb2]
        obtain ⟨K1, e1⟩ := e1
        obtain ⟨K2, e2⟩ := e2
        dsimp only at e1 e2
        cases hf : t1.2.2.2.2.2 with
        | true =>
          obtain ⟨rfl, e, he, h1, h2⟩ := hsame hf
          obtain ⟨r, r1, r2, r3⟩ := ih (d - (e - a)) (by omega) e (by omega) (acc ++ [(⟨t1.1, t1.2.1, t1.2.2.1, t1.2.2.2.1⟩ : Tok)]) (by rw [List.length_append, List.length_singleton]; omega)
          refine ⟨r, Ev.step s0 (ev_late K1 (fun k hk => ?_) r1), Ev.step i0 (ev_late K2 (fun k hk => ?_) r2), r3⟩
          · simp only [spec_Tokens.j1, Bool.false_eq_true, if_false]
            rw [e1 k hk, Option.bind_some, hf, if_pos rfl, if_pos (by omega), he]
          · simp only [impl_Tokens.j1, Bool.false_eq_true, if_false]
            rw [e2 k hk, Option.bind_some, hf, if_pos rfl, if_pos (by omega), he]
        | false =>
          refine ⟨([], (a : Int)), Ev.step s0 ⟨K1 + 1, fun k hk => ?_⟩, Ev.step i0 ⟨K2 + 1, fun k hk => ?_⟩, by simp⟩
          · obtain ⟨m, rfl⟩ : ∃ m, k = m + 1 := ⟨k - 1, by omega⟩
            simp only [spec_Tokens.j1, Bool.false_eq_true, if_false]
            rw [e1 m (by omega), Option.bind_some, hf]
            rfl
          · obtain ⟨m, rfl⟩ : ∃ m, k = m + 1 := ⟨k - 1, by omega⟩
            simp only [impl_Tokens.j1, Bool.false_eq_true, if_false]
            rw [e2 m (by omega), Option.bind_some, ← hok, hf]
            rfl
    · refine ⟨(acc ++ [(⟨0, (⟨#[]⟩ : ByteArray), 0, (s.size : Int)⟩ : Tok)], -1), ev_one fun k => ?_, ev_one fun k => ?_, by simp only [List.length_append, List.length_singleton]; omega⟩
      · simp only [spec_Tokens.l0]
        rw [if_neg (by omega), if_pos (by omega)]
      · simp only [impl_Tokens.l0]
        rw [if_neg (by omega), if_pos (by omega)]
theorem toks (s : ByteArray) : ∃ r : List Tok × Int, Ev (fun k => spec_Tokens.f k s) r ∧ Ev (fun k => impl_Tokens.f k s) r ∧ r.1.length ≤ 801 := by
  unfold spec_Tokens.f impl_Tokens.f
  simp only [Option.bind_some]
  by_cases h : (s.size : Int) > 800
  · simp only [if_pos h]
    exact ⟨([], 0), Ev.now _, Ev.now _, by simp⟩
  · simp only [if_neg h]
    exact loops s (by omega) s.size 0 (by omega) [] (Nat.zero_le _)

/-! What the law does beside -/
theorem rdT (xs : List Tok) (i : Nat) (h : i < xs.length) : rd_T57 xs (i : Int) = xs[i] := getD_nat _ xs i h
theorem eqTokenS_ev (l : List Tok) (hl : l.length ≤ 1048576) : Ev (fun k => laws_eqTokenS.f k l l) true := by
  obtain ⟨r, hr, rfl⟩ := ev_inv (fun k i (_ : Unit) => laws_eqTokenS.l0 k l l i) l.length (fun _ _ => True) (fun r => r = true) (by
    intro _ _
    refine ⟨true, ev_one fun k => ?_, rfl⟩
    simp only [laws_eqTokenS.l0]
    rw [if_neg (by omega)]) (by
    intro i _ hi _ ih
    obtain ⟨r, hr, hq⟩ := ih () trivial
    refine ⟨r, Ev.step (fun k => ?_) hr, hq⟩
    simp only [laws_eqTokenS.l0, laws_eqToken.f]
    rw [if_pos (by omega), if_pos (by omega), if_pos (by omega)]
    simp only [if_true, Option.bind_some]
    rw [w64n i (by omega)]) 0 () (Nat.zero_le _) trivial
  refine Ev.congr (fun k => ?_) hr
  unfold laws_eqTokenS.f
  rw [if_pos rfl]
  rfl
theorem markText_l0 : ∀ (n : Nat) (x : ByteArray), n + x.size ≤ 1000000000 → ∃ t, Ev (fun k => laws_markText.l0 k (n : Int) x) t := by
  intro n
  induction n using Nat.strongRecOn with
  | _ n ih =>
    intro x hx
    by_cases h : n = 0
    · subst h
      refine ⟨(⟨#[109]⟩ : ByteArray) ++ x, ev_one fun k => ?_⟩
      simp only [laws_markText.l0]
      rw [if_neg (by omega), if_pos (by omega)]
    · obtain ⟨t, ht⟩ := ih (n / 10) (by omega) (strOfNums [(wrap64 (48 + (Int.tmod (n : Int) 10))) % 256] ++ x) (by rw [ByteArray.size_append, strOfNums_size]; simp only [List.length_singleton]; omega)
      refine ⟨t, Ev.step (fun k => ?_) ht⟩
      simp only [laws_markText.l0]
      rw [if_pos (by omega), Option.bind_some, if_pos (by rw [strOfNums_size]; simp only [List.length_singleton]; omega)]
      congr 1
      rw [Int.tdiv_eq_ediv_of_nonneg (by omega), w64 _ (by omega) (by omega)]
      omega
theorem markText_ev (n : Int) (h0 : 0 < n) (h : n ≤ 100000000) : ∃ t, Ev (fun k => laws_markText.f k n) t := by
  obtain ⟨m, rfl⟩ : ∃ m : Nat, n = (m : Int) := ⟨n.toNat, by omega⟩
  obtain ⟨t, ht⟩ := markText_l0 m (⟨#[]⟩ : ByteArray) (by have : (⟨#[]⟩ : ByteArray).size = 0 := rfl; omega)
  refine ⟨t, Ev.congr (fun k => ?_) ht⟩
  unfold laws_markText.f
  rw [if_neg (by omega)]
noncomputable def mt (n : Int) : ByteArray := if h : 0 < n ∧ n ≤ 100000000 then Classical.choose (markText_ev n h.1 h.2) else ⟨#[]⟩
theorem mt_ev (n : Int) (h0 : 0 < n) (h : n ≤ 100000000) : Ev (fun k => laws_markText.f k n) (mt n) := by
  unfold mt
  rw [dif_pos ⟨h0, h⟩]
  exact Classical.choose_spec (markText_ev n h0 h)
noncomputable def mkd (i : Nat) : Tok := ⟨1 + 4 * (i : Int), mt (2 + 4 * (i : Int)), 3 + 4 * (i : Int), 4 + 4 * (i : Int)⟩
theorem mark_ev (l : List Tok) (hl : l.length ≤ 10000) : Ev (fun k => laws_markTokenS.f k l 1) (1 + 4 * (l.length : Int), (List.range l.length).map mkd) := by
  obtain ⟨r, hr, rfl⟩ := ev_inv (fun k i (ys : List Tok) => laws_markTokenS.l0 k ys (1 + 4 * i) i) l.length (fun i ys => ys.length = l.length ∧ ys.take i = ((List.range l.length).map mkd).take i) (fun r => r = (1 + 4 * (l.length : Int), (List.range l.length).map mkd)) (by
    intro ys ⟨h1, h2⟩
    refine ⟨(1 + 4 * (l.length : Int), ys), ev_one fun k => ?_, ?_⟩
    · simp only [laws_markTokenS.l0]
      rw [if_neg (by omega)]
    · rw [List.take_of_length_le (by omega), List.take_of_length_le (by simp)] at h2
      rw [h2]) (by
    intro i ys hi ⟨h1, h2⟩ ih
    have hmp : ((List.range l.length).map mkd)[i]'(by simpa using hi) = mkd i := by simp
    obtain ⟨r, hr, hq⟩ := ih (ys.set i (mkd i)) ⟨by rw [List.length_set]; exact h1, by
      have := set_take ((List.range l.length).map mkd) ys i (by simpa using hi) (by simpa using h1) h2
      rw [hmp] at this
      exact this⟩
    obtain ⟨K, e⟩ := mt_ev (2 + 4 * (i : Int)) (by omega) (by omega)
    dsimp only at e
    have q1 : wrap64 (1 + 4 * (i : Int) + 1) = 2 + 4 * (i : Int) := by rw [w64 _ (by omega) (by omega)]; omega
    have q2 : wrap64 (2 + 4 * (i : Int) + 1) = 3 + 4 * (i : Int) := by rw [w64 _ (by omega) (by omega)]; omega
    have q3 : wrap64 (3 + 4 * (i : Int) + 1) = 4 + 4 * (i : Int) := by rw [w64 _ (by omega) (by omega)]; omega
    have q4 : wrap64 (4 + 4 * (i : Int) + 1) = 1 + 4 * ((i + 1 : Nat) : Int) := by rw [w64 _ (by omega) (by omega)]; omega
    refine ⟨r, ev_late K (fun k hk => ?_) hr, hq⟩
    simp only [laws_markTokenS.l0, Option.bind_some, q1, q2, q3, q4]
    rw [if_pos (by omega), if_pos (by omega), e k hk, Option.bind_some, w64n i (by omega), Int.toNat_natCast]
    have hy : i < ys.length := by omega
    have rs : ∀ v : Tok, ∀ zs : List Tok, zs.length = l.length → rd_T57 (zs.set i v) (i : Int) = v := by
      intro v zs hz
      rw [rdT _ _ (by rw [List.length_set]; omega)]
      simp
    rw [rs _ _ (by simp [h1]), rs _ _ (by simp [h1]), rs _ _ (by simp [h1])]
    simp only [List.set_set]
    rfl) 0 l (Nat.zero_le _) ⟨rfl, by simp⟩
  exact hr
theorem held_ev (n : Nat) (hl : n ≤ 10000) : Ev (fun k => laws_heldTokenS.f k ((List.range n).map mkd) 1) (1 + 4 * (n : Int)) := by
  have hlen : ((List.range n).map mkd).length = n := by simp
  obtain ⟨r, hr, rfl⟩ := ev_inv (fun k i (_ : Unit) => laws_heldTokenS.l0 k ((List.range n).map mkd) (1 + 4 * i) i) n (fun _ _ => True) (fun r => r = 1 + 4 * (n : Int)) (by
    intro _ _
    refine ⟨1 + 4 * (n : Int), ev_one fun k => ?_, rfl⟩
    simp only [laws_heldTokenS.l0]
    rw [if_neg (by rw [hlen]; omega)]) (by
    intro i _ hi _ ih
    obtain ⟨r, hr, hq⟩ := ih () trivial
    obtain ⟨K, e⟩ := mt_ev (2 + 4 * (i : Int)) (by omega) (by omega)
    dsimp only at e
    have q1 : wrap64 (1 + 4 * (i : Int) + 1) = 2 + 4 * (i : Int) := by rw [w64 _ (by omega) (by omega)]; omega
    have q2 : wrap64 (2 + 4 * (i : Int) + 1) = 3 + 4 * (i : Int) := by rw [w64 _ (by omega) (by omega)]; omega
    have q3 : wrap64 (3 + 4 * (i : Int) + 1) = 4 + 4 * (i : Int) := by rw [w64 _ (by omega) (by omega)]; omega
    have q4 : wrap64 (4 + 4 * (i : Int) + 1) = 1 + 4 * ((i + 1 : Nat) : Int) := by rw [w64 _ (by omega) (by omega)]; omega
    have hg : rd_T57 ((List.range n).map mkd) (i : Int) = mkd i := by rw [rdT _ _ (by rw [hlen]; exact hi)]; simp
    refine ⟨r, ev_late K (fun k hk => ?_) hr, hq⟩
    simp only [laws_heldTokenS.l0, hg, q1, q2, q3, q4]
    rw [if_pos (by rw [hlen]; omega), if_pos (by omega), if_pos (by rfl), e k hk, Option.bind_some, if_pos (by rfl), if_pos (by rfl), if_pos (by rfl), w64n i (by omega)]) 0 () (Nat.zero_le _) trivial
  exact hr

theorem law (s : ByteArray) (hs0 : s.size ≤ 140737488351232) : ∃ k, laws_FnExactTokens.f k s = some true := by
  refine Ev.rounds ?_
  unfold laws_FnExactTokens.f
  by_cases hb : (s.size : Int) > 1048576
  · simp only [if_pos hb]
    exact Ev.now _
  · simp only [if_neg hb]
    obtain ⟨r, r1, r2, r3⟩ := toks s
    refine Ev.bind r1 (Ev.bind r2 (Ev.bind (eqTokenS_ev r.1 (by omega)) ?_))
    simp only [if_true, show (r.2 != r.2) = false by simp]
    have hm := mark_ev r.1 (by omega)
    have hh := held_ev r.1.length (by omega)
    have last : Ev (fun k => laws_FnExactTokens.j1 k ((List.range r.1.length).map mkd) (1 + 4 * (r.1.length : Int)) false) true := by
      obtain ⟨K, e⟩ := hh
      dsimp only at e
      refine ⟨K + 1, fun k hk => ?_⟩
      obtain ⟨m, rfl⟩ : ∃ m, k = m + 1 := ⟨k - 1, by omega⟩
      simp only [laws_FnExactTokens.j1, Bool.false_eq_true, if_false]
      rw [e m (by omega), Option.bind_some, if_neg (by omega), if_pos rfl]
    obtain ⟨K1, e1⟩ := hm
    obtain ⟨K2, e2⟩ := hh
    obtain ⟨K3, e3⟩ := r2
    obtain ⟨K4, e4⟩ := eqTokenS_ev r.1 (by omega)
    dsimp only at e1 e2 e3 e4
    refine ev_late (K1 + K2 + K3 + K4) (fun k hk => ?_) last
    simp only [laws_FnExactTokens.j0, Bool.false_eq_true, if_false]
    rw [e1 k (by omega), Option.bind_some, e2 k (by omega), Option.bind_some, if_neg (by omega), if_pos rfl, e3 k (by omega), Option.bind_some, e4 k (by omega), Option.bind_some, if_pos rfl]
    simp only [show (r.2 != r.2) = false by simp]
end Go.Proofs.YtpdgcpgdjdkpbaaDoor.XFnExactTokens
