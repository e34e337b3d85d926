/- Proof: plain laws: trees, tokens. No condition. -/
import Derived.Test.YtaadneenebhnoaaGreatDoorIm
import Derived.Test.YtaadneenebhnoaaGreatDoorGwD
import Derived.Lib.SplitLaws
import Derived.Lib.IndexBytes
import Derived.Lib.IndexLaws
set_option autoImplicit true
set_option relaxedAutoImplicit true
set_option linter.unusedSimpArgs false
set_option linter.unusedVariables false
namespace Go.Pv
set_option maxRecDepth 100000
set_option linter.unusedSimpArgs false
set_option linter.unusedVariables false
/-- PLAIN LAWS of the printed functions: helpers -/
theorem wr1 {i : Int} (h : 0 ≤ i) (h2 : i ≤ 4611686018427387904) : IntKind.i64.wrap (i + 1) = i + 1 := zao _ (by omega) (by omega)
theorem zU {τ : Type} {xs : List τ} {i : Nat} {x : τ} (h : xs[i]? = some x) : getI xs (i : Int) = some x := by
 unfold getI
 have := (List.getElem?_eq_some_iff.1 h).1
 rw [if_pos ⟨by omega, by omega⟩]
 simpa using h
theorem zsn {τ : Type} {xs acc : List τ} {i : Nat} {x : τ} (h : ∀ j, j < i → acc[j]? = xs[j]?) (hx : xs[i]? = some x) (hl : acc.length = xs.length) :
  ∀ j, j < i + 1 → (acc.set i x)[j]? = xs[j]? := by
 intro j hj
 have hi := (List.getElem?_eq_some_iff.1 hx).1
 rw [List.getElem?_set]
 by_cases e : i = j
 ·subst e
  rw [if_pos rfl, if_pos (by omega), hx]
 ·rw [if_neg e]; exact h j (by omega)
theorem zvF {τ : Type} {xs acc : List τ} {i : Nat} (h : ∀ j, j < i → acc[j]? = xs[j]?) (hl : acc.length = xs.length) (hi : xs.length ≤ i) : acc = xs := by
 apply List.ext_getElem?
 intro j
 by_cases hj : j < i
 ·exact h j hj
 ·rw [List.getElem?_eq_none (by omega), List.getElem?_eq_none (by omega)]
theorem zbV {τ : Type} {xs : List τ} {i : Nat} (h : i < xs.length) : ∃ x, xs[i]? = some x := ⟨xs[i], List.getElem?_eq_getElem h⟩
theorem zhl {n b : Nat} (h : n * b ≤ zlG) : lim n b = true := by simp [lim, h]
/-- a loop that copies: one turn's rule is enough -/
theorem zoC {τ : Type} (L : Nat → List τ → List τ → Int → Option (List τ)) (xs : List τ) (hB : xs.length ≤ 4194303)
  (h0 : ∀ n acc (i : Nat), ¬ i < xs.length → L (n + 1) xs acc (i : Int) = some acc)
  (h1 : ∀ n (acc : List τ) (i : Nat) x y, xs[i]? = some x → acc[i]? = some y → i ≤ 4194303 → L (n + 1) xs acc (i : Int) = L n xs (acc.set i x) ((i + 1 : Nat) : Int)) (z : τ) :
  L FU xs (List.replicate xs.length z) 0 = some xs := by
 have key : ∀ (n i : Nat) (acc : List τ), acc.length = xs.length → (∀ j, j < i → acc[j]? = xs[j]?) → i ≤ xs.length → xs.length - i < n → L n xs acc (i : Int) = some xs := by
  intro n
  induction n with
  | zero => intro i acc hl h hi hn; omega
  | succ n ih =>
   intro i acc hl h hi hn
   by_cases c : i < xs.length
   ·obtain ⟨x, hx⟩ := zbV c
    obtain ⟨y, hy⟩ := zbV (xs := acc) (i := i) (by omega)
    rw [h1 n acc i x y hx hy (by omega)]
    exact ih (i + 1) _ (by simp [hl]) (zsn h hx hl) (by omega) (by omega)
   ·rw [h0 n acc i c, zvF h hl (by omega)]
 have := key FU 0 (List.replicate xs.length z) (by simp) (by intro j hj; omega) (by omega) (by simp only [FU]; omega)
 simpa using this
/-- a loop that looks a row through -/
theorem zoD {σ : Type} (L : Nat → Int → Option σ) (len : Nat) (r : σ) (hB : len ≤ 4194303)
  (h0 : ∀ n (i : Nat), ¬ i < len → L (n + 1) (i : Int) = some r)
  (h1 : ∀ n (i : Nat), i < len → L (n + 1) (i : Int) = L n ((i + 1 : Nat) : Int)) : L FU 0 = some r := by
 have key : ∀ (n i : Nat), i ≤ len → len - i < n → L n (i : Int) = some r := by
  intro n
  induction n with
  | zero => intro i hi hn; omega
  | succ n ih =>
   intro i hi hn
   by_cases c : i < len
   ·rw [h1 n i c]; exact ih (i + 1) (by omega) (by omega)
   ·exact h0 n i c
 have := key FU 0 (by omega) (by simp only [FU]; omega)
 simpa using this
/-- a loop with a state, by an invariant -/
theorem zpP {σ ρ : Type} (L : Nat → σ → Int → Option ρ) (len : Nat) (I : Nat → σ → Prop) (Q : ρ → Prop) (hB : len ≤ 4194303)
  (h0 : ∀ n (i : Nat) s, i ≤ len → ¬ i < len → I i s → ∃ r, L (n + 1) s (i : Int) = some r ∧ Q r)
  (h1 : ∀ n (i : Nat) s, i < len → I i s → (∃ s', L (n + 1) s (i : Int) = L n s' ((i + 1 : Nat) : Int) ∧ I (i + 1) s') ∨ (∃ r, L (n + 1) s (i : Int) = some r ∧ Q r)) (s0 : σ) (hI : I 0 s0) : ∃ r, L FU s0 0 = some r ∧ Q r := by
 have key : ∀ (n i : Nat) (s : σ), i ≤ len → len - i < n → I i s → ∃ r, L n s (i : Int) = some r ∧ Q r := by
  intro n
  induction n with
  | zero => intro i s hi hn; omega
  | succ n ih =>
   intro i s hi hn hs
   by_cases c : i < len
   ·rcases h1 n i s c hs with ⟨s', e, hs'⟩ | ⟨r, e, hr⟩
    ·rw [e]; exact ih (i + 1) s' (by omega) (by omega) hs'
    ·exact ⟨r, e, hr⟩
   ·exact h0 n i s hi c hs
 have := key FU 0 s0 (by omega) (by simp only [FU]; omega) hI
 simpa using this
end Go.Pv

namespace Go.Pv
set_option maxRecDepth 100000
set_option linter.unusedSimpArgs false
set_option linter.unusedVariables false
/-! loops over rows, as rows -/
theorem ltI {τ : Type} {xs : List τ} {i : Nat} {x : τ} (h : xs[i]? = some x) : (i : Int) < (xs.length : Int) := by
 have := (List.getElem?_eq_some_iff.1 h).1; omega
theorem ltN {τ : Type} {xs : List τ} {i : Nat} {x : τ} (h : xs[i]? = some x) : i < xs.length := (List.getElem?_eq_some_iff.1 h).1
theorem wrI {i : Nat} (h : i ≤ 4611686018427387904) : IntKind.i64.wrap ((i : Int) + 1) = ((i + 1 : Nat) : Int) := by rw [wr1 (by omega) (by omega)]; rfl
theorem drop_some {τ : Type} {xs : List τ} {i : Nat} {x : τ} (h : xs[i]? = some x) : xs.drop i = x :: xs.drop (i + 1) := by
 obtain ⟨h1, h2⟩ := List.getElem?_eq_some_iff.1 h
 rw [List.drop_eq_getElem_cons h1, h2]
/-- all of a row pass -/
theorem zli {τ ρ : Type} (L : Nat → Int → Option ρ) (xs : List τ) (p : τ → Bool) (rT rF : ρ) (hB : xs.length ≤ 4194303)
  (h0 : ∀ n, L (n + 1) (xs.length : Int) = some rT)
  (h1 : ∀ n (i : Nat) x, xs[i]? = some x → p x = true → L (n + 1) (i : Int) = L n ((i + 1 : Nat) : Int))
  (h2 : ∀ n (i : Nat) x, xs[i]? = some x → p x = false → L (n + 1) (i : Int) = some rF) (k : Nat) (hk : k ≤ xs.length) : L FU (k : Int) = some (if (xs.drop k).all p then rT else rF) := by
 have key : ∀ (n k : Nat), k ≤ xs.length → xs.length - k < n → L n (k : Int) = some (if (xs.drop k).all p then rT else rF) := by
  intro n
  induction n with
  | zero => intro k hk hn; omega
  | succ n ih =>
   intro k hk hn
   by_cases c : k < xs.length
   ·obtain ⟨x, hx⟩ := zbV c
    rw [drop_some hx, List.all_cons]
    cases hp : p x with
    | true => rw [h1 n k x hx hp, ih (k + 1) (by omega) (by omega), Bool.true_and]
    | false => rw [h2 n k x hx hp, Bool.false_and]; simp
   ·have : k = xs.length := by omega
    subst this
    rw [h0 n, List.drop_length]; rfl
 exact key FU k hk (by unfold FU; omega)
theorem zeS {τ ρ : Type} (L : Nat → Int → Option ρ) (xs : List τ) (p : τ → Bool) (rT rF : ρ) (hB : xs.length ≤ 4194303)
  (h0 : ∀ n, L (n + 1) (xs.length : Int) = some rT)
  (h1 : ∀ n (i : Nat) x, xs[i]? = some x → p x = true → L (n + 1) (i : Int) = L n ((i + 1 : Nat) : Int))
  (h2 : ∀ n (i : Nat) x, xs[i]? = some x → p x = false → L (n + 1) (i : Int) = some rF) : L FU 0 = some (if xs.all p then rT else rF) := by
 have := zli L xs p rT rF hB h0 h1 h2 0 (by omega)
 simpa using this
/-- the first of a row that passes, by its place -/
theorem zef {τ ρ : Type} (L : Nat → Int → Option ρ) (xs : List τ) (p : τ → Bool) (rI : Int → ρ) (rN : ρ) (hB : xs.length ≤ 4194303)
  (h0 : ∀ n, L (n + 1) (xs.length : Int) = some rN)
  (h1 : ∀ n (i : Nat) x, xs[i]? = some x → p x = false → L (n + 1) (i : Int) = L n ((i + 1 : Nat) : Int))
  (h2 : ∀ n (i : Nat) x, xs[i]? = some x → p x = true → L (n + 1) (i : Int) = some (rI i)) : L FU 0 = some (match xs.findIdx? p with | some i => rI (i : Int) | none => rN) := by
 have key : ∀ (n k : Nat), k ≤ xs.length → xs.length - k < n → L n (k : Int) = some (match (xs.drop k).findIdx? p with | some i => rI ((k + i : Nat) : Int) | none => rN) := by
  intro n
  induction n with
  | zero => intro k hk hn; omega
  | succ n ih =>
   intro k hk hn
   by_cases c : k < xs.length
   ·obtain ⟨x, hx⟩ := zbV c
    rw [drop_some hx, List.findIdx?_cons]
    cases hp : p x with
    | false =>
     rw [h1 n k x hx hp, ih (k + 1) (by omega) (by omega)]
     cases hf : (xs.drop (k + 1)).findIdx? p with
     | none => simp
     | some i =>
      simp only [Bool.false_eq_true, if_false, Option.map_some]
      rw [show k + 1 + i = k + (i + 1) by omega]
    | true => rw [h2 n k x hx hp]; simp
   ·have : k = xs.length := by omega
    subst this
    rw [h0 n, List.drop_length]; rfl
 have := key FU 0 (by omega) (by unfold FU; omega)
 simpa using this
theorem zeT {τ : Type} (xs : List τ) (p : τ → Bool) : xs.any p = (xs.findIdx? p).isSome := by
 induction xs with
 | nil => rfl
 | cons x l ih =>
  rw [List.any_cons, List.findIdx?_cons, ih]
  cases p x <;> simp
/-- a row gone through with a state -/
theorem zd0 {τ σ ρ : Type} (L : Nat → σ → Int → Option ρ) (xs : List τ) (f : σ → τ → σ) (fin : σ → ρ) (s0 : σ) (hB : xs.length ≤ 4194303)
  (h0 : ∀ n s, s = xs.foldl f s0 → L (n + 1) s (xs.length : Int) = some (fin s))
  (h1 : ∀ n (i : Nat) x s, xs[i]? = some x → s = (xs.take i).foldl f s0 → L (n + 1) s (i : Int) = L n (f s x) ((i + 1 : Nat) : Int)) : L FU s0 0 = some (fin (xs.foldl f s0)) := by
 have key : ∀ (n k : Nat), k ≤ xs.length → xs.length - k < n → L n ((xs.take k).foldl f s0) (k : Int) = some (fin (xs.foldl f s0)) := by
  intro n
  induction n with
  | zero => intro k hk hn; omega
  | succ n ih =>
   intro k hk hn
   by_cases c : k < xs.length
   ·obtain ⟨x, hx⟩ := zbV c
    rw [h1 n k x _ hx rfl]
    have e : f ((xs.take k).foldl f s0) x = (xs.take (k + 1)).foldl f s0 := by
     rw [List.take_add_one, hx]; simp
    rw [e]
    exact ih (k + 1) (by omega) (by omega)
   ·have : k = xs.length := by omega
    subst this
    rw [List.take_length]
    exact h0 n _ rfl
 have := key FU 0 (by omega) (by unfold FU; omega)
 simpa using this
/-! bytes as a row -/
def bl (s : ByteArray) : List UInt8 := s.data.toList
theorem bl_len (s : ByteArray) : (bl s).length = s.size := by unfold bl; rw [Array.length_toList]; rfl
theorem zkt {s t : ByteArray} (h : bl s = bl t) : s = t := by
 obtain ⟨a⟩ := s
 obtain ⟨b⟩ := t
 have h' : a.toList = b.toList := h
 rw [Array.toList_inj.1 h']
theorem zvY (s t : ByteArray) : bl (s ++ t) = bl s ++ bl t := by unfold bl; rw [ByteArray.data_append]; simp
theorem ziG (s : ByteArray) (a b : Nat) : bl (s.extract a b) = ((bl s).drop a).take (b - a) := by
 unfold bl; rw [ByteArray.data_extract, Array.toList_extract]
theorem zaD {s : ByteArray} {i : Nat} {b : UInt8} (h : (bl s)[i]? = some b) : zen s (i : Int) = some b := by
 have hi := ltN h
 rw [bl_len] at hi
 unfold zen
 rw [if_pos (by omega), Int.toNat_natCast, getElem?_pos s i hi]
 congr 1
 obtain ⟨h1, h2⟩ := List.getElem?_eq_some_iff.1 h
 rw [← h2]; simp [bl]; rfl
theorem zfk {s : ByteArray} {i : Nat} {b : UInt8} (h : (bl s)[i]? = some b) : (i : Int) < (s.size : Int) := by
 have hi := ltN h
 rw [bl_len] at hi; omega
/-- bytes from a place on, as long as they pass -/
def runE (p : UInt8 → Bool) (s : ByteArray) (i : Nat) : Nat := i + (((bl s).drop i).takeWhile p).length
theorem zgO {ρ : Type} (L : Nat → Int → Option ρ) (s : ByteArray) (p : UInt8 → Bool) (r : Int → ρ) (hB : s.size ≤ 4194303)
  (h0 : ∀ n, L (n + 1) (s.size : Int) = some (r s.size))
  (h1 : ∀ n (i : Nat) b, (bl s)[i]? = some b → p b = true → L (n + 1) (i : Int) = L n ((i + 1 : Nat) : Int))
  (h2 : ∀ n (i : Nat) b, (bl s)[i]? = some b → p b = false → L (n + 1) (i : Int) = some (r i)) (k : Nat) (hk : k ≤ s.size) : L FU (k : Int) = some (r (runE p s k : Nat)) := by
 have hl := bl_len s
 have key : ∀ (n k : Nat), k ≤ s.size → s.size - k < n → L n (k : Int) = some (r (runE p s k : Nat)) := by
  intro n
  induction n with
  | zero => intro k hk hn; omega
  | succ n ih =>
   intro k hk hn
   unfold runE
   by_cases c : k < s.size
   ·obtain ⟨x, hx⟩ := zbV (xs := bl s) (i := k) (by omega)
    rw [drop_some hx]
    cases hp : p x with
    | true =>
     rw [h1 n k x hx hp, ih (k + 1) (by omega) (by omega), List.takeWhile_cons_of_pos hp]
     unfold runE
     simp only [List.length_cons]
     congr 3; omega
    | false => rw [h2 n k x hx hp, List.takeWhile_cons_of_neg (by simp [hp])]; rfl
   ·have : k = s.size := by omega
    subst this
    rw [h0 n, ← hl, List.drop_length]; rfl
 exact key FU k hk (by unfold FU; omega)
theorem zku (p : UInt8 → Bool) (s : ByteArray) (i : Nat) : i ≤ runE p s i := by unfold runE; omega
theorem zkv (p : UInt8 → Bool) (s : ByteArray) (i : Nat) (h : i ≤ s.size) : runE p s i ≤ s.size := by
 unfold runE
 have h1 := (List.takeWhile_prefix p (l := (bl s).drop i)).length_le
 rw [List.length_drop, bl_len] at h1
 omega
theorem zpQ (p : UInt8 → Bool) (s : ByteArray) (i : Nat) : bl (s.extract i (runE p s i)) = ((bl s).drop i).takeWhile p := by
 rw [ziG]
 unfold runE
 rw [Nat.add_sub_cancel_left]
 exact (List.prefix_iff_eq_take.1 (List.takeWhile_prefix p)).symm
end Go.Pv

namespace Go.Pv
set_option maxRecDepth 100000
set_option maxHeartbeats 4000000
set_option linter.unusedSimpArgs false
set_option linter.unusedVariables false
/-- trees: how much they weigh -/
theorem zr6 (x : T_Node) : (⟨x.op_, x.s_, x.n_, x.kids_⟩ : T_Node) = x := by cases x; rfl
mutual
def wN : T_Node → Nat
 | ⟨_, s, _, ks⟩ => s.size + sN ks
def sN : List T_Node → Nat
 | [] => 0
 | x :: l => 1 + wN x + sN l
end
theorem zfV (x : T_Node) : wN x = x.s_.size + sN x.kids_ := by cases x; simp [wN]
theorem znF (a b : List T_Node) : sN (a ++ b) = sN a + sN b := by
 induction a with
 | nil => simp [sN]
 | cons x l ih => simp [sN, ih]; omega
theorem zuY {l : List T_Node} {i : Nat} (h : i < l.length) : sN (l.take (i + 1)) = sN (l.take i) + 1 + wN l[i] := by
 rw [List.take_add_one, List.getElem?_eq_getElem h, znF]; simp [sN]; omega
theorem znG (l : List T_Node) (i : Nat) : sN (l.take i) ≤ sN l := by
 have h := znF (l.take i) (l.drop i)
 rw [List.take_append_drop] at h; omega
theorem zc2 {l : List T_Node} {x : T_Node} (h : x ∈ l) : 1 + wN x ≤ sN l := by
 induction l with
 | nil => cases h
 | cons y l ih =>
  simp only [sN]
  rcases List.mem_cons.1 h with rfl | h
  ·omega
  ·have := ih h; omega
theorem zdn (l : List T_Node) : l.length ≤ sN l := by
 induction l with
 | nil => simp
 | cons y l ih => simp [sN]; omega
mutual
def okN : T_Node → Prop
 | ⟨_, s, _, ks⟩ => s.size ≤ 9223372036854775807 ∧ ks.length ≤ 9223372036854775807 ∧ okL ks
def okL : List T_Node → Prop
 | [] => True
 | x :: l => okN x ∧ okL l
end
theorem zr7 {x : T_Node} (h : okN x) : x.s_.size ≤ 9223372036854775807 ∧ x.kids_.length ≤ 9223372036854775807 ∧ okL x.kids_ := by cases x; simpa [okN] using h
theorem zuZ {l : List T_Node} (h : okL l) {x : T_Node} (hx : x ∈ l) : okN x := by
 induction l with
 | nil => cases hx
 | cons y l ih =>
  simp only [okL] at h
  rcases List.mem_cons.1 hx with rfl | hx
  ·exact h.1
  ·exact ih h.2 hx
theorem wrs {k : Int} {n : Nat} (h0 : 0 ≤ k) (h1 : k ≤ 1048576) (h : n ≤ 9223372036854775807) : IntKind.i64.wrap (k - n) = k - n := zao _ (by omega) (by omega)
theorem zr8 : ∀ (n : Nat) (op : Int) (s : ByteArray) (k : Int) (ks : List T_Node) (left : Int), s.size ≤ 9223372036854775807 → ks.length ≤ 9223372036854775807 → okL ks → 0 ≤ left → left ≤ 1048576 → left + 1 < n →
  ∃ r, Fw_szNoden n op s k ks left = some r ∧ (r < 0 ∨ (0 ≤ r ∧ r + s.size + sN ks = left)) := by
 intro n
 induction n with
 | zero => intro op s k ks left _ _ _ h0 _ h; omega
 | succ n ih =>
  intro op s k ks left hs hl ho h0 h1 hn
  show ∃ r, zeJ (Fw_szNoden n) op s k ks left = some r ∧ _
  unfold zeJ
  rw [wrs h0 h1 hs]
  by_cases c : left - s.size < 0
  ·rw [if_pos c]; exact ⟨_, rfl, .inl (by omega)⟩
  rw [if_neg c]
  unfold ze2
  rw [wrs (by omega) (by omega) hl]
  by_cases c2 : left - s.size - ks.length < 0
  ·rw [if_pos c2, zg, if_pos (by omega)]; exact ⟨_, rfl, .inl (by omega)⟩
  rw [if_neg c2]
  obtain ⟨r, e, hr⟩ := zpP (fun n' (q : Int) i => zbd (Fw_szNoden n) n' ks q i) ks.length (fun i q => 0 ≤ q ∧ q + sN (ks.take i) + (ks.length - i) = left - s.size)
   (fun r => (∃ x, r = .inl (x, -1)) ∨ ∃ q, r = .inr q ∧ 0 ≤ q ∧ q + sN ks = left - s.size) (by omega)
   (by
    intro n' i q hi c3 ⟨h2, h3⟩
    refine ⟨.inr q, ?_, .inr ⟨q, rfl, h2, ?_⟩⟩
    ·simp only [zbd]; rw [if_neg (by omega)]
    ·rw [List.take_of_length_le (by omega)] at h3; omega)
   (by
    intro n' i q c3 ⟨h2, h3⟩
    have hx := zr7 (zuZ ho (List.getElem_mem c3))
    obtain ⟨r, e, hr⟩ := ih ks[i].op_ ks[i].s_ ks[i].n_ ks[i].kids_ q hx.1 hx.2.1 hx.2.2 h2 (by omega) (by omega)
    by_cases d : r < 0
    ·refine .inr ⟨_, ?_, .inl ⟨r, rfl⟩⟩
     simp only [zbd]
     rw [if_pos (by omega), zU (List.getElem?_eq_getElem c3), zg, e, zg, if_pos d]
    ·obtain ⟨h4, h5⟩ := hr.resolve_left d
     refine .inl ⟨r, ?_, h4, ?_⟩
     ·simp only [zbd]
      rw [if_pos (by omega), zU (List.getElem?_eq_getElem c3), zg, e, zg, if_neg d, wr1 (by omega) (by omega)]; rfl
     ·rw [zuY c3, zfV]; omega) (left - s.size - ks.length) ⟨by omega, by simp [sN]⟩
  rw [e]
  rcases hr with ⟨x, rfl⟩ | ⟨q, rfl, h2, h3⟩
  ·simp only [zg]; rw [if_pos (by omega)]; exact ⟨_, rfl, .inl (by omega)⟩
  ·simp only [zg]; rw [if_neg (by omega)]; exact ⟨_, rfl, .inr ⟨h2, by omega⟩⟩
theorem zr9 : ∀ (n : Nat) (op : Int) (s : ByteArray) (k : Int) (ks : List T_Node), sN ks < n → sN ks ≤ 1048576 → Fw_toNoden n op s k ks = some (op, s, k, ks) := by
 intro n
 induction n with
 | zero => intro op s k ks h; omega
 | succ n ih =>
  intro op s k ks h h1
  have hl := zdn ks
  show Sw_toNode (Fw_toNoden n) op s k ks = _
  unfold Sw_toNode ze3
  rw [if_pos (zhl (by simp only [zlG]; omega)), zoC (fun n' xs acc i => zbw (Fw_toNoden n) n' xs acc i) ks (by omega)]
  ·rfl
  ·intro n' acc i c
   simp only [zbw]
   rw [if_neg (by omega)]
  ·intro n' acc i x y hx hy hi
   have := (List.getElem?_eq_some_iff.1 hx).1
   have hm := zc2 (List.mem_of_getElem? hx)
   have hw := zfV x
   simp only [zbw]
   rw [if_pos (by omega), zU hx, zg, ih _ _ _ _ (by omega) (by omega), zg]
   simp only
   rw [zU hy, zg, wr1 (by omega) (by omega), Int.toNat_natCast, zr6]
   rfl
end Go.Pv

namespace Go.Pv
set_option maxRecDepth 100000
set_option maxHeartbeats 4000000
set_option linter.unusedSimpArgs false
set_option linter.unusedVariables false
theorem zr2 : ∀ (n : Nat) (op : Int) (s : ByteArray) (k : Int) (ks : List T_Node), sN ks < n → sN ks ≤ 1048576 → Fw_eqNoden n op s k ks op s k ks = some true := by
 intro n
 induction n with
 | zero => intro op s k ks h; omega
 | succ n ih =>
  intro op s k ks h h1
  have hl := zdn ks
  show Sw_eqNode (Fw_eqNoden n) op s k ks op s k ks = _
  unfold Sw_eqNode ze7
  rw [if_pos rfl, if_pos rfl, if_pos rfl, if_pos rfl, zoD (Lw_eqNodeS_0 (Fw_eqNoden n) · ks ks ·) ks.length (.inr ()) (by omega)]
  ·rfl
  ·intro n' i c; simp only [Lw_eqNodeS_0]; rw [if_neg (by omega)]
  ·intro n' i c; simp only [Lw_eqNodeS_0]
   have hm := zc2 (List.getElem_mem c)
   have hw := zfV ks[i]
   rw [if_pos (by omega), zU (List.getElem?_eq_getElem c), zg, zg, ih _ _ _ _ (by omega) (by omega), zg, if_pos rfl, wr1 (by omega) (by omega)]; rfl
end Go.Pv

namespace Go.Pv
set_option maxRecDepth 100000
set_option maxHeartbeats 4000000
set_option linter.unusedSimpArgs false
set_option linter.unusedVariables false
/-! the reference's tokens: what the first one is -/
def letB (b : UInt8) : Bool := (decide (97 ≤ b.toNat) && decide (b.toNat ≤ 122)) || (decide (65 ≤ b.toNat) && decide (b.toNat ≤ 90))
def digB (b : UInt8) : Bool := decide (48 ≤ b.toNat) && decide (b.toNat ≤ 57)
def nmB (b : UInt8) : Bool := letB b || digB b
def txB (b : UInt8) : Bool := decide (32 ≤ b.toNat) && decide (b.toNat ≤ 126) && !decide (b.toNat = 34)
def hdB : List UInt8 → Bool
 | [] => false
 | b :: _ => letB b
def zeZ (l : List UInt8) : Bool := decide (l.length ≤ 12) && hdB l && l.all nmB
theorem ite_dec {α : Type} {c : Prop} [Decidable c] {x y : α} : (if c then x else y) = (if decide c = true then x else y) := by by_cases h : c <;> simp [h]
theorem zfU (b : UInt8) : zcs (b.toNat : Int) = some (letB b) := by
 have e1 : ((97 : Int) ≤ b.toNat) = (97 ≤ b.toNat) := propext (by omega)
 have e2 : ((b.toNat : Int) ≤ 122) = (b.toNat ≤ 122) := propext (by omega)
 have e3 : ((65 : Int) ≤ b.toNat) = (65 ≤ b.toNat) := propext (by omega)
 have e4 : ((b.toNat : Int) ≤ 90) = (b.toNat ≤ 90) := propext (by omega)
 simp only [zcs, letB, e1, e2, e3, e4]
 by_cases h1 : 97 ≤ b.toNat <;> by_cases h2 : b.toNat ≤ 122 <;> by_cases h3 : 65 ≤ b.toNat <;> simp [h1, h2, h3]
theorem zhi (b : UInt8) : zce (b.toNat : Int) = some (digB b) := by
 have e1 : ((48 : Int) ≤ b.toNat) = (48 ≤ b.toNat) := propext (by omega)
 have e2 : ((b.toNat : Int) ≤ 57) = (b.toNat ≤ 57) := propext (by omega)
 simp only [zce, digB, e1, e2]
 by_cases h1 : 48 ≤ b.toNat <;> simp [h1]
theorem zr3 (s : ByteArray) (i : Nat) (hi : i < s.size) (hB : s.size ≤ 1048576) : zd9 s (i : Int) = some (1, s.extract i (runE nmB s i), 0, (i : Int), (runE nmB s i : Int), decide (runE nmB s i - i ≤ 12)) := by
 have h1 := zku nmB s i
 have h2 := zkv nmB s i (by omega)
 unfold zd9
 rw [zgO (fun n k => Ls_l11Name_0 n s i k 0 ⟨#[]⟩ 0 0) s nmB id (by omega) ?_ ?_ ?_ i (by omega), zg]
 ·simp only [id]
  have hw : IntKind.i64.wrap ((runE nmB s i : Int) - i) = (runE nmB s i : Int) - i := zao _ (by omega) (by omega)
  rw [if_pos (by omega), if_pos (by omega), if_pos (by omega)]
  simp only [hw, Int.toNat_natCast, Option.some.injEq, Prod.mk.injEq, true_and, and_true]
  congr 1
  exact propext (by omega)
 ·intro n; simp only [Ls_l11Name_0]; rw [if_neg (by omega)]; rfl
 ·intro n k b hb hp
  simp only [Ls_l11Name_0]
  rw [if_pos (zfk hb), zaD hb, zg, zfU, zg]
  have hk := ltN hb
  rw [bl_len] at hk
  by_cases c : letB b = true
  ·rw [if_pos c, wrI (by omega)]
  ·rw [if_neg c, zhi, zg, if_pos (by simp [nmB, c] at hp; exact hp), wrI (by omega)]
 ·intro n k b hb hp
  simp only [Ls_l11Name_0]
  simp only [nmB, Bool.or_eq_false_iff] at hp
  rw [if_pos (zfk hb), zaD hb, zg, zfU, zg, if_neg (by simp [hp.1]), zhi, zg, if_neg (by simp [hp.2])]; rfl
/-- numbers: only that there is an answer -/
theorem zkY : ∀ (n m : Nat) (t : Int) (b : Bool) (acc : ByteArray), m < n → 0 ≤ t → t < 2 ^ m → t < 4611686018427387904 → acc.size + m ≤ 1048576 → ∃ r, zap n t b acc = some r ∧ r.size ≤ 1048576 := by
 intro n
 induction n with
 | zero => intro m t b acc hm; omega
 | succ n ih =>
  intro m t b acc hm h0 ht h2 hs
  simp only [zap]
  by_cases c : t = 0
  ·rw [if_pos c]; exact ⟨acc, rfl, by omega⟩
  ·rw [if_neg c]
   cases m with
   | zero => simp at ht; omega
   | succ m =>
    have hd : Int.tdiv t 10 = t / 10 := Int.tdiv_eq_ediv_of_nonneg h0
    have hm' : 0 ≤ Int.tmod t 10 := by rw [Int.tmod_eq_emod_of_nonneg h0]; omega
    have hp : (2 : Int) ^ (m + 1) = 2 ^ m * 2 := Int.pow_succ 2 m
    rw [if_neg (by omega), zmq (by show 1 + acc.size ≤ _; omega), hd, zao _ (by omega) (by omega)]
    refine ih m _ b _ (by omega) (by omega) (by omega) (by omega) ?_
    rw [ByteArray.size_append]
    show 1 + acc.size + m ≤ _; omega
theorem zji (t : Int) (h0 : 0 ≤ t) (h : t < 4611686018427387904) : ∃ r, zbz t = some r := by
 unfold zbz
 by_cases c : t = 0
 ·rw [if_pos c]; exact ⟨_, rfl⟩
 ·rw [if_neg c]
  obtain ⟨r, e, _⟩ := zkY FU 62 t (decide (t < 0)) ⟨#[]⟩ (by unfold FU; omega) h0 (by simpa using h) h (by decide)
  rw [e, zg, if_neg (by omega)]
  exact ⟨_, rfl⟩
theorem s_num (s : ByteArray) (i : Nat) (hi : i < s.size) (hB : s.size ≤ 1048576) : ∃ x ok, zeK s (i : Int) = some (2, ⟨#[]⟩, x, (i : Int), (runE digB s i : Int), ok) := by
 have h1 := zku digB s i
 have h2 := zkv digB s i (by omega)
 have key : ∀ (n k : Nat) (x : Int), k ≤ s.size → s.size - k < n → 0 ≤ x → x ≤ 21474836479 → ∃ y, zbU n s i (k : Int) x 0 ⟨#[]⟩ 0 0 = some ((runE digB s k : Int), y) ∧ 0 ≤ y ∧ y ≤ 21474836479 := by
  intro n
  induction n with
  | zero => intro k x hk hn; omega
  | succ n ih =>
   intro k x hk hn h3 h4
   simp only [zbU]
   by_cases c : k < s.size
   ·obtain ⟨b, hb⟩ := zbV (xs := bl s) (i := k) (by rw [bl_len]; exact c)
    rw [if_pos (by omega), zaD hb, zg, zhi, zg]
    have hb2 : b.toNat < 256 := UInt8.toNat_lt b
    have he : runE digB s k = if digB b then runE digB s (k + 1) else k := by
     unfold runE
     rw [drop_some hb, List.takeWhile_cons]
     cases digB b <;> simp; omega
    cases hd : digB b with
    | true =>
     rw [hd] at he
     simp only [if_true] at he ⊢
     rw [he]
     simp only [digB, Bool.and_eq_true, decide_eq_true_eq] at hd
     have w8 : IntKind.i64.wrap (b.toNat : Int) = (b.toNat : Int) := zao _ (by omega) (by omega)
     by_cases c2 : x ≤ 2147483647
     ·rw [if_pos c2, w8, zao (10 * x) (by omega) (by omega), zao (10 * x + _) (by omega) (by omega), zao (10 * x + _ - 48) (by omega) (by omega), wrI (by omega)]
      exact ih (k + 1) _ (by omega) (by omega) (by omega) (by omega)
     ·rw [if_neg c2, wrI (by omega)]
      exact ih (k + 1) _ (by omega) (by omega) h3 h4
    | false =>
     rw [hd] at he
     simp only [Bool.false_eq_true, if_false] at he ⊢
     exact ⟨x, by rw [he], h3, h4⟩
   ·rw [if_neg (by omega)]
    have : k = s.size := by omega
    subst this
    refine ⟨x, ?_, h3, h4⟩
    have he : runE digB s s.size = s.size := by unfold runE; rw [← bl_len, List.drop_length]; rfl
    rw [he]
 obtain ⟨y, e, h3, h4⟩ := key FU i 0 (by omega) (by unfold FU; omega) (by omega) (by omega)
 unfold zeK
 rw [e, zg]
 simp only
 by_cases c : y ≤ 2147483647
 ·rw [if_pos c]
  obtain ⟨r, er⟩ := zji y h3 (by omega)
  rw [er, zg, if_pos (by omega), if_pos (by omega), if_pos (by omega)]
  exact ⟨_, _, rfl⟩
 ·rw [if_neg c]; exact ⟨_, _, rfl⟩
theorem znD (s : ByteArray) (i k : Nat) (hk : k ≤ s.size) (hB : s.size ≤ 1048576) : Ls_l11Text_0 FU s i (k : Int) 0 ⟨#[]⟩ 0 0 = some (runE txB s k : Int) := by
 rw [zgO (fun n k => Ls_l11Text_0 n s i k 0 ⟨#[]⟩ 0 0) s txB id (by omega) ?_ ?_ ?_ k hk]
 ·rfl
 ·intro n; simp only [Ls_l11Text_0]; rw [if_neg (by omega)]; rfl
 ·intro n j b hb hp
  have hj := ltN hb
  rw [bl_len] at hj
  simp only [txB, Bool.and_eq_true, decide_eq_true_eq, Bool.not_eq_true', decide_eq_false_iff_not] at hp
  simp only [Ls_l11Text_0]
  rw [if_pos (zfk hb), zaD hb, zg, if_neg (by omega), if_pos (by omega), if_pos (by omega), wrI (by omega)]
 ·intro n j b hb hp
  simp only [Ls_l11Text_0]
  rw [if_pos (zfk hb), zaD hb, zg]
  by_cases c1 : b.toNat = 34
  ·rw [if_pos (by omega)]; rfl
  ·rw [if_neg (by omega)]
   by_cases c2 : 32 ≤ b.toNat
   ·rw [if_pos (by omega)]
    by_cases c3 : b.toNat ≤ 126
    ·simp [txB, c1, c2, c3] at hp
    ·rw [if_neg (by omega)]; rfl
   ·rw [if_neg (by omega)]; rfl
theorem zxg (s : ByteArray) (i : Nat) (hi : i < s.size) (hB : s.size ≤ 1048576) : ∃ (t : T_Token) (to : Nat) (ok : Bool), zec s (i : Int) = some (t.kind_, t.text_, t.n_, t.at_, ((to : Nat) : Int), ok) ∧ (t.kind_ = 0 ∨ t.kind_ = 3) ∧ (ok = true → i < to) := by
 have h1 := zku txB s (i + 1)
 have h2 := zkv txB s (i + 1) (by omega)
 have e := znD s i (i + 1) (by omega) hB
 unfold zec
 rw [wrI (by omega), e, zg]
 by_cases c1 : (s.size : Int) ≤ (runE txB s (i + 1) : Int)
 ·rw [if_pos c1]; exact ⟨⟨0, ⟨#[]⟩, 0, 0⟩, i, false, rfl, .inl rfl, by simp⟩
 ·rw [if_neg c1]
  obtain ⟨b, hb⟩ := zbV (xs := bl s) (i := runE txB s (i + 1)) (by rw [bl_len]; omega)
  rw [zaD hb, zg]
  by_cases c2 : (b.toNat : Int) = 34
  ·have w1 : IntKind.i64.wrap ((runE txB s (i + 1) : Int) - i) = (runE txB s (i + 1) : Int) - i := zao _ (by omega) (by omega)
   rw [if_pos c2, w1, zao _ (by omega) (by omega)]
   by_cases c3 : 30 < (runE txB s (i + 1) : Int) - (i : Int) - 1
   ·rw [if_pos c3]; exact ⟨⟨0, ⟨#[]⟩, 0, 0⟩, i, false, rfl, .inl rfl, by simp⟩
   ·rw [if_neg c3, if_pos (by omega), if_pos (by omega), if_pos (by omega), wrI (by omega)]
    exact ⟨⟨3, _, 0, i⟩, runE txB s (i + 1) + 1, true, rfl, .inr rfl, by intro _; omega⟩
  ·rw [if_neg c2]; exact ⟨⟨0, ⟨#[]⟩, 0, 0⟩, i, false, rfl, .inl rfl, by simp⟩
theorem znE (s : ByteArray) (i : Nat) (hi : i < s.size) (hB : s.size ≤ 1048576) (sg : ByteArray) (hs : sg.size ≤ 100) : ∃ r, Ls_l11Sign_0 FU s (i : Int) sg 0 = some r ∧ ∀ x, r = .inl x → x.size = 1 := by
 obtain ⟨b, hb⟩ := zbV (xs := bl s) (i := i) (by rw [bl_len]; exact hi)
 have := zef (fun n k => Ls_l11Sign_0 n s i sg k) (bl sg) (fun c => decide ((c.toNat : Int) = (b.toNat : Int))) (fun _ => Sum.inl (s.extract i (i + 1))) (.inr ()) (by rw [bl_len]; omega) (by
  intro n; rw [bl_len]; simp only [Ls_l11Sign_0]; rw [if_neg (by omega)]) (by
  intro n k c hc hp
  have hk := ltN hc
  rw [bl_len] at hk
  simp only [decide_eq_false_iff_not] at hp
  simp only [Ls_l11Sign_0]
  rw [if_pos (zfk hc), zaD hc, zg, zaD hb, zg, if_neg hp, wrI (by omega)]) (by
  intro n k c hc hp
  simp only [decide_eq_true_eq] at hp
  simp only [Ls_l11Sign_0]
  rw [if_pos (zfk hc), zaD hc, zg, zaD hb, zg, if_pos hp, if_pos (by omega), wrI (by omega), if_pos (by omega), if_pos (by omega)]
  simp only [Int.toNat_natCast])
 refine ⟨_, this, ?_⟩
 intro x hx
 split at hx
 ·cases hx; rw [ByteArray.size_extract]; omega
 ·cases hx
theorem zxh (s : ByteArray) (i : Nat) (hi : i < s.size) (hB : s.size ≤ 1048576) : ∃ x, zed s (i : Int) = some x ∧ x.size ≤ 2 := by
 obtain ⟨b, hb⟩ := zbV (xs := bl s) (i := i) (by rw [bl_len]; exact hi)
 obtain ⟨r, e, hr⟩ := znE s i hi hB ⟨#[40, 41, 123, 125, 44, 59, 58, 46, 61, 43, 45, 42, 60, 33]⟩ (by decide)
 have fin : ∃ x, (bS (Ls_l11Sign_0 FU s (i : Int) (⟨#[40, 41, 123, 125, 44, 59, 58, 46, 61, 43, 45, 42, 60, 33]⟩ : ByteArray) 0) fun r_ => match r_ with
   | .inl r86 => some r86
   | .inr () => some (⟨#[]⟩ : ByteArray)) = some x ∧ x.size ≤ 2 := by
  rw [e, zg]
  cases r with
  | inl x => exact ⟨x, rfl, by have := hr x rfl; omega⟩
  | inr u => exact ⟨_, rfl, by decide⟩
 unfold zed
 rw [zaD hb, zg]
 by_cases c1 : (b.toNat : Int) = 61
 ·rw [if_pos c1, wrI (by omega)]
  by_cases c2 : i + 1 < s.size
  ·rw [if_pos (by omega)]
   obtain ⟨b2, hb2⟩ := zbV (xs := bl s) (i := i + 1) (by rw [bl_len]; exact c2)
   rw [zaD hb2, zg]
   by_cases c3 : (b2.toNat : Int) = 61
   ·rw [if_pos c3]; exact ⟨_, rfl, by decide⟩
   ·rw [if_neg c3]; exact fin
  ·rw [if_neg (by omega)]; exact fin
 ·rw [if_neg c1]; exact fin
/-- the token at a place: an answer; a name is one -/
theorem s_one (s : ByteArray) (i : Nat) (hi : i < s.size) (hB : s.size ≤ 1048576) : ∃ (t : T_Token) (to : Nat) (ok : Bool), zc8 s (i : Int) = some (t.kind_, t.text_, t.n_, t.at_, ((to : Nat) : Int), ok) ∧ (ok = true → i < to) ∧ (ok = true → t.kind_ = 1 → zeZ (bl t.text_) = true) := by
 obtain ⟨b, hb⟩ := zbV (xs := bl s) (i := i) (by rw [bl_len]; exact hi)
 unfold zc8
 rw [zaD hb, zg, zfU, zg]
 by_cases c1 : letB b = true
 ·rw [if_pos c1, zr3 s i hi hB, zg]
  have hd := drop_some hb
  have hn : nmB b = true := by simp [nmB, c1]
  refine ⟨⟨1, s.extract i (runE nmB s i), 0, i⟩, runE nmB s i, _, rfl, ?_, ?_⟩
  ·intro _; unfold runE; rw [hd, List.takeWhile_cons_of_pos hn]; simp
  ·intro h _
   simp only [decide_eq_true_eq] at h
   simp only
   rw [zpQ]
   have hl : (((bl s).drop i).takeWhile nmB).length ≤ 12 := by unfold runE at h; omega
   unfold zeZ
   rw [hd, List.takeWhile_cons_of_pos hn] at hl ⊢
   simp only [hl, hdB, decide_true, c1, Bool.and_self, Bool.true_and, List.all_cons, hn]
   exact List.all_takeWhile
 ·rw [if_neg c1, zhi, zg]
  by_cases c2 : digB b = true
  ·rw [if_pos c2]
   obtain ⟨x, ok, e⟩ := s_num s i hi hB
   rw [e, zg]
   refine ⟨⟨2, ⟨#[]⟩, x, i⟩, runE digB s i, ok, rfl, ?_, fun _ h => by cases h⟩
   intro _; unfold runE; rw [drop_some hb, List.takeWhile_cons_of_pos c2]; simp
  ·rw [if_neg c2]
   by_cases c3 : (b.toNat : Int) = 34
   ·rw [if_pos c3]
    obtain ⟨t, to, ok, e, hk, ho⟩ := zxg s i hi hB
    rw [e, zg]
    exact ⟨t, to, ok, rfl, ho, fun _ h => by omega⟩
   ·rw [if_neg c3]
    obtain ⟨x, e, hx⟩ := zxh s i hi hB
    rw [e, zg, zao _ (by omega) (by omega)]
    refine ⟨⟨4, x, 0, i⟩, i + x.size, _, rfl, ?_, fun _ h => by cases h⟩
    intro h
    by_cases z : x = ⟨#[]⟩
    ·simp [z] at h
    ·rcases Nat.eq_zero_or_pos x.size with h0 | h0
     ·exact absurd (zkt (by rw [← List.length_eq_zero_iff.1 ((bl_len x).trans h0)]; rfl)) z
     ·omega
theorem zpH (s : ByteArray) (hB : s.size ≤ 800) : ∀ (n k : Nat) (acc : List T_Token), s.size - k < n → acc.length + (s.size - k) ≤ 800 → (∀ t ∈ acc, t.kind_ = 1 → zeZ (bl t.text_) = true) →
  ∃ r, za7 n s acc (k : Int) = some r ∧ (∀ l a q, r = .inl (l, a, q) → l = [] ∧ 0 ≤ a) ∧ (∀ l, r = .inr l → l.length ≤ 800 ∧ ∀ t ∈ l, t.kind_ = 1 → zeZ (bl t.text_) = true) := by
 intro n
 induction n with
 | zero => intro k acc h; omega
 | succ n ih =>
  intro k acc hn hl ha
  simp only [za7]
  by_cases c : k < s.size
  ·obtain ⟨b, hb⟩ := zbV (xs := bl s) (i := k) (by rw [bl_len]; exact c)
   rw [if_pos (by omega), zaD hb, zg]
   by_cases c1 : (b.toNat : Int) = 32
   ·rw [if_pos c1, wrI (by omega)]; exact ih (k + 1) acc (by omega) (by omega) ha
   rw [if_neg c1]
   by_cases c2 : (b.toNat : Int) = 10
   ·rw [if_pos c2, wrI (by omega)]; exact ih (k + 1) acc (by omega) (by omega) ha
   rw [if_neg c2]
   obtain ⟨t, to, ok, e, ho, hk⟩ := s_one s k c (by omega)
   rw [e, zg]
   simp only
   cases ok with
   | true =>
    rw [if_pos rfl, if_pos (zhl (by simp only [zlG, List.length_cons, List.length_nil]; omega))]
    refine ih to _ (by have := ho rfl; omega) (by have := ho rfl; simp; omega) ?_
    intro x hx hx1
    rcases List.mem_append.1 hx with h | h
    ·exact ha x h hx1
    ·simp only [List.mem_singleton] at h
     subst h
     exact hk rfl hx1
   | false => exact ⟨_, rfl, fun l a q h => by cases h; exact ⟨rfl, by omega⟩, fun l h => by cases h⟩
  ·rw [if_neg (by omega)]
   refine ⟨_, rfl, fun l a q h => (by cases h), fun l h => ?_⟩
   cases h
   exact ⟨by omega, ha⟩
/-! names -/
theorem zr4 {τ : Type} {p : τ → Bool} : ∀ {l : List τ}, l.all p = true → l.takeWhile p = l
 | [], _ => rfl
 | x :: l, h => by
  simp only [List.all_cons, Bool.and_eq_true] at h
  rw [List.takeWhile_cons_of_pos h.1, zr4 h.2]
theorem zff {τ : Type} (p : τ → Bool) : ∀ l : List τ, l.any p = !(l.all fun w => !p w)
 | [] => rfl
 | x :: l => by rw [List.any_cons, List.all_cons, zff p l]; cases p x <;> rfl
theorem zpI (s : ByteArray) (i : Nat) (b : UInt8) (hb : (bl s)[i]? = some b) (hl : letB b = true) (hB : s.size ≤ 1048576) : zc8 s (i : Int) = some (1, s.extract i (runE nmB s i), 0, (i : Int), (runE nmB s i : Int), decide (runE nmB s i - i ≤ 12)) := by
 have hi := ltN hb
 rw [bl_len] at hi
 unfold zc8
 rw [zaD hb, zg, zfU, zg, if_pos hl, zr3 s i hi hB, zg]
theorem zpJ {s : ByteArray} (h : zeZ (bl s) = true) : s.size ≤ 12 ∧ (∃ b, (bl s)[0]? = some b ∧ letB b = true) ∧ runE nmB s 0 = s.size ∧ s.extract 0 s.size = s := by
 unfold zeZ at h
 simp only [Bool.and_eq_true, decide_eq_true_eq] at h
 obtain ⟨⟨h1, h2⟩, h3⟩ := h
 rw [bl_len] at h1
 refine ⟨h1, ?_, ?_, by simp⟩
 ·cases hb : bl s with
  | nil => rw [hb] at h2; simp [hdB] at h2
  | cons b l => rw [hb] at h2; exact ⟨b, rfl, h2⟩
 ·unfold runE
  rw [List.drop_zero, zr4 h3, bl_len]; omega
theorem zpK (s : ByteArray) (h : zeZ (bl s) = true) : zc9 s = some ([⟨1, s, 0, 0⟩, ⟨0, ⟨#[]⟩, 0, (s.size : Int)⟩], -1) := by
 obtain ⟨h1, ⟨b, hb, hl⟩, h2, h3⟩ := zpJ h
 have hi := ltN hb
 rw [bl_len] at hi
 unfold zc9
 rw [if_neg (by omega)]
 have e : ∀ n, za7 (n + 1 + 1) s [] 0 = some (.inr [⟨1, s, 0, 0⟩]) := by
  intro n
  have hg := zaD hb
  have h1' := zpI s 0 b hb hl (by omega)
  have hne : ((b.toNat : Int) = 32) = False := by
   unfold letB at hl
   simp only [Bool.or_eq_true, Bool.and_eq_true, decide_eq_true_eq] at hl
   simp only [eq_iff_iff, iff_false]; omega
  have hne2 : ((b.toNat : Int) = 10) = False := by
   unfold letB at hl
   simp only [Bool.or_eq_true, Bool.and_eq_true, decide_eq_true_eq] at hl
   simp only [eq_iff_iff, iff_false]; omega
  simp only [za7]
  rw [if_pos (by omega)]
  rw [show ((0 : Nat) : Int) = 0 from rfl] at hg h1'
  rw [hg, zg, if_neg (by simp [hne]), if_neg (by simp [hne2]), h1', zg]
  simp only
  rw [if_pos (by rw [h2]; simp; omega), if_pos (by decide), if_neg (by rw [h2]; omega), h2, h3]; rfl
 rw [show FU = 4194302 + 1 + 1 from rfl, e 4194302, zg]
 simp only
 rw [if_pos (zhl (by simp only [zlG, List.length_cons, List.length_nil]; omega))]; rfl
theorem zr5 (s : ByteArray) (hB : s.size ≤ 1048576) : ∃ l a, zc9 s = some (l, a) ∧ (a < 0 → ∀ t ∈ l, t.kind_ = 1 → zeZ (bl t.text_) = true) := by
 unfold zc9
 by_cases c : 800 < (s.size : Int)
 ·rw [if_pos c]; exact ⟨_, _, rfl, by omega⟩
 ·rw [if_neg c]
  obtain ⟨r, e, h1, h2⟩ := zpH s (by omega) FU 0 [] (by unfold FU; omega) (by simp; omega) (by simp)
  rw [show ((0 : Nat) : Int) = 0 from rfl] at e
  rw [e, zg]
  cases r with
  | inl r =>
   obtain ⟨l, a, q⟩ := r
   obtain ⟨h3, h4⟩ := h1 l a q rfl
   exact ⟨l, a, rfl, by omega⟩
  | inr l =>
   obtain ⟨h3, h4⟩ := h2 l rfl
   simp only
   rw [if_pos (zhl (by simp only [zlG]; omega))]
   refine ⟨_, _, rfl, fun _ t ht hk => ?_⟩
   rcases List.mem_append.1 ht with h | h
   ·exact h4 t h hk
   ·simp only [List.mem_singleton] at h; subst h; cases hk
def wordsB : List ByteArray := [(⟨#[108, 101, 116]⟩ : ByteArray), (⟨#[105, 102]⟩ : ByteArray), (⟨#[101, 108, 115, 101]⟩ : ByteArray), (⟨#[119, 104, 105, 108, 101]⟩ : ByteArray), (⟨#[114, 101, 116, 117, 114, 110]⟩ : ByteArray), (⟨#[112, 114, 105, 110, 116]⟩ : ByteArray), (⟨#[102, 117, 110, 99, 116, 105, 111, 110]⟩ : ByteArray), (⟨#[116, 114, 117, 101]⟩ : ByteArray), (⟨#[102, 97, 108, 115, 101]⟩ : ByteArray), (⟨#[110, 117, 108, 108]⟩ : ByteArray), (⟨#[117, 110, 100, 101, 102, 105, 110, 101, 100]⟩ : ByteArray), (⟨#[112, 114, 111, 116, 111]⟩ : ByteArray)]
def isW (s : ByteArray) : Bool := wordsB.any fun w => decide (s = w)
def zkZ : ByteArray := ⟨#[112, 114, 111, 116, 111]⟩
theorem zxi (s : ByteArray) (n a : Int) : zgH 1 s n a = some (isW s) := by
 unfold zgH
 have := zeS (fun m i => Ls_Word_0 m wordsB i 1 s n a) wordsB (fun w => !decide (s = w)) (.inr ()) (.inl true) (by decide)
  (by intro m; simp only [Ls_Word_0]; rw [if_neg (by omega)])
  (by
   intro m i x hx hp
   have hi := ltN hx
   have hl : wordsB.length = 12 := rfl
   simp only [Ls_Word_0]
   rw [if_pos (ltI hx), zU hx, zg, wrI (by omega)]
   simp only [if_true]
   rw [if_neg (by simpa using hp)])
  (by
   intro m i x hx hp
   simp only [Ls_Word_0]
   rw [if_pos (ltI hx), zU hx, zg]
   simp only [if_true]
   rw [if_pos (by simpa using hp)])
 show bS (Ls_Word_0 FU wordsB 0 1 s n a) _ = _
 rw [this, zg]
 have e : isW s = !(wordsB.all fun w => !decide (s = w)) := by
  unfold isW
  rw [zff]
 rw [e]
 cases wordsB.all fun w => !decide (s = w) <;> rfl
/-- a text that is a name, and no word but 'proto', where that may be -/
def zcQ (s : ByteArray) (p : Bool) : Bool := zeZ (bl s) && (!isW s || (p && decide (s = zkZ)))
theorem zf6 (s : ByteArray) (p : Bool) (hB : s.size ≤ 1048576) : zag s p = some (zcQ s p) := by
 unfold zag zcQ
 cases hn : zeZ (bl s) with
 | true =>
  rw [zpK s hn, zg]
  simp only
  rw [if_neg (by omega), if_pos (by simp)]
  have e : getI [(⟨1, s, 0, 0⟩ : T_Token), ⟨0, ⟨#[]⟩, 0, (s.size : Int)⟩] 0 = some ⟨1, s, 0, 0⟩ := rfl
  rw [e, zg]
  simp only [if_true]
  rw [zxi, zg]
  cases isW s with
  | true =>
   cases p with
   | true => rfl
   | false => rfl
  | false => simp
 | false =>
  obtain ⟨l, a, e, h⟩ := zr5 s hB
  rw [e, zg]
  simp only
  by_cases c : 0 ≤ a
  ·rw [if_pos c]; rfl
  rw [if_neg c]
  by_cases c2 : (l.length : Int) = 2
  ·rw [if_pos c2]
   obtain ⟨t, ht⟩ := zbV (xs := l) (i := 0) (by omega)
   have hg := zU ht
   rw [show ((0 : Nat) : Int) = 0 from rfl] at hg
   rw [hg, zg]
   by_cases c3 : t.kind_ = 1
   ·rw [if_pos c3]
    by_cases c4 : t.text_ = s
    ·have := h (by omega) t (List.mem_of_getElem? ht) c3
     rw [c4, hn] at this; cases this
    ·rw [if_neg c4]; rfl
   ·rw [if_neg c3]; rfl
  ·rw [if_neg c2]; rfl
end Go.Pv

namespace Go.Pv
set_option maxRecDepth 100000
set_option linter.unusedSimpArgs false
set_option linter.unusedVariables false
/-! words with a blank between -/
theorem zmm (s : ByteArray) : s.data.toList.length = s.size := by rw [Array.length_toList]; rfl
theorem zxm (s : ByteArray) (i : Nat) : zen s (i : Int) = s.data.toList[i]? := by
 unfold zen
 rw [if_pos (by omega), Int.toNat_natCast]
 by_cases h : i < s.size
 ·rw [getElem?_pos s i h]
  have : i < s.data.toList.length := by rw [zmm]; exact h
  rw [List.getElem?_eq_getElem this]; rfl
 ·rw [getElem?_neg s i h, List.getElem?_eq_none (by rw [zmm]; omega)]
theorem zfg (s : ByteArray) (a k : Nat) : (s.extract a s.size).data.toList[k]? = s.data.toList[a + k]? := by
 rw [ByteArray.data_extract, Array.toList_extract]
 simp only [List.extract_eq_take_drop, List.getElem?_take, List.getElem?_drop]
 split
 ·rfl
 ·rename_i h
  rw [List.getElem?_eq_none]
  rw [zmm]
  have : s.size = s.data.size := rfl
  omega
def blank : ByteArray := ⟨#[32]⟩
theorem zsd {s : ByteArray} {a : Nat} (h : ∀ k, a ≤ k → s.data.toList[k]? ≠ some 32) : Lib.indexB (s.extract a s.size) blank = -1 := by
 have e : Lib.indexB (s.extract a s.size) blank = Lib.indexByte (s.extract a s.size).data.toList 32 := Lib.index_one _ _
 rw [e]
 rcases Lib.indexB_cases (s.extract a s.size) blank with h1 | ⟨i, h1, _⟩
 ·rw [e] at h1; exact h1
 ·rw [e] at h1
  have := (Lib.indexByte_some h1).1
  rw [zfg] at this
  exact absurd this (h _ (by omega))
theorem zse {s : ByteArray} {a p : Nat} (hp : a ≤ p) (h : ∀ k, a ≤ k → k < p → s.data.toList[k]? ≠ some 32) (h2 : s.data.toList[p]? = some 32) : Lib.indexB (s.extract a s.size) blank = ((p - a : Nat) : Int) := by
 have e : Lib.indexB (s.extract a s.size) blank = Lib.indexByte (s.extract a s.size).data.toList 32 := Lib.index_one _ _
 rw [e]
 rcases Lib.indexB_cases (s.extract a s.size) blank with h1 | ⟨i, h1, _⟩
 ·rw [e] at h1
  have := Lib.indexByte_none h1 (p - a)
  rw [zfg, show a + (p - a) = p by omega] at this
  exact absurd h2 this
 ·rw [e] at h1
  obtain ⟨h3, h4⟩ := Lib.indexByte_some h1
  rw [zfg] at h3
  rw [h1]
  by_cases c : i < p - a
  ·exact absurd h3 (h _ (by omega) (by omega))
  ·by_cases c2 : p - a < i
   ·have := h4 (p - a) c2
    rw [zfg, show a + (p - a) = p by omega] at this
    exact absurd h2 this
   ·rw [show i = p - a by omega]
theorem zu4 (s : ByteArray) (a b : Nat) (h : a ≤ b) : (s.extract a s.size).extract (b - a) (s.extract a s.size).size = s.extract b s.size := by
 apply ByteArray.ext
 apply Array.toList_inj.1
 apply List.ext_getElem?
 intro k
 rw [zfg, zfg, zfg]
 congr 1; omega
theorem zu5 (s : ByteArray) (a b : Nat) (h : a ≤ b) (h2 : b ≤ s.size) : (s.extract a s.size).extract 0 (b - a + 0) = s.extract a b := by
 apply ByteArray.ext
 simp only [ByteArray.data_extract, Array.extract_extract]
 congr 1
 ·omega
theorem zhK (s : ByteArray) (a : Nat) (h : ∀ k, a ≤ k → s.data.toList[k]? ≠ some 32) : splitL (s.extract a s.size) = [s.extract a s.size] := Lib.splitB_miss _ _ _ _ (zsd h)
theorem zgD (s : ByteArray) (a p : Nat) (hp : a ≤ p) (h : ∀ k, a ≤ k → k < p → s.data.toList[k]? ≠ some 32) (h2 : s.data.toList[p]? = some 32) :
  splitL (s.extract a s.size) = s.extract a p :: splitL (s.extract (p + 1) s.size) := by
 have hi := zse hp h h2
 have hps : p < s.size := by have := (List.getElem?_eq_some_iff.1 h2).1; rw [zmm] at this; exact this
 have hc := Lib.countB_hit (s.extract a s.size) blank (p - a) (by decide) hi
 have hx : (s.extract a s.size).extract (p - a + blank.size) (s.extract a s.size).size = s.extract (p + 1) s.size := by
  have := zu4 s a (p + 1) (by omega)
  rw [show p + 1 - a = p - a + blank.size by show p + 1 - a = p - a + 1; omega] at this
  exact this
 rw [hx] at hc
 unfold splitL
 change Lib.splitB blank 0 (Lib.countB (s.extract a s.size) blank) (s.extract a s.size) = _
 rw [hc, Nat.add_comm 1, Lib.splitB_hit blank 0 _ _ _ hi, hx, zu5 s a p hp (by omega)]
 rfl
def wordsL (s : ByteArray) : List ByteArray := if s = ⟨#[]⟩ then [] else splitL s
theorem znK (s : ByteArray) : (splitL s).length ≤ s.size + 1 := by
 have := Lib.splitB_length_le blank 0 (Lib.countB s blank) s
 have h2 := Lib.countB_le blank (by decide) s.size s (Nat.le_refl _)
 unfold splitL
 change (Lib.splitB blank 0 (Lib.countB s blank) s).length ≤ _
 omega
theorem zjl (s : ByteArray) : (wordsL s).length ≤ s.size + 1 := by
 unfold wordsL
 split
 ·simp
 ·exact znK s
end Go.Pv
