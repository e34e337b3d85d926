/- Proof: plain laws: what is drawn, sizes and depths. No condition. -/
import Derived.Test.YtaadneenebhnoaaIm
import Derived.Test.YtaadneenebhnoaaGtC
set_option autoImplicit true
set_option relaxedAutoImplicit true
set_option linter.unusedSimpArgs false
set_option linter.unusedVariables false
namespace Go.Pv
set_option maxRecDepth 100000
set_option linter.unusedSimpArgs false
set_option linter.unusedVariables false
/-! loops over rows, as rows -/
theorem ltI {τ : Type} {xs : List τ} {i : Nat} {x : τ} (h : xs[i]? = some x) : (i : Int) < (xs.length : Int) := by
  have := (List.getElem?_eq_some_iff.1 h).1; omega
theorem ltN {τ : Type} {xs : List τ} {i : Nat} {x : τ} (h : xs[i]? = some x) : i < xs.length := (List.getElem?_eq_some_iff.1 h).1
theorem wrI {i : Nat} (h : i ≤ 4611686018427387904) : IntKind.i64.wrap ((i : Int) + 1) = ((i + 1 : Nat) : Int) := by rw [wr1 (by omega) (by omega)]; rfl
theorem drop_some {τ : Type} {xs : List τ} {i : Nat} {x : τ} (h : xs[i]? = some x) : xs.drop i = x :: xs.drop (i + 1) := by
  obtain ⟨h1, h2⟩ := List.getElem?_eq_some_iff.1 h
  rw [List.drop_eq_getElem_cons h1, h2]
/-- all of a row pass -/
theorem all_loop {τ ρ : Type} (L : Nat → Int → Option ρ) (xs : List τ) (p : τ → Bool) (rT rF : ρ) (hB : xs.length ≤ 4194303)
    (h0 : ∀ n, L (n + 1) (xs.length : Int) = some rT)
    (h1 : ∀ n (i : Nat) x, xs[i]? = some x → p x = true → L (n + 1) (i : Int) = L n ((i + 1 : Nat) : Int))
    (h2 : ∀ n (i : Nat) x, xs[i]? = some x → p x = false → L (n + 1) (i : Int) = some rF) (k : Nat) (hk : k ≤ xs.length) : L FU (k : Int) = some (if (xs.drop k).all p then rT else rF) := by
  have key : ∀ (n k : Nat), k ≤ xs.length → xs.length - k < n → L n (k : Int) = some (if (xs.drop k).all p then rT else rF) := by
    intro n
    induction n with
    | zero => intro k hk hn; omega
    | succ n ih =>
      intro k hk hn
      by_cases c : k < xs.length
      · obtain ⟨x, hx⟩ := lt_get c
        rw [drop_some hx, List.all_cons]
        cases hp : p x with
        | true => rw [h1 n k x hx hp, ih (k + 1) (by omega) (by omega), Bool.true_and]
        | false => rw [h2 n k x hx hp, Bool.false_and]; simp
      · have : k = xs.length := by omega
        subst this
        rw [h0 n, List.drop_length]; rfl
  exact key FU k hk (by unfold FU; omega)
theorem all_loop0 {τ ρ : Type} (L : Nat → Int → Option ρ) (xs : List τ) (p : τ → Bool) (rT rF : ρ) (hB : xs.length ≤ 4194303)
    (h0 : ∀ n, L (n + 1) (xs.length : Int) = some rT)
    (h1 : ∀ n (i : Nat) x, xs[i]? = some x → p x = true → L (n + 1) (i : Int) = L n ((i + 1 : Nat) : Int))
    (h2 : ∀ n (i : Nat) x, xs[i]? = some x → p x = false → L (n + 1) (i : Int) = some rF) : L FU 0 = some (if xs.all p then rT else rF) := by
  have := all_loop L xs p rT rF hB h0 h1 h2 0 (by omega)
  simpa using this
/-- the first of a row that passes, by its place -/
theorem idx_loop {τ ρ : Type} (L : Nat → Int → Option ρ) (xs : List τ) (p : τ → Bool) (rI : Int → ρ) (rN : ρ) (hB : xs.length ≤ 4194303)
    (h0 : ∀ n, L (n + 1) (xs.length : Int) = some rN)
    (h1 : ∀ n (i : Nat) x, xs[i]? = some x → p x = false → L (n + 1) (i : Int) = L n ((i + 1 : Nat) : Int))
    (h2 : ∀ n (i : Nat) x, xs[i]? = some x → p x = true → L (n + 1) (i : Int) = some (rI i)) : L FU 0 = some (match xs.findIdx? p with | some i => rI (i : Int) | none => rN) := by
  have key : ∀ (n k : Nat), k ≤ xs.length → xs.length - k < n → L n (k : Int) = some (match (xs.drop k).findIdx? p with | some i => rI ((k + i : Nat) : Int) | none => rN) := by
    intro n
    induction n with
    | zero => intro k hk hn; omega
    | succ n ih =>
      intro k hk hn
      by_cases c : k < xs.length
      · obtain ⟨x, hx⟩ := lt_get c
        rw [drop_some hx, List.findIdx?_cons]
        cases hp : p x with
        | false =>
          rw [h1 n k x hx hp, ih (k + 1) (by omega) (by omega)]
          cases hf : (xs.drop (k + 1)).findIdx? p with
          | none => simp
          | some i =>
            simp only [Bool.false_eq_true, if_false, Option.map_some]
            rw [show k + 1 + i = k + (i + 1) by omega]
        | true => rw [h2 n k x hx hp]; simp
      · have : k = xs.length := by omega
        subst this
        rw [h0 n, List.drop_length]; rfl
  have := key FU 0 (by omega) (by unfold FU; omega)
  simpa using this
theorem any_find {τ : Type} (xs : List τ) (p : τ → Bool) : xs.any p = (xs.findIdx? p).isSome := by
  induction xs with
  | nil => rfl
  | cons x l ih =>
    rw [List.any_cons, List.findIdx?_cons, ih]
    cases p x <;> simp
/-- a row gone through with a state -/
theorem fold_loop {τ σ ρ : Type} (L : Nat → σ → Int → Option ρ) (xs : List τ) (f : σ → τ → σ) (fin : σ → ρ) (s0 : σ) (hB : xs.length ≤ 4194303)
    (h0 : ∀ n s, s = xs.foldl f s0 → L (n + 1) s (xs.length : Int) = some (fin s))
    (h1 : ∀ n (i : Nat) x s, xs[i]? = some x → s = (xs.take i).foldl f s0 → L (n + 1) s (i : Int) = L n (f s x) ((i + 1 : Nat) : Int)) : L FU s0 0 = some (fin (xs.foldl f s0)) := by
  have key : ∀ (n k : Nat), k ≤ xs.length → xs.length - k < n → L n ((xs.take k).foldl f s0) (k : Int) = some (fin (xs.foldl f s0)) := by
    intro n
    induction n with
    | zero => intro k hk hn; omega
    | succ n ih =>
      intro k hk hn
      by_cases c : k < xs.length
      · obtain ⟨x, hx⟩ := lt_get c
        rw [h1 n k x _ hx rfl]
        have e : f ((xs.take k).foldl f s0) x = (xs.take (k + 1)).foldl f s0 := by
          rw [List.take_add_one, hx]; simp
        rw [e]
        exact ih (k + 1) (by omega) (by omega)
      · have : k = xs.length := by omega
        subst this
        rw [List.take_length]
        exact h0 n _ rfl
  have := key FU 0 (by omega) (by unfold FU; omega)
  simpa using this
/-! bytes as a row -/
def bl (s : ByteArray) : List UInt8 := s.data.toList
theorem bl_len (s : ByteArray) : (bl s).length = s.size := by unfold bl; rw [Array.length_toList]; rfl
theorem bl_inj {s t : ByteArray} (h : bl s = bl t) : s = t := by
  obtain ⟨a⟩ := s
  obtain ⟨b⟩ := t
  have h' : a.toList = b.toList := h
  rw [Array.toList_inj.1 h']
theorem bl_app (s t : ByteArray) : bl (s ++ t) = bl s ++ bl t := by unfold bl; rw [ByteArray.data_append]; simp
theorem bl_ext (s : ByteArray) (a b : Nat) : bl (s.extract a b) = ((bl s).drop a).take (b - a) := by
  unfold bl; rw [ByteArray.data_extract, Array.toList_extract]
theorem getB_bl {s : ByteArray} {i : Nat} {b : UInt8} (h : (bl s)[i]? = some b) : getB s (i : Int) = some b := by
  have hi := ltN h
  rw [bl_len] at hi
  unfold getB
  rw [if_pos (by omega), Int.toNat_natCast, getElem?_pos s i hi]
  congr 1
  obtain ⟨h1, h2⟩ := List.getElem?_eq_some_iff.1 h
  rw [← h2]; simp [bl]; rfl
theorem sz_bl {s : ByteArray} {i : Nat} {b : UInt8} (h : (bl s)[i]? = some b) : (i : Int) < (s.size : Int) := by
  have hi := ltN h
  rw [bl_len] at hi; omega
/-- bytes from a place on, as long as they pass -/
def runE (p : UInt8 → Bool) (s : ByteArray) (i : Nat) : Nat := i + (((bl s).drop i).takeWhile p).length
theorem run_loop {ρ : Type} (L : Nat → Int → Option ρ) (s : ByteArray) (p : UInt8 → Bool) (r : Int → ρ) (hB : s.size ≤ 4194303)
    (h0 : ∀ n, L (n + 1) (s.size : Int) = some (r s.size))
    (h1 : ∀ n (i : Nat) b, (bl s)[i]? = some b → p b = true → L (n + 1) (i : Int) = L n ((i + 1 : Nat) : Int))
    (h2 : ∀ n (i : Nat) b, (bl s)[i]? = some b → p b = false → L (n + 1) (i : Int) = some (r i)) (k : Nat) (hk : k ≤ s.size) : L FU (k : Int) = some (r (runE p s k : Nat)) := by
  have hl := bl_len s
  have key : ∀ (n k : Nat), k ≤ s.size → s.size - k < n → L n (k : Int) = some (r (runE p s k : Nat)) := by
    intro n
    induction n with
    | zero => intro k hk hn; omega
    | succ n ih =>
      intro k hk hn
      unfold runE
      by_cases c : k < s.size
      · obtain ⟨x, hx⟩ := lt_get (xs := bl s) (i := k) (by omega)
        rw [drop_some hx]
        cases hp : p x with
        | true =>
          rw [h1 n k x hx hp, ih (k + 1) (by omega) (by omega), List.takeWhile_cons_of_pos hp]
          unfold runE
          simp only [List.length_cons]
          congr 3; omega
        | false => rw [h2 n k x hx hp, List.takeWhile_cons_of_neg (by simp [hp])]; rfl
      · have : k = s.size := by omega
        subst this
        rw [h0 n, ← hl, List.drop_length]; rfl
  exact key FU k hk (by unfold FU; omega)
theorem runE_ge (p : UInt8 → Bool) (s : ByteArray) (i : Nat) : i ≤ runE p s i := by unfold runE; omega
theorem runE_le (p : UInt8 → Bool) (s : ByteArray) (i : Nat) (h : i ≤ s.size) : runE p s i ≤ s.size := by
  unfold runE
  have h1 := (List.takeWhile_prefix p (l := (bl s).drop i)).length_le
  rw [List.length_drop, bl_len] at h1
  omega
theorem runE_ext (p : UInt8 → Bool) (s : ByteArray) (i : Nat) : bl (s.extract i (runE p s i)) = ((bl s).drop i).takeWhile p := by
  rw [bl_ext]
  unfold runE
  rw [Nat.add_sub_cancel_left]
  exact (List.prefix_iff_eq_take.1 (List.takeWhile_prefix p)).symm
end Go.Pv

namespace Go.Pv
set_option maxRecDepth 100000
set_option maxHeartbeats 4000000
set_option linter.unusedSimpArgs false
set_option linter.unusedVariables false
/-- trees: how much they weigh -/
theorem eta_N (x : T_Node) : (⟨x.op_, x.s_, x.n_, x.kids_⟩ : T_Node) = x := by cases x; rfl
mutual
def wN : T_Node → Nat
  | ⟨_, s, _, ks⟩ => s.size + sN ks
def sN : List T_Node → Nat
  | [] => 0
  | x :: l => 1 + wN x + sN l
end
theorem wN_eq (x : T_Node) : wN x = x.s_.size + sN x.kids_ := by cases x; simp [wN]
theorem sN_app (a b : List T_Node) : sN (a ++ b) = sN a + sN b := by
  induction a with
  | nil => simp [sN]
  | cons x l ih => simp [sN, ih]; omega
theorem sN_take {l : List T_Node} {i : Nat} (h : i < l.length) : sN (l.take (i + 1)) = sN (l.take i) + 1 + wN l[i] := by
  rw [List.take_add_one, List.getElem?_eq_getElem h, sN_app]; simp [sN]; omega
theorem sN_take_le (l : List T_Node) (i : Nat) : sN (l.take i) ≤ sN l := by
  have h := sN_app (l.take i) (l.drop i)
  rw [List.take_append_drop] at h; omega
theorem sN_mem {l : List T_Node} {x : T_Node} (h : x ∈ l) : 1 + wN x ≤ sN l := by
  induction l with
  | nil => cases h
  | cons y l ih =>
    simp only [sN]
    rcases List.mem_cons.1 h with rfl | h
    · omega
    · have := ih h; omega
theorem sN_len (l : List T_Node) : l.length ≤ sN l := by
  induction l with
  | nil => simp
  | cons y l ih => simp [sN]; omega
/-! trees: how many nodes, how deep -/
mutual
def szT : T_Node → Nat
  | ⟨_, _, _, ks⟩ => 1 + szL ks
def szL : List T_Node → Nat
  | [] => 0
  | x :: l => szT x + szL l
end
mutual
def dpT : T_Node → Nat
  | ⟨_, _, _, ks⟩ => dpL ks + 1
def dpL : List T_Node → Nat
  | [] => 0
  | x :: l => max (dpT x) (dpL l)
end
theorem szT_eq (x : T_Node) : szT x = 1 + szL x.kids_ := by cases x; simp [szT]
theorem dpT_eq (x : T_Node) : dpT x = dpL x.kids_ + 1 := by cases x; simp [dpT]
mutual
theorem szT_le : ∀ x : T_Node, szT x ≤ 1 + wN x
  | ⟨_, s, _, ks⟩ => by have := szL_le ks; simp only [szT, wN]; omega
theorem szL_le : ∀ l : List T_Node, szL l ≤ sN l
  | [] => by simp [szL, sN]
  | x :: l => by have := szT_le x; have := szL_le l; simp only [szL, sN]; omega
end
mutual
theorem dpT_le : ∀ x : T_Node, dpT x ≤ 1 + wN x
  | ⟨_, s, _, ks⟩ => by have := dpL_le ks; simp only [dpT, wN]; omega
theorem dpL_le : ∀ l : List T_Node, dpL l ≤ sN l
  | [] => by simp [dpL, sN]
  | x :: l => by have := dpT_le x; have := dpL_le l; simp only [dpL, sN]; omega
end
theorem szL_app (a b : List T_Node) : szL (a ++ b) = szL a + szL b := by
  induction a with
  | nil => simp [szL]
  | cons x l ih => simp [szL, ih]; omega
theorem fold_sz : ∀ (l : List T_Node) (t : Int), l.foldl (fun t x => t + (szT x : Int)) t = t + szL l
  | [], t => by simp [szL]
  | x :: l, t => by rw [List.foldl_cons, fold_sz l]; simp [szL]; omega
theorem fold_dp : ∀ (l : List T_Node) (t : Nat), l.foldl (fun t x => ((max t.toNat (dpT x) : Nat) : Int)) (t : Int) = ((max t (dpL l) : Nat) : Int)
  | [], t => by simp [dpL]
  | x :: l, t => by
    rw [List.foldl_cons, Int.toNat_natCast, fold_dp l]
    simp only [dpL, Nat.max_assoc]
theorem dpL_take (l : List T_Node) (i : Nat) : dpL (l.take i) ≤ dpL l := by
  induction l generalizing i with
  | nil => simp
  | cons x l ih =>
    cases i with
    | zero => simp [dpL]
    | succ i => simp only [List.take_succ_cons, dpL]; have := ih i; omega
theorem szL_take (l : List T_Node) (i : Nat) : szL (l.take i) ≤ szL l := by
  have := szL_app (l.take i) (l.drop i)
  rw [List.take_append_drop] at this; omega
theorem szL_mem {l : List T_Node} {x : T_Node} (h : x ∈ l) : szT x ≤ szL l := by
  induction l with
  | nil => cases h
  | cons y l ih =>
    simp only [szL]
    rcases List.mem_cons.1 h with rfl | h
    · omega
    · have := ih h; omega
theorem dpL_mem {l : List T_Node} {x : T_Node} (h : x ∈ l) : dpT x ≤ dpL l := by
  induction l with
  | nil => cases h
  | cons y l ih =>
    simp only [dpL]
    rcases List.mem_cons.1 h with rfl | h
    · omega
    · have := ih h; omega
theorem szL_take1 {l : List T_Node} {i : Nat} {x : T_Node} (h : l[i]? = some x) : szL (l.take i) + szT x ≤ szL l := by
  have h1 := szL_take l (i + 1)
  rw [List.take_add_one, h, szL_app] at h1
  simp only [Option.toList_some, szL] at h1; omega
theorem s_Size : ∀ (n : Nat) (op : Int) (s : ByteArray) (k : Int) (ks : List T_Node), sN ks < n → sN ks ≤ 1048576 → Fs_Sizen n op s k ks = some ((1 + szL ks : Nat) : Int) := by
  intro n
  induction n with
  | zero => intro op s k ks h; omega
  | succ n ih =>
    intro op s k ks h h1
    have hl := sN_len ks
    have hs := szL_le ks
    show Ss_Size (Fs_Sizen n) op s k ks = _
    unfold Ss_Size
    rw [fold_loop (fun m t i => Ls_Size_0 (Fs_Sizen n) m t i op s k ks) ks (fun t x => t + (szT x : Int)) id 1 (by omega)
      (by intro m t _; simp only [Ls_Size_0]; rw [if_neg (by omega)]; rfl)
      (by
        intro m i x t hx ht
        have hm := sN_mem (List.mem_of_getElem? hx)
        have hw := wN_eq x
        have hi := ltN hx
        have h2 := szL_take1 hx
        rw [fold_sz] at ht
        simp only [Ls_Size_0]
        rw [if_pos (ltI hx), getI_n hx, bS_s, ih _ _ _ _ (by omega) (by omega), bS_s, wrI (by omega), ← szT_eq, wrap64_id _ (by omega) (by omega)]), bS_s]
    simp only [id, fold_sz]; congr 1
theorem i_Size : ∀ (n : Nat) (op : Int) (s : ByteArray) (k : Int) (ks : List T_Node), sN ks < n → sN ks ≤ 1048576 → Fi_Sizen n op s k ks = some ((1 + szL ks : Nat) : Int) := by
  intro n
  induction n with
  | zero => intro op s k ks h; omega
  | succ n ih =>
    intro op s k ks h h1
    have hl := sN_len ks
    have hs := szL_le ks
    show Si_Size (Fi_Sizen n) op s k ks = _
    unfold Si_Size
    rw [fold_loop (fun m t i => Li_Size_0 (Fi_Sizen n) m t ks ks.length i) ks (fun t x => t + (szT x : Int)) id 1 (by omega)
      (by intro m t _; simp only [Li_Size_0]; rw [if_neg (by omega)]; rfl)
      (by
        intro m i x t hx ht
        have hm := sN_mem (List.mem_of_getElem? hx)
        have hw := wN_eq x
        have hi := ltN hx
        have h2 := szL_take1 hx
        rw [fold_sz] at ht
        simp only [Li_Size_0]
        rw [if_pos (ltI hx), getI_n hx, bS_s, ih _ _ _ _ (by omega) (by omega), bS_s, wrI (by omega), ← szT_eq, wrap64_id _ (by omega) (by omega)]), bS_s]
    simp only [id, fold_sz]; congr 1
theorem s_max (a b : Nat) : Fs_l1Max (a : Int) (b : Int) = some ((max a b : Nat) : Int) := by
  unfold Fs_l1Max
  split <;> (congr 1; omega)
theorem s_Deep : ∀ (n : Nat) (op : Int) (s : ByteArray) (k : Int) (ks : List T_Node), sN ks < n → sN ks ≤ 1048576 → Fs_Deepn n op s k ks = some ((dpL ks + 1 : Nat) : Int) := by
  intro n
  induction n with
  | zero => intro op s k ks h; omega
  | succ n ih =>
    intro op s k ks h h1
    have hl := sN_len ks
    have hs := dpL_le ks
    show Ss_Deep (Fs_Deepn n) op s k ks = _
    unfold Ss_Deep
    rw [fold_loop (fun m t i => Ls_Deep_0 (Fs_Deepn n) m t i op s k ks) ks (fun t x => ((max t.toNat (dpT x) : Nat) : Int)) id 0 (by omega)
      (by intro m t _; simp only [Ls_Deep_0]; rw [if_neg (by omega)]; rfl)
      (by
        intro m i x t hx ht
        have hm := sN_mem (List.mem_of_getElem? hx)
        have hw := wN_eq x
        have hi := ltN hx
        have ht' : t = ((max 0 (dpL (ks.take i)) : Nat) : Int) := by rw [ht]; exact fold_dp _ 0
        simp only [Ls_Deep_0]
        rw [if_pos (ltI hx), getI_n hx, bS_s, ih _ _ _ _ (by omega) (by omega), bS_s, wrI (by omega), ← dpT_eq, ht', s_max, bS_s, Int.toNat_natCast]), bS_s]
    have := fold_dp ks 0
    rw [show ((0 : Nat) : Int) = 0 from rfl] at this
    simp only [id, this]
    rw [wrap64_id _ (by omega) (by omega)]
    congr 1
theorem i_Deep : ∀ (n : Nat) (op : Int) (s : ByteArray) (k : Int) (ks : List T_Node), sN ks < n → sN ks ≤ 1048576 → Fi_Deepn n op s k ks = some ((dpL ks + 1 : Nat) : Int) := by
  intro n
  induction n with
  | zero => intro op s k ks h; omega
  | succ n ih =>
    intro op s k ks h h1
    have hl := sN_len ks
    have hs := dpL_le ks
    show Si_Deep (Fi_Deepn n) op s k ks = _
    unfold Si_Deep
    rw [fold_loop (fun m t i => Li_Deep_0 (Fi_Deepn n) m t ks ks.length i) ks (fun t x => ((max t.toNat (dpT x) : Nat) : Int)) id 0 (by omega)
      (by intro m t _; simp only [Li_Deep_0]; rw [if_neg (by omega)]; rfl)
      (by
        intro m i x t hx ht
        have hm := sN_mem (List.mem_of_getElem? hx)
        have hw := wN_eq x
        have hi := ltN hx
        have ht' : t = ((max 0 (dpL (ks.take i)) : Nat) : Int) := by rw [ht]; exact fold_dp _ 0
        simp only [Li_Deep_0]
        rw [if_pos (ltI hx), getI_n hx, bS_s, ih _ _ _ _ (by omega) (by omega), bS_s, wrI (by omega), ← dpT_eq, ht', Int.toNat_natCast]
        split
        · congr 1; omega
        · congr 1; omega), bS_s]
    have := fold_dp ks 0
    rw [show ((0 : Nat) : Int) = 0 from rfl] at this
    simp only [id, this]
    rw [wrap64_id _ (by omega) (by omega)]
    congr 1
/-! what kids a node may have -/

theorem fold_app {τ : Type} : ∀ (l a : List τ), l.foldl (fun acc x => acc ++ [x]) a = a ++ l
  | [], a => by simp
  | x :: l, a => by rw [List.foldl_cons, fold_app l]; simp
theorem s_copy : ∀ (n : Nat) (op : Int) (s : ByteArray) (k : Int) (ks : List T_Node), sN ks < n → sN ks ≤ 1048576 → Fs_l12Copyn n op s k ks = some (op, s, k, ks) := by
  intro n
  induction n with
  | zero => intro op s k ks h; omega
  | succ n ih =>
    intro op s k ks h h1
    have hl := sN_len ks
    show Ss_l12Copy (Fs_l12Copyn n) op s k ks = _
    unfold Ss_l12Copy
    rw [fold_loop (fun m (acc : List T_Node) i => Ls_l12Copy_0 (Fs_l12Copyn n) m i op s k ks 0 (⟨#[]⟩ : ByteArray) 0 [] op s k acc) ks (fun acc x => acc ++ [x]) id [] (by omega)
      (by intro m t _; simp only [Ls_l12Copy_0]; rw [if_neg (by omega)]; rfl)
      (by
        intro m i x t hx ht
        have hm := sN_mem (List.mem_of_getElem? hx)
        have hw := wN_eq x
        have hi := ltN hx
        rw [fold_app, List.nil_append] at ht
        have htl : t.length ≤ ks.length := by rw [ht, List.length_take]; omega
        simp only [Ls_l12Copy_0]
        rw [if_pos (ltI hx), getI_n hx, bS_s, ih _ _ _ _ (by omega) (by omega), bS_s]
        simp only
        rw [if_pos (lim_le (by simp only [maxB]; omega)), wrI (by omega), eta_N]), bS_s]
    simp only [fold_app, id, List.nil_append]
end Go.Pv

namespace Go.Pv
set_option maxRecDepth 1000000
set_option maxHeartbeats 4000000
/-- the twelve programs are trees -/
def prgs : List ByteArray := Fs_l11Programs.getD []
def okP (s : ByteArray) : Bool := match Fs_Parse s with
  | some (_, t, _, ks, _) => decide (t.size ≤ 100) && decide (sN ks ≤ 4000) && decide (ks.length ≤ 200)
  | none => false
theorem p_0 : okP (prgs.getD 0 ⟨#[]⟩) = true := by decide +kernel
end Go.Pv

namespace Go.Pv
set_option maxRecDepth 100000
set_option maxHeartbeats 4000000
set_option linter.unusedSimpArgs false
set_option linter.unusedVariables false
/-- what is drawn: a tree, and not a great one -/
theorem prgs_ok : prgs.all okP = true := by decide +kernel
theorem prgs_len : prgs.length = 12 := by decide +kernel
theorem progs_eq : Fs_l11Programs = some prgs := rfl
theorem s_byte (c : List Int) (i h : Int) (h0 : 0 ≤ i) (hc : c.length ≤ 1048576) : ∃ r i' h', Fs_l1Byte c i h = some (r, i', h') ∧ 0 ≤ r ∧ r < 256 ∧ 0 ≤ i' := by
  unfold Fs_l1Byte
  by_cases d : i < (c.length : Int)
  · rw [if_pos d]
    obtain ⟨n, rfl⟩ : ∃ n : Nat, i = n := ⟨i.toNat, by omega⟩
    obtain ⟨x, hx⟩ := lt_get (xs := c) (i := n) (by omega)
    rw [getI_n hx, bS_s]
    refine ⟨_, _, _, rfl, ?_, ?_, ?_⟩
    · exact Int.emod_nonneg _ (by decide)
    · exact Int.emod_lt_of_pos _ (by decide)
    · rw [wrI (by omega)]; omega
  · rw [if_neg d]; exact ⟨_, _, _, rfl, Int.emod_nonneg _ (by decide), Int.emod_lt_of_pos _ (by decide), h0⟩
theorem s_below (n : Nat) (c : List Int) (i h : Int) (h0 : 0 ≤ i) (hc : c.length ≤ 1048576) (hn : 1 ≤ n) (hn2 : n ≤ 256) : ∃ (r : Nat) (i' h' : Int), Fs_l1Below (n : Int) c i h = some ((r : Int), i', h') ∧ r < n ∧ 0 ≤ i' := by
  unfold Fs_l1Below
  rw [if_neg (by omega), if_pos (by omega)]
  obtain ⟨r, i', h', e, h1, h2, h3⟩ := s_byte c i h h0 hc
  rw [e, bS_s]
  simp only
  rw [if_neg (by omega), Int.tmod_eq_emod_of_nonneg h1]
  have g1 := Int.emod_nonneg r (show (n : Int) ≠ 0 by omega)
  have g2 := Int.emod_lt_of_pos r (show (0 : Int) < n by omega)
  refine ⟨(r % (n : Int)).toNat, i', h', ?_, by omega, h3⟩
  rw [Int.toNat_of_nonneg g1]
theorem s_pick (xs : List ByteArray) (c : List Int) (i h : Int) (h0 : 0 ≤ i) (hc : c.length ≤ 1048576) (hn : 1 ≤ xs.length) (hn2 : xs.length ≤ 256) : ∃ x ∈ xs, ∃ (i' h' : Int), Fs_l1Pick xs c i h = some (x, i', h') ∧ 0 ≤ i' := by
  unfold Fs_l1Pick
  obtain ⟨r, i', h', e, h1, h2⟩ := s_below xs.length c i h h0 hc hn hn2
  obtain ⟨x, hx⟩ := lt_get h1
  rw [e, bS_s]
  simp only
  rw [getI_n hx, bS_s]
  exact ⟨x, List.mem_of_getElem? hx, i', h', rfl, h2⟩
theorem s_pickInt (xs : List Int) (c : List Int) (i h : Int) (h0 : 0 ≤ i) (hc : c.length ≤ 1048576) (hn : 1 ≤ xs.length) (hn2 : xs.length ≤ 256) : ∃ (x i' h' : Int), Fs_l1PickInt xs c i h = some (x, i', h') ∧ 0 ≤ i' := by
  unfold Fs_l1PickInt
  obtain ⟨r, i', h', e, h1, h2⟩ := s_below xs.length c i h h0 hc hn hn2
  obtain ⟨x, hx⟩ := lt_get h1
  rw [e, bS_s]
  simp only
  rw [getI_n hx, bS_s]
  exact ⟨x, i', h', rfl, h2⟩
theorem s_node (c : List Int) (i h : Int) (h0 : 0 ≤ i) (hc : c.length ≤ 1048576) : ∃ (op : Int) (s : ByteArray) (n : Int) (ks : List T_Node) (i' h' : Int), Fs_l12DrawNode c i h = some (op, s, n, ks, i', h') ∧ s.size ≤ 100 ∧ sN ks ≤ 4000 ∧ ks.length ≤ 200 ∧ 0 ≤ i' := by
  unfold Fs_l12DrawNode Fs_l11DrawSource
  obtain ⟨x, hx, i', h', e, h1⟩ := s_pick prgs c i h h0 hc (by rw [prgs_len]; decide) (by rw [prgs_len]; decide)
  rw [progs_eq, bS_s, e, bS_s, bS_s]
  simp only
  have ho := List.all_eq_true.1 prgs_ok x hx
  unfold okP at ho
  cases hp : Fs_Parse x with
  | none => rw [hp] at ho; cases ho
  | some q =>
    obtain ⟨op, s, n, ks, a⟩ := q
    rw [hp] at ho
    simp only [Bool.and_eq_true, decide_eq_true_eq] at ho
    rw [bS_s]
    simp only
    by_cases d : 0 ≤ a
    · rw [if_pos d]; exact ⟨_, _, _, _, _, _, rfl, by decide, by simp [sN], by simp, h1⟩
    · rw [if_neg d]; exact ⟨_, _, _, _, _, _, rfl, ho.1.1, ho.1.2, ho.2, h1⟩
theorem sN_set : ∀ (l : List T_Node) (i : Nat) (y : T_Node), sN (l.set i y) ≤ sN l + 1 + wN y
  | [], i, y => by simp [sN]
  | x :: l, 0, y => by simp only [List.set_cons_zero, sN]; omega
  | x :: l, i + 1, y => by
    have := sN_set l i y
    simp only [List.set_cons_succ, sN]; omega
theorem s_bad (c : List Int) (i h : Int) (h0 : 0 ≤ i) (hc : c.length ≤ 1048576) : ∃ (op : Int) (s : ByteArray) (n : Int) (ks : List T_Node) (i' h' : Int), Fs_l12DrawBad c i h = some (op, s, n, ks, i', h') ∧ sN ks ≤ 20000 := by
  unfold Fs_l12DrawBad
  obtain ⟨op, s, n, ks, i1, h1, e1, b1, b2, b3, b4⟩ := s_node c i h h0 hc
  have e2 : Fs_l12Copy op s n ks = some (op, s, n, ks) := s_copy FU op s n ks (by unfold FU; omega) (by omega)
  rw [e1, bS_s]
  simp only
  rw [e2, bS_s]
  simp only
  by_cases d : (ks.length : Int) = 0
  · rw [if_pos d]; exact ⟨_, _, _, _, _, _, rfl, by omega⟩
  rw [if_neg d]
  obtain ⟨k, i2, h2, e3, b5, b6⟩ := s_below ks.length c i1 h1 b4 hc (by omega) (by omega)
  rw [e3, bS_s]
  simp only
  obtain ⟨w, i3, h3, e4, b7, b8⟩ := s_below 12 c i2 h2 b6 hc (by omega) (by omega)
  rw [show ((12 : Nat) : Int) = 12 from rfl] at e4
  rw [e4, bS_s]
  simp only
  obtain ⟨x, hx⟩ := lt_get b5
  have hm := sN_mem (List.mem_of_getElem? hx)
  have hwx := wN_eq x
  have hset : ∀ y : T_Node, wN y ≤ 10000 → sN (ks.set (k : Int).toNat y) ≤ 20000 := fun y hy => by have := sN_set ks (k : Int).toNat y; omega
  by_cases c0 : (w : Int) = 0
  · rw [if_pos c0]
    obtain ⟨v, i4, h4, e5, _, _⟩ := s_below 30 c i3 h3 b8 hc (by omega) (by omega)
    rw [show ((30 : Nat) : Int) = 30 from rfl] at e5
    rw [e5, bS_s]
    simp only
    rw [getI_n hx, bS_s]
    exact ⟨_, _, _, _, _, _, rfl, hset _ (by simp only [wN]; omega)⟩
  rw [if_neg c0]
  by_cases c1 : (w : Int) = 1
  · rw [if_pos c1]
    obtain ⟨z, hz, i4, h4, e5, _⟩ := s_pick ([(⟨#[]⟩ : ByteArray), (⟨#[120]⟩ : ByteArray), (⟨#[108, 101, 116]⟩ : ByteArray), (⟨#[112, 114, 111, 116, 111]⟩ : ByteArray), (⟨#[97, 32, 98]⟩ : ByteArray), (⟨#[49]⟩ : ByteArray)]) c i3 h3 b8 hc (by decide) (by decide)
    have hzs : z.size ≤ 5 := by
      have : ([(⟨#[]⟩ : ByteArray), (⟨#[120]⟩ : ByteArray), (⟨#[108, 101, 116]⟩ : ByteArray), (⟨#[112, 114, 111, 116, 111]⟩ : ByteArray), (⟨#[97, 32, 98]⟩ : ByteArray), (⟨#[49]⟩ : ByteArray)].all fun z => decide (z.size ≤ 5)) = true := by decide
      simpa using List.all_eq_true.1 this z hz
    rw [e5, bS_s]
    simp only
    rw [getI_n hx, bS_s]
    exact ⟨_, _, _, _, _, _, rfl, hset _ (by simp only [wN]; omega)⟩
  rw [if_neg c1]
  by_cases c2 : (w : Int) = 2
  · rw [if_pos c2, getI_n hx, bS_s]
    exact ⟨_, _, _, _, _, _, rfl, hset _ (by simp only [wN]; omega)⟩
  rw [if_neg c2]
  by_cases c3 : (w : Int) = 3
  · have hl := sN_len x.kids_
    have hg : getI (x.kids_ ++ ([(⟨0, (⟨#[]⟩ : ByteArray), 0, []⟩ : T_Node)])) (x.kids_.length : Int) = some ⟨0, ⟨#[]⟩, 0, []⟩ := getI_n (by simp)
    rw [if_pos c3, getI_n hx, bS_s, if_pos (lim_le (by simp only [maxB]; omega)), hg, bS_s]
    refine ⟨_, _, _, _, _, _, rfl, hset _ ?_⟩
    simp only [wN, sN_app, sN]
    have : (⟨#[]⟩ : ByteArray).size = 0 := rfl
    omega
  rw [if_neg c3]
  by_cases c4 : (w : Int) = 4
  · rw [if_pos c4]
    obtain ⟨v, i4, h4, e5, _, _⟩ := s_below 28 c i3 h3 b8 hc (by omega) (by omega)
    rw [show ((28 : Nat) : Int) = 28 from rfl] at e5
    rw [e5, bS_s]
    exact ⟨_, _, _, _, _, _, rfl, by omega⟩
  rw [if_neg c4]
  by_cases c5 : (w : Int) = 5
  · rw [if_pos c5]
    unfold Fs_l1DrawNum
    obtain ⟨v, i4, h4, e5, _⟩ := s_pickInt [0, 1, 2, (-1), (-5), 77, 1999, 2000, 2147483647, 2147483648, (-2147483648), (-2147483649), 4294967296, 9223372036854775807, (-9223372036854775808)] c i3 h3 b8 hc (by decide) (by decide)
    rw [e5, bS_s, bS_s]
    simp only
    rw [if_pos (lim_le (by simp only [maxB]; omega))]
    refine ⟨_, _, _, _, _, _, rfl, ?_⟩
    rw [sN_app]
    simp only [sN, wN]
    have : (⟨#[]⟩ : ByteArray).size = 0 := rfl
    omega
  rw [if_neg c5]
  exact ⟨_, _, _, _, _, _, rfl, by omega⟩
theorem s_new (c : List Int) (hc : c.length ≤ 1048576) : ∃ h, Fs_l1New c = some (c, 0, h) := by
  have key : ∀ (m i : Nat) (h : Int), i ≤ c.length → c.length - i < m → ∃ r, Ls_l1New_0 m c h i = some r := by
    intro m
    induction m with
    | zero => intro i h _ hm; omega
    | succ m ih =>
      intro i h hi hm
      simp only [Ls_l1New_0]
      by_cases d : (i : Int) < (c.length : Int)
      · rw [if_pos d]
        by_cases d2 : (i : Int) < 4000
        · obtain ⟨x, hx⟩ := lt_get (xs := c) (i := i) (by omega)
          rw [if_pos d2, getI_n hx, bS_s, wrI (by omega)]
          exact ih (i + 1) _ (by omega) (by omega)
        · rw [if_neg d2]; exact ⟨_, rfl⟩
      · rw [if_neg d]; exact ⟨_, rfl⟩
  unfold Fs_l1New
  obtain ⟨r, e⟩ := key FU 0 (IntKind.i64.wrap (18961 + (c.length : Int))) (by omega) (by unfold FU; omega)
  rw [show ((0 : Nat) : Int) = 0 from rfl] at e
  rw [e, bS_s]
  exact ⟨r, rfl⟩
theorem s_drawSize (c : List Int) (hc : c.length ≤ 1048576) : ∃ (op : Int) (s : ByteArray) (n : Int) (ks : List T_Node), Fs_DrawSize c = some (op, s, n, ks) ∧ sN ks ≤ 20000 := by
  unfold Fs_DrawSize
  obtain ⟨h, e⟩ := s_new c hc
  obtain ⟨op, s, n, ks, i', h', e2, hb⟩ := s_bad c 0 h (Int.le_refl _) hc
  rw [e, bS_s]
  simp only
  rw [e2, bS_s]
  exact ⟨_, _, _, _, rfl, hb⟩
theorem s_drawDeep (c : List Int) (hc : c.length ≤ 1048576) : ∃ (op : Int) (s : ByteArray) (n : Int) (ks : List T_Node), Fs_DrawDeep c = some (op, s, n, ks) ∧ sN ks ≤ 20000 := by
  unfold Fs_DrawDeep
  obtain ⟨h, e⟩ := s_new c hc
  obtain ⟨op, s, n, ks, i', h', e2, hb⟩ := s_bad c 0 h (Int.le_refl _) hc
  rw [e, bS_s]
  simp only
  rw [e2, bS_s]
  exact ⟨_, _, _, _, rfl, hb⟩
theorem dpL_app : ∀ a b : List T_Node, dpL (a ++ b) = max (dpL a) (dpL b)
  | [], b => by simp [dpL]
  | x :: a, b => by simp only [List.cons_append, dpL, dpL_app a b, Nat.max_assoc]
theorem w_loop (c : List Int) (op : Int) (s : ByteArray) (n : Int) (ks : List T_Node) (hk : sN ks ≤ 20000) : Lw_FnTrees_0 FU c 1 0 0 op s n ks = some (((1 + szL ks : Nat) : Int), ((dpL ks : Nat) : Int)) := by
  have hl := sN_len ks
  obtain ⟨r, e, hr⟩ := inv_loop (fun m (t : Int × Int) i => Lw_FnTrees_0 m c t.1 t.2 i op s n ks) ks.length (fun i t => t = (((1 + szL (ks.take i) : Nat) : Int), ((dpL (ks.take i) : Nat) : Int))) (fun r => r = (((1 + szL ks : Nat) : Int), ((dpL ks : Nat) : Int))) (by omega)
    (by
      intro m i t hi c3 ht
      subst ht
      refine ⟨_, ?_, rfl⟩
      simp only [Lw_FnTrees_0]
      rw [if_neg (by omega), List.take_of_length_le (by omega)])
    (by
      intro m i t c3 ht
      subst ht
      have hx := List.getElem?_eq_getElem c3
      have hm := sN_mem (List.getElem_mem c3)
      have hw := wN_eq ks[i]
      have hs := szL_le ks
      have hst := szL_take1 hx
      have hdt := dpL_take ks i
      have hdl := dpL_le ks
      have hd1 := dpL_mem (List.getElem_mem c3)
      have e1 : Fi_Size ks[i].op_ ks[i].s_ ks[i].n_ ks[i].kids_ = some ((szT ks[i] : Nat) : Int) := by rw [szT_eq]; exact i_Size FU _ _ _ _ (by unfold FU; omega) (by omega)
      have e2 : Fi_Deep ks[i].op_ ks[i].s_ ks[i].n_ ks[i].kids_ = some ((dpT ks[i] : Nat) : Int) := by rw [dpT_eq]; exact i_Deep FU _ _ _ _ (by unfold FU; omega) (by omega)
      have h1 : szL (ks.take (i + 1)) = szL (ks.take i) + szT ks[i] := by rw [List.take_add_one, hx, szL_app]; simp [szL]
      have h2 : dpL (ks.take (i + 1)) = max (dpL (ks.take i)) (dpT ks[i]) := by rw [List.take_add_one, hx, dpL_app]; simp [dpL]
      refine .inl ⟨_, ?_, rfl⟩
      simp only [Lw_FnTrees_0]
      rw [if_pos (by omega), getI_n hx, bS_s, e1, bS_s, e2, bS_s, wrI (by omega), wrap64_id _ (by omega) (by omega), h1, h2]
      have a1 : (((1 + szL (ks.take i) : Nat) : Int) + ((szT ks[i] : Nat) : Int)) = ((1 + (szL (ks.take i) + szT ks[i]) : Nat) : Int) := by omega
      rw [a1]
      by_cases d : ((dpL (ks.take i) : Nat) : Int) < ((dpT ks[i] : Nat) : Int)
      · rw [if_pos d]
        have : max (dpL (ks.take i)) (dpT ks[i]) = dpT ks[i] := by omega
        rw [this]
      · rw [if_neg d]
        have : max (dpL (ks.take i)) (dpT ks[i]) = dpL (ks.take i) := by omega
        rw [this]) (1, 0) (by simp [szL, dpL])
  rw [e, hr]
theorem Trees_all (c : List Int) : Fw_FnTrees c = some true := by
  unfold Fw_FnTrees Fw_big
  rw [bS_s]
  by_cases d : 1048576 < (c.length : Int)
  · rw [if_pos (by simpa using d)]
  rw [if_neg (by simpa using d)]
  have hc : c.length ≤ 1048576 := by omega
  obtain ⟨op, s, n, ks, e1, b1⟩ := s_drawSize c hc
  obtain ⟨op2, s2, n2, ks2, e2, b2⟩ := s_drawDeep c hc
  have hd := dpL_le ks
  have a1 : Fi_Size op s n ks = some ((1 + szL ks : Nat) : Int) := i_Size FU op s n ks (by unfold FU; omega) (by omega)
  have a2 : Fi_Deep op s n ks = some ((dpL ks + 1 : Nat) : Int) := i_Deep FU op s n ks (by unfold FU; omega) (by omega)
  have a3 : Fi_Deep op2 s2 n2 ks2 = some ((dpL ks2 + 1 : Nat) : Int) := i_Deep FU op2 s2 n2 ks2 (by unfold FU; omega) (by omega)
  have a4 : Fs_Deep op2 s2 n2 ks2 = some ((dpL ks2 + 1 : Nat) : Int) := s_Deep FU op2 s2 n2 ks2 (by unfold FU; omega) (by omega)
  have a5 : Fi_Size op2 s2 n2 ks2 = some ((1 + szL ks2 : Nat) : Int) := i_Size FU op2 s2 n2 ks2 (by unfold FU; omega) (by omega)
  have a6 : Fs_Size op2 s2 n2 ks2 = some ((1 + szL ks2 : Nat) : Int) := s_Size FU op2 s2 n2 ks2 (by unfold FU; omega) (by omega)
  rw [e1, bS_s]
  simp only
  rw [w_loop c op s n ks b1, bS_s]
  simp only
  rw [e2, bS_s]
  simp only
  rw [a1, bS_s, if_pos rfl, a2, bS_s, wrI (by omega), if_pos rfl, a3, bS_s, a4, bS_s, if_pos rfl, a5, bS_s, a6, bS_s]
  simp
end Go.Pv
