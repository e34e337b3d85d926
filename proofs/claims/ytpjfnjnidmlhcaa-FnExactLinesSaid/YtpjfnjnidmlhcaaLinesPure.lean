/- The law FnExactLines, of whatever outcome: the reference's Lines and the program's come to the same text. No condition. -/
import Derived.Test.YtpjfnjnidmlhcaaXFnExactLines2
import Derived.Test.YtpjfnjnidmlhcaaLinesStr
namespace Go.Proofs.Ytpjfnjnidmlhcaa.XFnExactLines
open Go.RowKit Go.Proofs.YtpjfnjnidmlhcaaW.PrintWords Go.Proofs.Ytpjfnjnidmlhcaa.Pl
set_option linter.unusedVariables false

def out (l : List ByteArray) : List UInt8 := l.flatMap fun s => s.data.toList ++ [10]
theorem out_take (l : List ByteArray) (i : Nat) (h : i < l.length) : out (l.take (i + 1)) = out (l.take i) ++ (l[i].data.toList ++ [10]) := by
  unfold out
  rw [List.take_succ_eq_append_getElem h, List.flatMap_append]
  simp
theorem out_length (l : List ByteArray) : (out l).length = sizes l + l.length := by
  induction l with
  | nil => rfl
  | cons a l ih =>
    unfold out sizes at *
    simp only [List.flatMap_cons, List.length_append, List.length_cons, List.length_nil, List.map_cons, List.sum_cons, ih]
    have : a.data.toList.length = a.size := by rw [Array.length_toList]; rfl
    omega
theorem out_le (l : List ByteArray) (i : Nat) (h : i < l.length) : (out (l.take i)).length + l[i].size + 1 ≤ (out l).length := by
  have h1 := congrArg List.length (out_take l i h)
  have h2 : (out (l.take (i + 1))).length ≤ (out l).length := by
    have : out l = out (l.take (i + 1)) ++ out (l.drop (i + 1)) := by
      unfold out
      rw [← List.flatMap_append, List.take_append_drop]
    rw [this, List.length_append]
    omega
  have h3 : l[i].data.toList.length = l[i].size := by rw [Array.length_toList]; rfl
  simp only [List.length_append, List.length_cons, List.length_nil] at h1
  omega
theorem ba_size (a : ByteArray) : a.size = a.data.toList.length := by rw [Array.length_toList]; rfl
theorem ba_append (a b : ByteArray) : (a ++ b).data.toList = a.data.toList ++ b.data.toList := by
  rw [ByteArray.data_append, Array.toList_append]

theorem spec_ev (c : Int) (l : List ByteArray) (h : (out l).length ≤ 1048576) (hl : l.length ≤ 1048576) : ∃ r, Ev (fun k => spec_Lines.f k c l) r ∧ r.data.toList = out l := by
  unfold spec_Lines.f
  refine ev_inv (fun k i (s : ByteArray) => spec_Lines.l0 k s i c l) l.length (fun i s => s.data.toList = out (l.take i)) (fun r => r.data.toList = out l) ?_ ?_ 0 _ (Nat.zero_le _) (by simp [out])
  · intro s hs
    refine ⟨s, ⟨1, fun k hk => ?_⟩, by rw [hs, List.take_length]⟩
    obtain ⟨m, rfl⟩ : ∃ m, k = m + 1 := ⟨k - 1, by omega⟩
    simp only [spec_Lines.l0]
    rw [if_neg (by omega)]
  · intro i s hi hs ih
    have h1 := out_le l i hi
    have h2 : s.size = (out (l.take i)).length := by rw [ba_size, hs]
    obtain ⟨r, hr, hq⟩ := ih ((s ++ l[i]) ++ (⟨#[10]⟩ : ByteArray)) (by rw [ba_append, ba_append, hs, out_take _ _ hi, List.append_assoc])
    refine ⟨r, Ev.step (fun k => ?_) hr, hq⟩
    simp only [spec_Lines.l0]
    rw [if_pos (by omega), if_pos (by omega), rdOf_nat _ _ _ hi, if_pos (by omega), if_pos (by rw [ByteArray.size_append]; omega), w64n i (by omega)]

theorem bytesOf_data (a : ByteArray) : bytesOf a = a.data.toList.map fun b => (b.toNat : Int) := rfl
theorem impl_ev (c : Int) (l : List ByteArray) (h : (out l).length ≤ 1048576) (hl : l.length ≤ 1048576) : ∃ r, Ev (fun k => impl_Lines.f k c l) r ∧ r.data.toList = out l := by
  unfold impl_Lines.f
  refine ev_inv (fun k i (s : List Int) => impl_Lines.l0 k s l (l.length : Int) i) l.length (fun i s => s = (out (l.take i)).map fun b => (b.toNat : Int)) (fun r => r.data.toList = out l) ?_ ?_ 0 _ (Nat.zero_le _) (by simp [out])
  · intro s hs
    refine ⟨strOfNums s, ⟨1, fun k hk => ?_⟩, ?_⟩
    · obtain ⟨m, rfl⟩ : ∃ m, k = m + 1 := ⟨k - 1, by omega⟩
      simp only [impl_Lines.l0]
      rw [if_neg (by omega)]
    · rw [hs, List.take_length]
      rw [strOfNums_data, List.map_map]
      refine (List.map_congr_left (fun b _ => ?_)).trans (List.map_id _)
      simp
  · intro i s hi hs ih
    have h1 := out_le l i hi
    have h2 : s.length = (out (l.take i)).length := by rw [hs, List.length_map]
    obtain ⟨r, hr, hq⟩ := ih (s ++ bytesOf (l[i] ++ (⟨#[10]⟩ : ByteArray))) (by rw [hs, out_take _ _ hi, List.map_append, bytesOf_data, ba_append])
    refine ⟨r, Ev.step (fun k => ?_) hr, hq⟩
    simp only [impl_Lines.l0]
    rw [if_pos (by omega), if_pos (by omega), if_pos (by omega), rdOf_nat _ _ _ hi, if_pos (by omega), if_pos (by rw [ByteArray.size_append, h2]; show _ + (_ + 1) < _; omega), w64n i (by omega)]

theorem toOutcome_ev (c : Int) (l : List ByteArray) (hl : l.length ≤ 1048576) : Ev (fun k => laws_toOutcome.f k c l) (c, l) := by
  unfold laws_toOutcome.f
  exact Ev.bind (toStringS_ev l hl) (Ev.now _)
theorem eqOutcome_ev (c : Int) (l : List ByteArray) (hl : l.length ≤ 1048576) : Ev (fun k => laws_eqOutcome.f k c l c l) true := by
  unfold laws_eqOutcome.f
  simp only [if_true]
  refine Ev.bind (eqStringS_ev l l hl) ?_
  simp only [decide_true, if_true]
  exact Ev.now _
theorem szOutcome_ev (c : Int) (l : List ByteArray) (a : Int) (h0 : 0 ≤ a) (ha : a ≤ 1048576) (hl : l.length ≤ maxLen) (hs : ∀ s ∈ l, s.size ≤ maxLen) :
    ∃ r, Ev (fun k => laws_szOutcome.f k c l a) r ∧ (r = -1 ∨ 0 ≤ r ∧ r + l.length + sizes l = a) := by
  obtain ⟨r, hr, hq⟩ := szStringS_ev l a h0 ha hl hs
  refine ⟨r, ?_, hq⟩
  unfold laws_szOutcome.f
  refine Ev.bind hr ?_
  rcases hq with rfl | ⟨h1, _⟩
  · exact Ev.now _
  · simp only [if_neg (show ¬ r < 0 by omega)]
    exact Ev.now _

theorem law (c : Int) (l : List ByteArray) (hl : l.length ≤ maxLen) (hs : ∀ s ∈ l, s.size ≤ maxLen) : ∃ k, laws_FnExactLines.f k c l = some true := by
  refine Ev.rounds ?_
  unfold laws_FnExactLines.f
  obtain ⟨z, hz, hq⟩ := szOutcome_ev c l 1048576 (by omega) (by omega) hl hs
  refine Ev.bind hz ?_
  rcases hq with rfl | ⟨h1, h2⟩
  · exact Ev.now _
  · simp only [if_neg (show ¬ z < 0 by omega)]
    have hle : (out l).length ≤ 1048576 := by rw [out_length]; omega
    obtain ⟨a, ha, hao⟩ := spec_ev c l hle (by omega)
    obtain ⟨b, hb, hbo⟩ := impl_ev c l hle (by omega)
    refine Ev.bind (toOutcome_ev c l (by omega)) ?_
    refine Ev.bind ha ?_
    refine Ev.bind (toOutcome_ev c l (by omega)) ?_
    refine Ev.bind hb ?_
    simp only [show b.toList = a.toList from by rw [ba_toList, ba_toList, hao, hbo], if_true]
    refine Ev.bind (toOutcome_ev c l (by omega)) ?_
    refine Ev.bind (eqOutcome_ev c l (by omega)) ?_
    simp only [if_true]
    exact Ev.now _
end Go.Proofs.Ytpjfnjnidmlhcaa.XFnExactLines
