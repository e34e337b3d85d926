/- The law FnExactCodeText, of whatever code: the reference's text and the program's are the same. No condition but the kind's range. -/
import Derived.Test.YtpmeopkjfhgdlaaDoorCodeStep
namespace Go.Proofs.YtpmeopkjfhgdlaaDoor.XFnExactCodeText
open Go.RowKit Go.Proofs.YtpmeopkjfhgdlaaDoorW.PrintWords Go.Proofs.YtpmeopkjfhgdlaaDoor.Pl
set_option linter.unusedVariables false

def conv (x : S23) : S25 := ⟨x.f0, x.f1, x.f2⟩
theorem rdA (xs : List S23) (i : Nat) (h : i < xs.length) : rd_T23 xs (i : Int) = xs[i] := getD_nat _ xs i h
theorem rdB (xs : List S25) (i : Nat) (h : i < xs.length) : rd_T25 xs (i : Int) = xs[i] := getD_nat _ xs i h
theorem bytesOf_data (a : ByteArray) : bytesOf a = a.data.toList.map fun b => (b.toNat : Int) := rfl
theorem bytesOf_append (a b : ByteArray) : bytesOf (a ++ b) = bytesOf a ++ bytesOf b := by
  rw [bytesOf_data, bytesOf_data, bytesOf_data, ByteArray.data_append, Array.toList_append, List.map_append]
theorem bytesOf_len (a : ByteArray) : (bytesOf a).length = a.size := by
  rw [bytesOf_data, List.length_map, Array.length_toList]; rfl
theorem back (a : ByteArray) : strOfNums (bytesOf a) = a := by
  apply ba_ext
  rw [strOfNums_data, bytesOf_data, List.map_map]
  refine (List.map_congr_left (fun b _ => ?_)).trans (List.map_id _)
  simp

theorem toStepS_ev (l : List S23) (hl : l.length ≤ 1048576) : Ev (fun k => laws_toStepS.f k l) (l.map conv) := by
  have key := copy_loop l conv z25 (by omega) (fun k ys i => laws_toStepS.l0 k l ys i) (by
    intro k ys hy
    simp only [laws_toStepS.l0]
    rw [if_neg (by omega)]) (by
    intro i hi ys hy r hr
    refine Ev.step (fun k => ?_) hr
    simp only [laws_toStepS.l0, laws_toStep.f, Option.bind_some]
    rw [if_pos (by omega), if_pos (by omega), if_pos (by omega), rdA _ _ hi, w64n i (by omega), Int.toNat_natCast]
    rfl)
  refine Ev.congr (fun k => ?_) key
  unfold laws_toStepS.f
  rw [if_pos (by omega), if_pos (by rw [Int.toNat_natCast]; omega), Int.toNat_natCast]
theorem toCode_ev (a b : Int) (l : List S23) (hl : l.length ≤ 1048576) : Ev (fun k => laws_toCode.f k a b l) (a, b, l.map conv) := by
  unfold laws_toCode.f
  exact Ev.bind (toStepS_ev l hl) (Ev.now _)
theorem eqStepS_ev (l : List S25) (hl : l.length ≤ 1048576) : Ev (fun k => laws_eqStepS.f k l l) true := by
  obtain ⟨r, hr, rfl⟩ := ev_inv (fun k i (_ : Unit) => laws_eqStepS.l0 k l l i) l.length (fun _ _ => True) (fun r => r = true) (by
    intro _ _
    refine ⟨true, ⟨1, fun k hk => ?_⟩, rfl⟩
    obtain ⟨m, rfl⟩ : ∃ m, k = m + 1 := ⟨k - 1, by omega⟩
    simp only [laws_eqStepS.l0]
    rw [if_neg (by omega)]) (by
    intro i _ hi _ ih
    obtain ⟨r, hr, hq⟩ := ih () trivial
    refine ⟨r, Ev.step (fun k => ?_) hr, hq⟩
    simp only [laws_eqStepS.l0, laws_eqStep.f]
    rw [if_pos (by omega), if_pos (by omega), if_pos (by omega)]
    simp only [if_true, Option.bind_some]
    rw [w64n i (by omega)]) 0 () (Nat.zero_le _) trivial
  refine Ev.congr (fun k => ?_) hr
  unfold laws_eqStepS.f
  rw [if_pos rfl]
  rfl
theorem eqCode_ev (a b : Int) (l : List S25) (hl : l.length ≤ 1048576) : Ev (fun k => laws_eqCode.f k a b l a b l) true := by
  unfold laws_eqCode.f
  simp only [if_true]
  refine Ev.bind (eqStepS_ev l hl) ?_
  simp only [if_true]
  exact Ev.now _
theorem szCode_eq (a b : Int) (l : List S23) (hl : l.length ≤ maxLen) : laws_szCode.f a b l 1048576 = some (-1) ∨ ∃ r, laws_szCode.f a b l 1048576 = some r ∧ 0 ≤ r ∧ l.length ≤ 1048576 := by
  unfold maxLen at hl
  unfold laws_szCode.f laws_szStepS.f
  rw [w64 _ (by omega) (by omega)]
  by_cases h : (1048576 : Int) - (l.length : Int) < 0
  · rw [if_pos h]; exact .inl rfl
  · rw [if_neg h]
    refine .inr ⟨1048576 - (l.length : Int), ?_, by omega, by omega⟩
    rw [Option.bind_some, if_neg h]

theorem line_size : (⟨#[10]⟩ : ByteArray).size = 1 := rfl
theorem ev_late {β : Type} {g h : Nat → Option β} {r : β} (K : Nat) (e : ∀ k, K ≤ k → g (k + 1) = h k) : Ev h r → Ev g r := fun ⟨M, hM⟩ => ⟨K + M + 1, fun k hk => by
  obtain ⟨m, rfl⟩ : ∃ m, k = m + 1 := ⟨k - 1, by omega⟩
  rw [e m (by omega)]
  exact hM m (by omega)⟩
def ok (x : S25) : Prop := i64 x.f0 ∧ i64 x.f1 ∧ i64 x.f2

theorem both (a b : Int) (l : List S25) (hl : l.length ≤ 1048576) (hr : ∀ x ∈ l, ok x) : ∀ (d i : Nat), i ≤ l.length → l.length - i = d → ∀ s : ByteArray, s.size ≤ 1100 * i →
    ∃ r, Ev (fun k => spec_CodeText.l0 k s (i : Int) a b l) r ∧ Ev (fun k => impl_CodeText.l0 k (bytesOf s) l (l.length : Int) (i : Int)) r := by
  intro d
  induction d with
  | zero =>
    intro i hi hd s hs
    refine ⟨s, ⟨1, fun k hk => ?_⟩, ⟨1, fun k hk => ?_⟩⟩
    · obtain ⟨m, rfl⟩ : ∃ m, k = m + 1 := ⟨k - 1, by omega⟩
      simp only [spec_CodeText.l0]
      rw [if_neg (by omega)]
    · obtain ⟨m, rfl⟩ : ∃ m, k = m + 1 := ⟨k - 1, by omega⟩
      simp only [impl_CodeText.l0]
      rw [if_neg (by omega), back]
  | succ d ih =>
    intro i hi hd s hs
    have hlt : i < l.length := by omega
    obtain ⟨h0, h1, h2⟩ := hr l[i] (List.getElem_mem hlt)
    obtain ⟨K1, e1⟩ := digits_ev (i : Int) (by omega) (by omega)
    have hD := itoa_len (i : Int) (by omega) (by omega)
    have hf := itoa_f (i : Int) (by omega) (by omega)
    obtain ⟨t, ⟨K2, e2⟩, ⟨K3, e3⟩, ht⟩ := step_ev l[i].f0 l[i].f1 l[i].f2 h0 h1 h2
    generalize mk (Lib.itoa (i : Int)) = D at e1 hD hf
    dsimp only at e1 e2 e3
    have s1 : (s ++ D).size = s.size + D.size := ByteArray.size_append ..
    have s2 : ((s ++ D) ++ (⟨#[32]⟩ : ByteArray)).size = s.size + D.size + 1 := by rw [ByteArray.size_append, s1, blank_size]
    have s3 : (((s ++ D) ++ (⟨#[32]⟩ : ByteArray)) ++ t).size = s.size + D.size + 1 + t.size := by rw [ByteArray.size_append, s2]
    have s4 : ((((s ++ D) ++ (⟨#[32]⟩ : ByteArray)) ++ t) ++ (⟨#[10]⟩ : ByteArray)).size = s.size + D.size + 1 + t.size + 1 := by rw [ByteArray.size_append, s3, line_size]
    obtain ⟨r, r1, r2⟩ := ih (i + 1) (by omega) (by omega) ((((s ++ D) ++ (⟨#[32]⟩ : ByteArray)) ++ t) ++ (⟨#[10]⟩ : ByteArray)) (by rw [s4]; omega)
    refine ⟨r, ev_late (K1 + K2) (fun k hk => ?_) r1, ev_late (K1 + K3) (fun k hk => ?_) r2⟩
    · simp only [spec_CodeText.l0]
      rw [rdB _ _ hlt, e1 k (by omega), e2 k (by omega)]
      simp only [Option.bind_some]
      rw [if_pos (by omega), if_pos (by omega), if_pos (by rw [s1]; omega), if_pos (by omega), if_pos (by rw [s2]; omega), if_pos (by rw [s3]; omega), w64n i (by omega)]
    · have q1 : (D ++ (⟨#[32]⟩ : ByteArray)).size = D.size + 1 := by rw [ByteArray.size_append, blank_size]
      have q2 : ((D ++ (⟨#[32]⟩ : ByteArray)) ++ t).size = D.size + 1 + t.size := by rw [ByteArray.size_append, q1]
      have q3 : (((D ++ (⟨#[32]⟩ : ByteArray)) ++ t) ++ (⟨#[10]⟩ : ByteArray)).size = D.size + 1 + t.size + 1 := by rw [ByteArray.size_append, q2, line_size]
      simp only [impl_CodeText.l0]
      rw [rdB _ _ hlt, hf, e3 k (by omega)]
      simp only [Option.bind_some]
      rw [if_pos (by omega), if_pos (by omega), if_pos (by omega), if_pos (by omega), if_pos (by rw [q1]; omega), if_pos (by rw [q2]; omega), if_pos (by rw [bytesOf_len, q3]; omega), w64n i (by omega)]
      simp only [bytesOf_append, List.append_assoc]

theorem law (a b : Int) (l : List S23) (hl : l.length ≤ maxLen) (hr : ∀ x ∈ l, i64 x.f0 ∧ i64 x.f1 ∧ i64 x.f2) : ∃ k, laws_FnExactCodeText.f k a b l = some true := by
  refine Ev.rounds ?_
  unfold laws_FnExactCodeText.f
  rcases szCode_eq a b l hl with h | ⟨z, h, h1, h2⟩
  · simp only [h, Option.bind_some]
    exact Ev.now _
  · simp only [h, Option.bind_some, if_neg (show ¬ z < 0 by omega)]
    obtain ⟨r, r1, r2⟩ := both a b (l.map conv) (by simpa using h2) (by
      intro x hx
      obtain ⟨y, hy, rfl⟩ := List.mem_map.1 hx
      exact hr y hy) _ 0 (Nat.zero_le _) rfl ⟨#[]⟩ (by decide)
    refine Ev.bind (toCode_ev a b l h2) ?_
    refine Ev.bind (a := r) (by unfold spec_CodeText.f; exact r1) ?_
    refine Ev.bind (toCode_ev a b l h2) ?_
    refine Ev.bind (a := r) (by unfold impl_CodeText.f; exact r2) ?_
    simp only [if_true]
    refine Ev.bind (toCode_ev a b l h2) ?_
    refine Ev.bind (eqCode_ev a b (l.map conv) (by simpa using h2)) ?_
    simp only [if_true]
    exact Ev.now _
end Go.Proofs.YtpmeopkjfhgdlaaDoor.XFnExactCodeText
