-- Written by xp.py of this workplace out of Lean's own print of the translation. Not trusted: Lean checks it.
import Derived.Test.YtpmeopkjfhgdlaaDoorXFnExactCodeText0
import Derived.Test.YtpmeopkjfhgdlaaDoorXFnExactCodeText3
namespace Go.Proofs.YtpmeopkjfhgdlaaDoor.XFnExactCodeText
open Go.RowKit Go.Proofs.YtpmeopkjfhgdlaaDoorW.PrintWords Go.Proofs.YtpmeopkjfhgdlaaDoorW.PrintLast Go.Proofs.YtpmeopkjfhgdlaaDoorW.PrintMore
attribute [local go_sem] max2_int min2_int max_two min_two max_three min_three max_four min_four   -- for this text's walks alone
set_option linter.unusedVariables false
set_option linter.unusedSimpArgs false

/-! ### impl_StepText: function 8 -/
def impl_StepText.j0 : Nat → ByteArray → Int → Bool → Int → Int → Int → Option (ByteArray)
  | 0, _, _, _, _, _, _ => none
  | k + 1, x4, x17, x18, x151000, x151001, x151002 => if x18 = true then (if x4.size + 1 ≤ 9223372036854775807 then ((strconv_Itoa.f x151001).bind fun t156 => (if (x4 ++ (⟨#[32]⟩ : ByteArray)).size + t156.size ≤ 9223372036854775807 then (if ((x4 ++ (⟨#[32]⟩ : ByteArray)) ++ t156).size + 1 ≤ 9223372036854775807 then ((strconv_Itoa.f x151002).bind fun t157 => (if (((x4 ++ (⟨#[32]⟩ : ByteArray)) ++ t156) ++ (⟨#[32]⟩ : ByteArray)).size + t157.size ≤ 9223372036854775807 then (some ((((x4 ++ (⟨#[32]⟩ : ByteArray)) ++ t156) ++ (⟨#[32]⟩ : ByteArray)) ++ t157)) else (none))) else (none)) else (none))) else (none)) else (if x17 = 1 then (if x4.size + 1 ≤ 9223372036854775807 then ((strconv_Itoa.f x151001).bind fun t158 => (if (x4 ++ (⟨#[32]⟩ : ByteArray)).size + t158.size ≤ 9223372036854775807 then (some ((x4 ++ (⟨#[32]⟩ : ByteArray)) ++ t158)) else (none))) else (none)) else (if x17 = 2 then (if x4.size + 1 ≤ 9223372036854775807 then ((strconv_Itoa.f x151001).bind fun t159 => (if (x4 ++ (⟨#[32]⟩ : ByteArray)).size + t159.size ≤ 9223372036854775807 then (some ((x4 ++ (⟨#[32]⟩ : ByteArray)) ++ t159)) else (none))) else (none)) else (if x17 = 9 then (if x4.size + 1 ≤ 9223372036854775807 then ((strconv_Itoa.f x151001).bind fun t160 => (if (x4 ++ (⟨#[32]⟩ : ByteArray)).size + t160.size ≤ 9223372036854775807 then (some ((x4 ++ (⟨#[32]⟩ : ByteArray)) ++ t160)) else (none))) else (none)) else (if x17 = 10 then (if x4.size + 1 ≤ 9223372036854775807 then ((strconv_Itoa.f x151001).bind fun t161 => (if (x4 ++ (⟨#[32]⟩ : ByteArray)).size + t161.size ≤ 9223372036854775807 then (some ((x4 ++ (⟨#[32]⟩ : ByteArray)) ++ t161)) else (none))) else (none)) else (if x17 = 25 then (if x4.size + 1 ≤ 9223372036854775807 then ((strconv_Itoa.f x151001).bind fun t162 => (if (x4 ++ (⟨#[32]⟩ : ByteArray)).size + t162.size ≤ 9223372036854775807 then (some ((x4 ++ (⟨#[32]⟩ : ByteArray)) ++ t162)) else (none))) else (none)) else (if x17 = 12 then (if x4.size + 1 ≤ 9223372036854775807 then ((strconv_Itoa.f x151001).bind fun t163 => (if (x4 ++ (⟨#[32]⟩ : ByteArray)).size + t163.size ≤ 9223372036854775807 then (some ((x4 ++ (⟨#[32]⟩ : ByteArray)) ++ t163)) else (none))) else (none)) else (if x17 = 20 then (if x4.size + 1 ≤ 9223372036854775807 then ((strconv_Itoa.f x151001).bind fun t164 => (if (x4 ++ (⟨#[32]⟩ : ByteArray)).size + t164.size ≤ 9223372036854775807 then (some ((x4 ++ (⟨#[32]⟩ : ByteArray)) ++ t164)) else (none))) else (none)) else (if x17 = 21 then (if x4.size + 1 ≤ 9223372036854775807 then ((strconv_Itoa.f x151001).bind fun t165 => (if (x4 ++ (⟨#[32]⟩ : ByteArray)).size + t165.size ≤ 9223372036854775807 then (some ((x4 ++ (⟨#[32]⟩ : ByteArray)) ++ t165)) else (none))) else (none)) else (if x17 = 24 then (if x4.size + 1 ≤ 9223372036854775807 then ((strconv_Itoa.f x151001).bind fun t166 => (if (x4 ++ (⟨#[32]⟩ : ByteArray)).size + t166.size ≤ 9223372036854775807 then (some ((x4 ++ (⟨#[32]⟩ : ByteArray)) ++ t166)) else (none))) else (none)) else (some x4))))))))))
def impl_StepText.f (k : Nat) (a0_0 : Int) (a0_1 : Int) (a0_2 : Int) : Option (ByteArray) := (some (([(⟨#[105, 110, 116]⟩ : ByteArray), (⟨#[116, 101, 120, 116]⟩ : ByteArray), (⟨#[117, 110, 100, 101, 102]⟩ : ByteArray), (⟨#[110, 117, 108, 108]⟩ : ByteArray), (⟨#[116, 114, 117, 101]⟩ : ByteArray), (⟨#[102, 97, 108, 115, 101]⟩ : ByteArray), (⟨#[108, 111, 97, 100]⟩ : ByteArray), (⟨#[115, 116, 111, 114, 101]⟩ : ByteArray), (⟨#[103, 101, 116]⟩ : ByteArray), (⟨#[112, 117, 116]⟩ : ByteArray), (⟨#[111, 98, 106]⟩ : ByteArray), (⟨#[99, 97, 108, 108]⟩ : ByteArray), (⟨#[114, 101, 116, 117, 114, 110]⟩ : ByteArray), (⟨#[97, 100, 100]⟩ : ByteArray), (⟨#[115, 117, 98]⟩ : ByteArray), (⟨#[109, 117, 108]⟩ : ByteArray), (⟨#[108, 101, 115, 115]⟩ : ByteArray), (⟨#[115, 97, 109, 101]⟩ : ByteArray), (⟨#[110, 111, 116]⟩ : ByteArray), (⟨#[106, 117, 109, 112]⟩ : ByteArray), (⟨#[101, 108, 115, 101]⟩ : ByteArray), (⟨#[112, 114, 105, 110, 116]⟩ : ByteArray), (⟨#[112, 111, 112]⟩ : ByteArray), (⟨#[102, 117, 110]⟩ : ByteArray), (⟨#[102, 105, 101, 108, 100]⟩ : ByteArray)] : List ByteArray) : List ByteArray)).bind fun y151 => ((impl_within.f a0_0 1 25).bind fun t154 => (if t154 = true then (if 0 ≤ (wrap64 (a0_0 - 1)) then (if (wrap64 (a0_0 - 1)) < (y151.length : Int) then (if a0_0 = 7 then (impl_StepText.j0 k (rdOf ByteArray.empty y151 (wrap64 (a0_0 - 1))) a0_0 (a0_0 == 7) a0_0 a0_1 a0_2) else (impl_StepText.j0 k (rdOf ByteArray.empty y151 (wrap64 (a0_0 - 1))) a0_0 (a0_0 == 8) a0_0 a0_1 a0_2)) else (none)) else (none)) else (some (⟨#[]⟩ : ByteArray))))
theorem impl_StepText.mono_l : ∀ k, (∀ y0 y1 y2 y3 y4 y5, LeO (impl_StepText.j0 k y0 y1 y2 y3 y4 y5) (impl_StepText.j0 (k + 1) y0 y1 y2 y3 y4 y5))
  | 0 => fun _ _ _ _ _ _ r h => by simp [impl_StepText.j0] at h
  | k + 1 => by
    have ih0 := impl_StepText.mono_l k
    · intro y0 y1 y2 y3 y4 y5
      unfold impl_StepText.j0
      repeat' first
      | (with_reducible exact ih0 _ _ _ _ _ _)
      | (with_reducible exact LeO.refl _)
      | (with_reducible exact LeO.none _)
      | (with_reducible refine LeO.ite ?_ ?_)
      | (with_reducible refine LeO.bind ?_ (fun _ => ?_))
      | exact ih0 _ _ _ _ _ _
      | exact LeO.none _
      | refine LeO.ite ?_ ?_
      | refine LeO.bind ?_ (fun _ => ?_)
theorem impl_StepText.mono : ∀ a0 a1 a2 k, LeO (impl_StepText.f k a0 a1 a2) (impl_StepText.f (k + 1) a0 a1 a2) := by
  intro a0 a1 a2 k
  have ih0 := impl_StepText.mono_l k
  unfold impl_StepText.f
  repeat' first
      | (with_reducible exact ih0 _ _ _ _ _ _)
      | (with_reducible exact LeO.refl _)
      | (with_reducible exact LeO.none _)
      | (with_reducible refine LeO.ite ?_ ?_)
      | (with_reducible refine LeO.bind ?_ (fun _ => ?_))
      | exact ih0 _ _ _ _ _ _
      | exact LeO.none _
      | refine LeO.ite ?_ ?_
      | refine LeO.bind ?_ (fun _ => ?_)
def impl_StepText.T8 : Bool × List (List Nat × List Nat) := (true, [([], []), ([0], [0]), ([], []), ([2], [2]), ([3], [3]), ([1, 4], [1, 4]), ([5], [5]), ([], []), ([7], [7]), ([8, 4], [8]), ([6, 9], [6, 9]), ([10, 9, 0, 1, 2, 3, 4, 5, 6, 7, 8, 9, 10], [10])])
def impl_StepText.B8 : List Nat := [0, 1, 0, 4, 12, 31, 63, 0, 128, 412, 1023, 2047]
theorem impl_StepText.tab8 : rtab .any (opsOf Tryd.f8 8) = impl_StepText.T8 := by kernel_rfl
theorem impl_StepText.bits8 : waitsOk impl_StepText.T8.2 impl_StepText.B8 = true := by kernel_rfl
set_option maxHeartbeats 8000000 in
set_option maxRecDepth 100000 in
theorem impl_StepText.calls (k : Nat) (a0_0 : Int) (a0_1 : Int) (a0_2 : Int) (r : ByteArray) (w : World) (hT : Lib.TabIs Tryd.prog w "internal/strconv.uint64pow10" .u64 Lib.pow10Tab) (h : impl_StepText.f k a0_0 a0_1 a0_2 = some r) :
    Calls Tryd.prog 8 #[.agg #[.int .i64 a0_0, .int .i64 a0_1, .int .i64 a0_2]] w fun e w' => e = .returned (.string r) ∧ Below w.heap.size w w' := by
  have HT := Aside0.mk hT
  clear hT
  have hu25 := Tryd.underlying25
  have HB := Aside0.mk (Below.refl w.heap.size w)
  have H : ((some (([(⟨#[105, 110, 116]⟩ : ByteArray), (⟨#[116, 101, 120, 116]⟩ : ByteArray), (⟨#[117, 110, 100, 101, 102]⟩ : ByteArray), (⟨#[110, 117, 108, 108]⟩ : ByteArray), (⟨#[116, 114, 117, 101]⟩ : ByteArray), (⟨#[102, 97, 108, 115, 101]⟩ : ByteArray), (⟨#[108, 111, 97, 100]⟩ : ByteArray), (⟨#[115, 116, 111, 114, 101]⟩ : ByteArray), (⟨#[103, 101, 116]⟩ : ByteArray), (⟨#[112, 117, 116]⟩ : ByteArray), (⟨#[111, 98, 106]⟩ : ByteArray), (⟨#[99, 97, 108, 108]⟩ : ByteArray), (⟨#[114, 101, 116, 117, 114, 110]⟩ : ByteArray), (⟨#[97, 100, 100]⟩ : ByteArray), (⟨#[115, 117, 98]⟩ : ByteArray), (⟨#[109, 117, 108]⟩ : ByteArray), (⟨#[108, 101, 115, 115]⟩ : ByteArray), (⟨#[115, 97, 109, 101]⟩ : ByteArray), (⟨#[110, 111, 116]⟩ : ByteArray), (⟨#[106, 117, 109, 112]⟩ : ByteArray), (⟨#[101, 108, 115, 101]⟩ : ByteArray), (⟨#[112, 114, 105, 110, 116]⟩ : ByteArray), (⟨#[112, 111, 112]⟩ : ByteArray), (⟨#[102, 117, 110]⟩ : ByteArray), (⟨#[102, 105, 101, 108, 100]⟩ : ByteArray)] : List ByteArray) : List ByteArray)).bind fun y151 => ((impl_within.f a0_0 1 25).bind fun t154 => (if t154 = true then (if 0 ≤ (wrap64 (a0_0 - 1)) then (if (wrap64 (a0_0 - 1)) < (y151.length : Int) then (if a0_0 = 7 then (impl_StepText.j0 k (rdOf ByteArray.empty y151 (wrap64 (a0_0 - 1))) a0_0 (a0_0 == 7) a0_0 a0_1 a0_2) else (impl_StepText.j0 k (rdOf ByteArray.empty y151 (wrap64 (a0_0 - 1))) a0_0 (a0_0 == 8) a0_0 a0_1 a0_2)) else (none)) else (none)) else (some (⟨#[]⟩ : ByteArray))))) = some r := h
  clear h
  obtain ⟨y151, hy151⟩ : ∃ y_ : List ByteArray, y_ = (([(⟨#[105, 110, 116]⟩ : ByteArray), (⟨#[116, 101, 120, 116]⟩ : ByteArray), (⟨#[117, 110, 100, 101, 102]⟩ : ByteArray), (⟨#[110, 117, 108, 108]⟩ : ByteArray), (⟨#[116, 114, 117, 101]⟩ : ByteArray), (⟨#[102, 97, 108, 115, 101]⟩ : ByteArray), (⟨#[108, 111, 97, 100]⟩ : ByteArray), (⟨#[115, 116, 111, 114, 101]⟩ : ByteArray), (⟨#[103, 101, 116]⟩ : ByteArray), (⟨#[112, 117, 116]⟩ : ByteArray), (⟨#[111, 98, 106]⟩ : ByteArray), (⟨#[99, 97, 108, 108]⟩ : ByteArray), (⟨#[114, 101, 116, 117, 114, 110]⟩ : ByteArray), (⟨#[97, 100, 100]⟩ : ByteArray), (⟨#[115, 117, 98]⟩ : ByteArray), (⟨#[109, 117, 108]⟩ : ByteArray), (⟨#[108, 101, 115, 115]⟩ : ByteArray), (⟨#[115, 97, 109, 101]⟩ : ByteArray), (⟨#[110, 111, 116]⟩ : ByteArray), (⟨#[106, 117, 109, 112]⟩ : ByteArray), (⟨#[101, 108, 115, 101]⟩ : ByteArray), (⟨#[112, 114, 105, 110, 116]⟩ : ByteArray), (⟨#[112, 111, 112]⟩ : ByteArray), (⟨#[102, 117, 110]⟩ : ByteArray), (⟨#[102, 105, 101, 108, 100]⟩ : ByteArray)] : List ByteArray)) := ⟨_, rfl⟩
  replace H : ((impl_within.f a0_0 1 25).bind fun t154 => (if t154 = true then (if 0 ≤ (wrap64 (a0_0 - 1)) then (if (wrap64 (a0_0 - 1)) < (y151.length : Int) then (if a0_0 = 7 then (impl_StepText.j0 k (rdOf ByteArray.empty y151 (wrap64 (a0_0 - 1))) a0_0 (a0_0 == 7) a0_0 a0_1 a0_2) else (impl_StepText.j0 k (rdOf ByteArray.empty y151 (wrap64 (a0_0 - 1))) a0_0 (a0_0 == 8) a0_0 a0_1 a0_2)) else (none)) else (none)) else (some (⟨#[]⟩ : ByteArray)))) = some r := by first | (rw [hy151]; with_reducible exact H) | (have H2_ := (Option.bind_some _ _).symm.trans H; rw [hy151]; with_reducible exact H2_) | (have H2_ := (Option.bind_some _ _).symm.trans H; with_reducible exact H2_) | with_reducible exact H | (rw [hy151]; exact H) | exact H
  have Ny151 := Aside0.mk hy151
  clear hy151
  replace H := Option.bind_eq_some_iff.mp H
  obtain ⟨t154, A20, H⟩ := H
  replace H : (if t154 = true then (if 0 ≤ (wrap64 (a0_0 - 1)) then (if (wrap64 (a0_0 - 1)) < (y151.length : Int) then (if a0_0 = 7 then (impl_StepText.j0 k (rdOf ByteArray.empty y151 (wrap64 (a0_0 - 1))) a0_0 (a0_0 == 7) a0_0 a0_1 a0_2) else (impl_StepText.j0 k (rdOf ByteArray.empty y151 (wrap64 (a0_0 - 1))) a0_0 (a0_0 == 8) a0_0 a0_1 a0_2)) else (none)) else (none)) else (some (⟨#[]⟩ : ByteArray))) = some r := H
  have A2 := Aside0.mk A20
  clear A20
  by_cases c3 : t154 = true
  · subst c3
    have H1 : (if 0 ≤ (wrap64 (a0_0 - 1)) then (if (wrap64 (a0_0 - 1)) < (y151.length : Int) then (if a0_0 = 7 then (impl_StepText.j0 k (rdOf ByteArray.empty y151 (wrap64 (a0_0 - 1))) a0_0 (a0_0 == 7) a0_0 a0_1 a0_2) else (impl_StepText.j0 k (rdOf ByteArray.empty y151 (wrap64 (a0_0 - 1))) a0_0 (a0_0 == 8) a0_0 a0_1 a0_2)) else (none)) else (none)) = some r := by rw [if_pos rfl] at H; exact H
    clear H
    have H := H1
    clear H1
    obtain ⟨ji4, hji4⟩ : ∃ j_ : Int, (wrap64 (a0_0 - 1)) = j_ := ⟨_, rfl⟩
    replace H : (if 0 ≤ (ji4) then (if (ji4) < (y151.length : Int) then (if a0_0 = 7 then (impl_StepText.j0 k (rdOf ByteArray.empty y151 (ji4)) a0_0 (a0_0 == 7) a0_0 a0_1 a0_2) else (impl_StepText.j0 k (rdOf ByteArray.empty y151 (ji4)) a0_0 (a0_0 == 8) a0_0 a0_1 a0_2)) else (none)) else (none)) = some r := by first | (rw [hji4] at H; exact H) | (simp only [hji4] at H ⊢; exact H)
    (try rw [hji4] at A2)
    have hji4w : (IntKind.i64.wrap (a0_0 - 1)) = ji4 := (i64_w _).trans hji4
    by_cases c5 : 0 ≤ (ji4)
    · rw [if_pos c5] at H
      have c5b0 : decide (0 ≤ (ji4)) = true := decide_eq_true c5
      clear c5
      by_cases c6 : (ji4) < (y151.length : Int)
      · rw [if_pos c6] at H
        have c6b0 : decide ((ji4) < (y151.length : Int)) = true := decide_eq_true c6
        clear c6
        have HC7 := Aside0.mk H
        clear H
        go_enter Tryd.func8, Tryd.ntmps8
        go_upto_if 18 with (first | ((with_reducible refine gate_dst (N := 1) rfl ?_); refine box_event ?hg (N := 1) ?hd (cs := #[.int .i64 a0_0, .int .i64 a0_1, .int .i64 a0_2]) (t := 25) ?hr ?_; (case hd => rfl); (case hg => rfl); (case hr => first | (go_simp; done) | (go_simp; rfl)); intro gb150 hg w8 hbox hb; have n0_ := Aside0.mk (below_step (by repeat (first | (with_reducible first | exact HB.out | apply below_alloc | apply pw_below_drewN | apply below_drew1) | exact HB.out)) hb); have n1_ := Aside0.mk (hbox); have n2_ := Aside0.mk ((by rw [hg]; exact (below_size (by repeat (first | (with_reducible first | exact HB.out | apply below_alloc | apply pw_below_drewN | apply below_drew1) | exact HB.out))) : w.heap.size ≤ gb150)); have n3_ := Aside0.mk ((by rw [hg]; exact (below_size (by repeat (first | (with_reducible first | exact HB.out | apply below_alloc | apply pw_below_drewN | apply below_drew1) | exact HB.out))) : w.heap.size ≤ gb150)); clear HB; have HB := n0_; have BK150 := n1_; have GW150 := n2_; have GE150 := n3_; clear n0_ n1_ n2_ n3_; clear hb hbox hg) | ((with_reducible refine gate_dst (N := 5) rfl ?_); refine Kd.R_lit Kd.string _ 9 ?hg (N := 5) ?hd (xs := ([(⟨#[105, 110, 116]⟩ : ByteArray), (⟨#[116, 101, 120, 116]⟩ : ByteArray), (⟨#[117, 110, 100, 101, 102]⟩ : ByteArray), (⟨#[110, 117, 108, 108]⟩ : ByteArray), (⟨#[116, 114, 117, 101]⟩ : ByteArray), (⟨#[102, 97, 108, 115, 101]⟩ : ByteArray), (⟨#[108, 111, 97, 100]⟩ : ByteArray), (⟨#[115, 116, 111, 114, 101]⟩ : ByteArray), (⟨#[103, 101, 116]⟩ : ByteArray), (⟨#[112, 117, 116]⟩ : ByteArray), (⟨#[111, 98, 106]⟩ : ByteArray), (⟨#[99, 97, 108, 108]⟩ : ByteArray), (⟨#[114, 101, 116, 117, 114, 110]⟩ : ByteArray), (⟨#[97, 100, 100]⟩ : ByteArray), (⟨#[115, 117, 98]⟩ : ByteArray), (⟨#[109, 117, 108]⟩ : ByteArray), (⟨#[108, 101, 115, 115]⟩ : ByteArray), (⟨#[115, 97, 109, 101]⟩ : ByteArray), (⟨#[110, 111, 116]⟩ : ByteArray), (⟨#[106, 117, 109, 112]⟩ : ByteArray), (⟨#[101, 108, 115, 101]⟩ : ByteArray), (⟨#[112, 114, 105, 110, 116]⟩ : ByteArray), (⟨#[112, 111, 112]⟩ : ByteArray), (⟨#[102, 117, 110]⟩ : ByteArray), (⟨#[102, 105, 101, 108, 100]⟩ : ByteArray)] : List ByteArray)) (inner := [.string (⟨#[105, 110, 116]⟩ : ByteArray), .string (⟨#[116, 101, 120, 116]⟩ : ByteArray), .string (⟨#[117, 110, 100, 101, 102]⟩ : ByteArray), .string (⟨#[110, 117, 108, 108]⟩ : ByteArray), .string (⟨#[116, 114, 117, 101]⟩ : ByteArray), .string (⟨#[102, 97, 108, 115, 101]⟩ : ByteArray), .string (⟨#[108, 111, 97, 100]⟩ : ByteArray), .string (⟨#[115, 116, 111, 114, 101]⟩ : ByteArray), .string (⟨#[103, 101, 116]⟩ : ByteArray), .string (⟨#[112, 117, 116]⟩ : ByteArray), .string (⟨#[111, 98, 106]⟩ : ByteArray), .string (⟨#[99, 97, 108, 108]⟩ : ByteArray), .string (⟨#[114, 101, 116, 117, 114, 110]⟩ : ByteArray), .string (⟨#[97, 100, 100]⟩ : ByteArray), .string (⟨#[115, 117, 98]⟩ : ByteArray), .string (⟨#[109, 117, 108]⟩ : ByteArray), .string (⟨#[108, 101, 115, 115]⟩ : ByteArray), .string (⟨#[115, 97, 109, 101]⟩ : ByteArray), .string (⟨#[110, 111, 116]⟩ : ByteArray), .string (⟨#[106, 117, 109, 112]⟩ : ByteArray), .string (⟨#[101, 108, 115, 101]⟩ : ByteArray), .string (⟨#[112, 114, 105, 110, 116]⟩ : ByteArray), .string (⟨#[112, 111, 112]⟩ : ByteArray), .string (⟨#[102, 117, 110]⟩ : ByteArray), .string (⟨#[102, 105, 101, 108, 100]⟩ : ByteArray)]) (ok := fun _ => True) (okp := fun _ => True) ?hr ?hp (fun _ hk => hk) trivial (Below.refl _ _) (Nat.le_refl _) (by simp) ?_; (case hd => rfl); (case hg => rfl); (case hr => first | (go_simp; done) | (go_simp; rfl)); (case hp => exact (Reps.one (show Kd.M Kd.string _ _ _ (⟨#[105, 110, 116]⟩ : ByteArray) [.string (⟨#[105, 110, 116]⟩ : ByteArray)] from rfl) (Reps.one (show Kd.M Kd.string _ _ _ (⟨#[116, 101, 120, 116]⟩ : ByteArray) [.string (⟨#[116, 101, 120, 116]⟩ : ByteArray)] from rfl) (Reps.one (show Kd.M Kd.string _ _ _ (⟨#[117, 110, 100, 101, 102]⟩ : ByteArray) [.string (⟨#[117, 110, 100, 101, 102]⟩ : ByteArray)] from rfl) (Reps.one (show Kd.M Kd.string _ _ _ (⟨#[110, 117, 108, 108]⟩ : ByteArray) [.string (⟨#[110, 117, 108, 108]⟩ : ByteArray)] from rfl) (Reps.one (show Kd.M Kd.string _ _ _ (⟨#[116, 114, 117, 101]⟩ : ByteArray) [.string (⟨#[116, 114, 117, 101]⟩ : ByteArray)] from rfl) (Reps.one (show Kd.M Kd.string _ _ _ (⟨#[102, 97, 108, 115, 101]⟩ : ByteArray) [.string (⟨#[102, 97, 108, 115, 101]⟩ : ByteArray)] from rfl) (Reps.one (show Kd.M Kd.string _ _ _ (⟨#[108, 111, 97, 100]⟩ : ByteArray) [.string (⟨#[108, 111, 97, 100]⟩ : ByteArray)] from rfl) (Reps.one (show Kd.M Kd.string _ _ _ (⟨#[115, 116, 111, 114, 101]⟩ : ByteArray) [.string (⟨#[115, 116, 111, 114, 101]⟩ : ByteArray)] from rfl) (Reps.one (show Kd.M Kd.string _ _ _ (⟨#[103, 101, 116]⟩ : ByteArray) [.string (⟨#[103, 101, 116]⟩ : ByteArray)] from rfl) (Reps.one (show Kd.M Kd.string _ _ _ (⟨#[112, 117, 116]⟩ : ByteArray) [.string (⟨#[112, 117, 116]⟩ : ByteArray)] from rfl) (Reps.one (show Kd.M Kd.string _ _ _ (⟨#[111, 98, 106]⟩ : ByteArray) [.string (⟨#[111, 98, 106]⟩ : ByteArray)] from rfl) (Reps.one (show Kd.M Kd.string _ _ _ (⟨#[99, 97, 108, 108]⟩ : ByteArray) [.string (⟨#[99, 97, 108, 108]⟩ : ByteArray)] from rfl) (Reps.one (show Kd.M Kd.string _ _ _ (⟨#[114, 101, 116, 117, 114, 110]⟩ : ByteArray) [.string (⟨#[114, 101, 116, 117, 114, 110]⟩ : ByteArray)] from rfl) (Reps.one (show Kd.M Kd.string _ _ _ (⟨#[97, 100, 100]⟩ : ByteArray) [.string (⟨#[97, 100, 100]⟩ : ByteArray)] from rfl) (Reps.one (show Kd.M Kd.string _ _ _ (⟨#[115, 117, 98]⟩ : ByteArray) [.string (⟨#[115, 117, 98]⟩ : ByteArray)] from rfl) (Reps.one (show Kd.M Kd.string _ _ _ (⟨#[109, 117, 108]⟩ : ByteArray) [.string (⟨#[109, 117, 108]⟩ : ByteArray)] from rfl) (Reps.one (show Kd.M Kd.string _ _ _ (⟨#[108, 101, 115, 115]⟩ : ByteArray) [.string (⟨#[108, 101, 115, 115]⟩ : ByteArray)] from rfl) (Reps.one (show Kd.M Kd.string _ _ _ (⟨#[115, 97, 109, 101]⟩ : ByteArray) [.string (⟨#[115, 97, 109, 101]⟩ : ByteArray)] from rfl) (Reps.one (show Kd.M Kd.string _ _ _ (⟨#[110, 111, 116]⟩ : ByteArray) [.string (⟨#[110, 111, 116]⟩ : ByteArray)] from rfl) (Reps.one (show Kd.M Kd.string _ _ _ (⟨#[106, 117, 109, 112]⟩ : ByteArray) [.string (⟨#[106, 117, 109, 112]⟩ : ByteArray)] from rfl) (Reps.one (show Kd.M Kd.string _ _ _ (⟨#[101, 108, 115, 101]⟩ : ByteArray) [.string (⟨#[101, 108, 115, 101]⟩ : ByteArray)] from rfl) (Reps.one (show Kd.M Kd.string _ _ _ (⟨#[112, 114, 105, 110, 116]⟩ : ByteArray) [.string (⟨#[112, 114, 105, 110, 116]⟩ : ByteArray)] from rfl) (Reps.one (show Kd.M Kd.string _ _ _ (⟨#[112, 111, 112]⟩ : ByteArray) [.string (⟨#[112, 111, 112]⟩ : ByteArray)] from rfl) (Reps.one (show Kd.M Kd.string _ _ _ (⟨#[102, 117, 110]⟩ : ByteArray) [.string (⟨#[102, 117, 110]⟩ : ByteArray)] from rfl) (Reps.one (show Kd.M Kd.string _ _ _ (⟨#[102, 105, 101, 108, 100]⟩ : ByteArray) [.string (⟨#[102, 105, 101, 108, 100]⟩ : ByteArray)] from rfl) (Reps.none _ _))))))))))))))))))))))))))); intro v152 w9 ho10 hb hg_ hnew_; clear hg_ hnew_; (first | rw [← Ny151.out] at ho10 | (simp only [Int.reduceToNat] at ho10; rw [← Ny151.out] at ho10)); have n0_ := Aside0.mk (Kd.R_lower ho10 (below_size (by repeat (first | (with_reducible first | exact HB.out | apply below_alloc | apply pw_below_drewN | apply below_drew1 | refine below_set ?_ GE150.out) | exact HB.out)))); have n1_ := Aside0.mk (blk_below (g := gb150) (o := .cells #[.int .i64 a0_0, .int .i64 a0_1, .int .i64 a0_2] 25 (0, 0)) (by (with_reducible repeat (first | refine blk_drewN ?_ _ | refine blk_drew ?_ | refine blk_alloc ?_ _)); exact BK150.out) hb); have n2_ := Aside0.mk (below_step (by repeat (first | (with_reducible first | exact HB.out | apply below_alloc | apply pw_below_drewN | apply below_drew1 | refine below_set ?_ GE150.out) | exact HB.out)) hb); clear BK150; clear HB; have HO153 := n0_; have BK150 := n1_; have HB := n2_; clear n0_ n1_ n2_; clear hb ho10; have hcz11_0 : w9.cell? ⟨gb150, 0, none⟩ = some (.int .i64 a0_0) := (blk_cell BK150.out 0).trans rfl; have hcz11_1 : w9.cell? ⟨gb150, 1, none⟩ = some (.int .i64 a0_1) := (blk_cell BK150.out 1).trans rfl; have hcz11_2 : w9.cell? ⟨gb150, 2, none⟩ = some (.int .i64 a0_2) := (blk_cell BK150.out 2).trans rfl; have hfz11_0 := blk_frozen BK150.out 0; have hfz11_1 := blk_frozen BK150.out 1; have hfz11_2 := blk_frozen BK150.out 2) | ((with_reducible refine gate_callee (f := 22) rfl ?_); refine goesL_ (some 8) rfl rfl Tryd.func22 (by kernel_rfl) rfl #[.int .i64 a0_0, .int .i64 1, .int .i64 25] rfl (by (try simp only [List.map_toArray, List.map_cons, List.map_nil]); first | done | rfl | (simp only [List.length_drop, List.length_take]; rfl)) ?_; (with_reducible refine (impl_within.calls a0_0 1 25 true _ A2.out).mono ?_); rintro e w' ⟨rfl, ⟨nd, rfl⟩⟩; refine ⟨_, rfl, ?_⟩; obtain ⟨Ao12, co12, eo12⟩ := Kd.R_slice HO153.out; subst eo12; have p155 : 0 ≤ ((ji4) : Int) := of_decide_eq_true (by first | (with_reducible assumption) | assumption); have q155 : (ji4) < (y151.length : Int) := of_decide_eq_true (by first | (with_reducible assumption) | assumption); obtain ⟨ad155, e155, hx155_0⟩ := Kd.at_string (Kd.R_reads' HO153.out).2.2 (ji4) p155 q155; cases e155; replace p155 := eq_true p155; replace q155 := eq_true q155))
        (try simp only [Act.put, List.setIfInBounds_toArray, List.set_cons_zero, List.set_cons_succ])
        go_cut [18] (fun v18 wc => ∃ (kq : Nat) (x18_6 : Bool), v18 = .bool x18_6 ∧ Aside0 (impl_StepText.j0 kq (rdOf ByteArray.empty y151 (ji4)) a0_0 x18_6 a0_0 a0_1 a0_2 = some r) ∧ Aside0 (kq ≤ k) ∧ Aside0 (wc.heap[gb150]? = some (.cells #[.int .i64 a0_0, .int .i64 a0_1, .int .i64 a0_2] 25 (0, 0))) ∧ Aside0 (Below w.heap.size w wc))
        case first =>
          have H := HC7.out
          clear HC7
          by_cases c13 : a0_0 = 7
          · rw [if_pos c13] at H
            have c13b0 : (a0_0 == 7) = true := beq_iff_eq.mpr c13
            have c13b1 : (a0_0 != 7) = false := bne_eq_false_iff_eq.mpr c13
            clear c13
            (first | rw [c13b0] | (simp only [i64_w, i32_w]; rw [c13b0]) | skip)
            have H' := Aside0.mk H
            clear H
            go_wp2
            go_meet
            case rel => exact ⟨_, ((a0_0 == 7)), (by first | rfl | (simp; done) | (simp [*]; done)), H', ⟨by first | omega | exact Nat.le_refl _⟩, ⟨by (with_reducible repeat (first | refine blk_drewN ?_ _ | refine blk_drew ?_ | refine blk_alloc ?_ _)); exact BK150.out⟩, ⟨by repeat (first | (with_reducible first | exact HB.out | apply below_alloc | apply pw_below_drewN | apply below_drew1 | refine below_set ?_ GE150.out) | exact HB.out)⟩⟩
          · rw [if_neg c13] at H
            have c13b0 : (a0_0 == 7) = false := beq_eq_false_iff_ne.mpr c13
            have c13b1 : (a0_0 != 7) = true := bne_iff_ne.mpr c13
            (first | rw [c13b0] | (simp only [i64_w, i32_w]; rw [c13b0]) | skip)
            have H' := Aside0.mk H
            clear H
            go_wp2
            go_meet
            case rel => exact ⟨_, ((a0_0 == 8)), (by first | rfl | (simp; done) | (simp [*]; done)), H', ⟨by first | omega | exact Nat.le_refl _⟩, ⟨by (with_reducible repeat (first | refine blk_drewN ?_ _ | refine blk_drew ?_ | refine blk_alloc ?_ _)); exact BK150.out⟩, ⟨by repeat (first | (with_reducible first | exact HB.out | apply below_alloc | apply pw_below_drewN | apply below_drew1 | refine below_set ?_ GE150.out) | exact HB.out)⟩⟩
        case rest =>
          clear HC7
          try clear c1
          try clear p1
          try clear q1
          try clear hx1
          try clear c2
          try clear p2
          try clear c3
          try clear c5
          try clear c5b0
          try clear c6
          try clear c6b0
          try clear p6
          try clear c8
          try clear c13
          try clear c13b0
          try clear c13b1
          try clear hcz11_0
          try clear hcz11_1
          try clear hcz11_2
          try clear hfz11_0
          try clear hfz11_1
          try clear hfz11_2
          try clear hx155_0
          try clear p155
          try clear q155
          obtain ⟨kq, x18_6, rfl, HA, HJ6, BK150, HB⟩ := hcut
          cases kq with
          | zero => exact absurd HA.out (by simp [impl_StepText.j0])
          | succ kj6 =>
            have H := HA.out
            clear HA
            simp only [impl_StepText.j0] at H
            by_cases c14 : x18_6 = true
            · subst c14
              have H1 : (if (rdOf ByteArray.empty y151 (ji4)).size + 1 ≤ 9223372036854775807 then ((strconv_Itoa.f a0_1).bind fun t156 => (if ((rdOf ByteArray.empty y151 (ji4)) ++ (⟨#[32]⟩ : ByteArray)).size + t156.size ≤ 9223372036854775807 then (if (((rdOf ByteArray.empty y151 (ji4)) ++ (⟨#[32]⟩ : ByteArray)) ++ t156).size + 1 ≤ 9223372036854775807 then ((strconv_Itoa.f a0_2).bind fun t157 => (if ((((rdOf ByteArray.empty y151 (ji4)) ++ (⟨#[32]⟩ : ByteArray)) ++ t156) ++ (⟨#[32]⟩ : ByteArray)).size + t157.size ≤ 9223372036854775807 then (some (((((rdOf ByteArray.empty y151 (ji4)) ++ (⟨#[32]⟩ : ByteArray)) ++ t156) ++ (⟨#[32]⟩ : ByteArray)) ++ t157)) else (none))) else (none)) else (none))) else (none)) = some r := by rw [if_pos rfl] at H; exact H
              clear H
              have H := H1
              clear H1
              by_cases c15 : (rdOf ByteArray.empty y151 (ji4)).size + 1 ≤ 9223372036854775807
              · rw [if_pos c15] at H
                have c15b0 := eq_true c15
                have c15b1 : decide ((rdOf ByteArray.empty y151 (ji4)).size + 1 ≤ 9223372036854775807) = true := decide_eq_true c15
                try have c15b2 : (9223372036854775807 < (rdOf ByteArray.empty y151 (ji4)).size + 1) = False := eq_false (Nat.not_lt.2 c15)
                replace H := Option.bind_eq_some_iff.mp H
                obtain ⟨t156, A160, H⟩ := H
                replace H : (if ((rdOf ByteArray.empty y151 (ji4)) ++ (⟨#[32]⟩ : ByteArray)).size + t156.size ≤ 9223372036854775807 then (if (((rdOf ByteArray.empty y151 (ji4)) ++ (⟨#[32]⟩ : ByteArray)) ++ t156).size + 1 ≤ 9223372036854775807 then ((strconv_Itoa.f a0_2).bind fun t157 => (if ((((rdOf ByteArray.empty y151 (ji4)) ++ (⟨#[32]⟩ : ByteArray)) ++ t156) ++ (⟨#[32]⟩ : ByteArray)).size + t157.size ≤ 9223372036854775807 then (some (((((rdOf ByteArray.empty y151 (ji4)) ++ (⟨#[32]⟩ : ByteArray)) ++ t156) ++ (⟨#[32]⟩ : ByteArray)) ++ t157)) else (none))) else (none)) else (none)) = some r := H
                have A16 := Aside0.mk A160
                clear A160
                by_cases c17 : ((rdOf ByteArray.empty y151 (ji4)) ++ (⟨#[32]⟩ : ByteArray)).size + t156.size ≤ 9223372036854775807
                · rw [if_pos c17] at H
                  have c17b0 := eq_true c17
                  try have c17z1 : decide ((rdOf ByteArray.empty y151 (ji4)).size + (⟨#[32]⟩ : ByteArray).size + t156.size ≤ 9223372036854775807) = true := decide_eq_true (by have h_ := c17; simp only [ByteArray.size_append] at h_; exact h_)
                  try have c17z2 : (9223372036854775807 < (rdOf ByteArray.empty y151 (ji4)).size + (⟨#[32]⟩ : ByteArray).size + t156.size) = False := eq_false (Nat.not_lt.2 (by have h_ := c17; simp only [ByteArray.size_append] at h_; exact h_))
                  try have c17z3 : decide ((rdOf ByteArray.empty y151 (ji4)).size + 1 + t156.size ≤ 9223372036854775807) = true := decide_eq_true (by have h_ := c17; simp only [ByteArray.size_append] at h_; exact h_)
                  try have c17z4 : (9223372036854775807 < (rdOf ByteArray.empty y151 (ji4)).size + 1 + t156.size) = False := eq_false (Nat.not_lt.2 (by have h_ := c17; simp only [ByteArray.size_append] at h_; exact h_))
                  have c17b1 : decide (((rdOf ByteArray.empty y151 (ji4)) ++ (⟨#[32]⟩ : ByteArray)).size + t156.size ≤ 9223372036854775807) = true := decide_eq_true c17
                  try have c17b2 : (9223372036854775807 < ((rdOf ByteArray.empty y151 (ji4)) ++ (⟨#[32]⟩ : ByteArray)).size + t156.size) = False := eq_false (Nat.not_lt.2 c17)
                  by_cases c18 : (((rdOf ByteArray.empty y151 (ji4)) ++ (⟨#[32]⟩ : ByteArray)) ++ t156).size + 1 ≤ 9223372036854775807
                  · rw [if_pos c18] at H
                    have c18b0 := eq_true c18
                    try have c18z1 : decide ((rdOf ByteArray.empty y151 (ji4)).size + (⟨#[32]⟩ : ByteArray).size + t156.size + 1 ≤ 9223372036854775807) = true := decide_eq_true (by have h_ := c18; simp only [ByteArray.size_append] at h_; exact h_)
                    try have c18z2 : (9223372036854775807 < (rdOf ByteArray.empty y151 (ji4)).size + (⟨#[32]⟩ : ByteArray).size + t156.size + 1) = False := eq_false (Nat.not_lt.2 (by have h_ := c18; simp only [ByteArray.size_append] at h_; exact h_))
                    try have c18z3 : decide ((rdOf ByteArray.empty y151 (ji4)).size + 1 + t156.size + 1 ≤ 9223372036854775807) = true := decide_eq_true (by have h_ := c18; simp only [ByteArray.size_append] at h_; exact h_)
                    try have c18z4 : (9223372036854775807 < (rdOf ByteArray.empty y151 (ji4)).size + 1 + t156.size + 1) = False := eq_false (Nat.not_lt.2 (by have h_ := c18; simp only [ByteArray.size_append] at h_; exact h_))
                    have c18b1 : decide ((((rdOf ByteArray.empty y151 (ji4)) ++ (⟨#[32]⟩ : ByteArray)) ++ t156).size + 1 ≤ 9223372036854775807) = true := decide_eq_true c18
                    try have c18b2 : (9223372036854775807 < (((rdOf ByteArray.empty y151 (ji4)) ++ (⟨#[32]⟩ : ByteArray)) ++ t156).size + 1) = False := eq_false (Nat.not_lt.2 c18)
                    replace H := Option.bind_eq_some_iff.mp H
                    obtain ⟨t157, A190, H⟩ := H
                    replace H : (if ((((rdOf ByteArray.empty y151 (ji4)) ++ (⟨#[32]⟩ : ByteArray)) ++ t156) ++ (⟨#[32]⟩ : ByteArray)).size + t157.size ≤ 9223372036854775807 then (some (((((rdOf ByteArray.empty y151 (ji4)) ++ (⟨#[32]⟩ : ByteArray)) ++ t156) ++ (⟨#[32]⟩ : ByteArray)) ++ t157)) else (none)) = some r := H
                    have A19 := Aside0.mk A190
                    clear A190
                    by_cases c20 : ((((rdOf ByteArray.empty y151 (ji4)) ++ (⟨#[32]⟩ : ByteArray)) ++ t156) ++ (⟨#[32]⟩ : ByteArray)).size + t157.size ≤ 9223372036854775807
                    · rw [if_pos c20] at H
                      have c20b0 := eq_true c20
                      try have c20z1 : decide ((rdOf ByteArray.empty y151 (ji4)).size + (⟨#[32]⟩ : ByteArray).size + t156.size + (⟨#[32]⟩ : ByteArray).size + t157.size ≤ 9223372036854775807) = true := decide_eq_true (by have h_ := c20; simp only [ByteArray.size_append] at h_; exact h_)
                      try have c20z2 : (9223372036854775807 < (rdOf ByteArray.empty y151 (ji4)).size + (⟨#[32]⟩ : ByteArray).size + t156.size + (⟨#[32]⟩ : ByteArray).size + t157.size) = False := eq_false (Nat.not_lt.2 (by have h_ := c20; simp only [ByteArray.size_append] at h_; exact h_))
                      try have c20z3 : decide ((rdOf ByteArray.empty y151 (ji4)).size + 1 + t156.size + 1 + t157.size ≤ 9223372036854775807) = true := decide_eq_true (by have h_ := c20; simp only [ByteArray.size_append] at h_; exact h_)
                      try have c20z4 : (9223372036854775807 < (rdOf ByteArray.empty y151 (ji4)).size + 1 + t156.size + 1 + t157.size) = False := eq_false (Nat.not_lt.2 (by have h_ := c20; simp only [ByteArray.size_append] at h_; exact h_))
                      have c20b1 : decide (((((rdOf ByteArray.empty y151 (ji4)) ++ (⟨#[32]⟩ : ByteArray)) ++ t156) ++ (⟨#[32]⟩ : ByteArray)).size + t157.size ≤ 9223372036854775807) = true := decide_eq_true c20
                      try have c20b2 : (9223372036854775807 < ((((rdOf ByteArray.empty y151 (ji4)) ++ (⟨#[32]⟩ : ByteArray)) ++ t156) ++ (⟨#[32]⟩ : ByteArray)).size + t157.size) = False := eq_false (Nat.not_lt.2 c20)
                      obtain rfl := Option.some.inj H
                      try go_wp2
                      have n0_ := Aside0.mk (blk_drew BK150.out)
                      have n1_ := Aside0.mk (below_drew1 HB.out)
                      clear BK150
                      clear HB
                      have BK150 := n0_
                      have HB := n1_
                      clear n0_ n1_
                      refine start_ (n := 12) (S := fun w' => w'.cell? ⟨gb150, 0, none⟩ = some (.int .i64 a0_0) ∧ w'.cell? ⟨gb150, 1, none⟩ = some (.int .i64 a0_1) ∧ w'.cell? ⟨gb150, 2, none⟩ = some (.int .i64 a0_2)) (ds := []) #[false, false, false, false, false, false, false, false, false, false, false, false] (by kernel_rfl) rfl rfl ⟨(blk_cell BK150.out 0).trans rfl, (blk_cell BK150.out 1).trans rfl, (blk_cell BK150.out 2).trans rfl⟩ (fun hHeld => ?_); refine with_tabW impl_StepText.tab8 impl_StepText.bits8 (fun HT_ HW_ => ?_)
                      generalize wc.drew = w21 at BK150 HB hHeld ⊢
                      refine pure_ (i := 0) (N := some 21) (v := ?_) (a' := ?_) #[true, false, false, false, false, false, false, false, false, false, false, false] rfl rfl (any_of HT_.out (by kernel_rfl)) (fun _ _ _ h => h) (Or.inl ⟨by rfl, ?_⟩) ?_ ?_
                      rotate_left
                      · intro w'
                        go_simp
                        with_reducible rfl
                      rotate_left
                      · simp only [Act.put, List.setIfInBounds_toArray, List.set_cons_zero, List.set_cons_succ, i64_w, i32_w]
                        rfl
                      refine pure_ (i := 1) (N := some 22) (v := ?_) (a' := ?_) #[true, true, false, false, false, false, false, false, false, false, false, false] rfl rfl (any_of HT_.out (by kernel_rfl)) (fun _ _ _ h => h) (Or.inl ⟨by rfl, ?_⟩) ?_ ?_
                      rotate_left
                      · intro w'
                        go_simp
                        with_reducible rfl
                      rotate_left
                      · simp only [Act.put, List.setIfInBounds_toArray, List.set_cons_zero, List.set_cons_succ, i64_w, i32_w]
                        rfl
                      refine pure_ (i := 2) (N := some 23) (v := ?_) (a' := ?_) #[true, true, true, false, false, false, false, false, false, false, false, false] rfl rfl (any_of HT_.out (by kernel_rfl)) (fun _ _ _ h => h) (Or.inl ⟨by rfl, ?_⟩) ?_ ?_
                      rotate_left
                      · intro w'
                        go_simp
                        with_reducible rfl
                      rotate_left
                      · simp only [Act.put, List.setIfInBounds_toArray, List.set_cons_zero, List.set_cons_succ, i64_w, i32_w]
                        rfl
                      refine pure_ (i := 7) (N := some 28) (v := ?_) (a' := ?_) #[true, true, true, false, false, false, false, true, false, false, false, false] rfl rfl (any_of HT_.out (by kernel_rfl)) (fun _ _ _ h => h) (Or.inl ⟨by rfl, ?_⟩) ?_ ?_
                      rotate_left
                      · intro w'
                        go_simp
                        with_reducible rfl
                      rotate_left
                      · simp only [Act.put, List.setIfInBounds_toArray, List.set_cons_zero, List.set_cons_succ, i64_w, i32_w]
                        rfl
                      refine take_ (i := 3) (N := some 24) (v := ?_) (a' := ?_) #[true, true, true, true, false, false, false, true, false, false, false, false] rfl rfl (take_ofW HT_.out HW_.out (by kernel_rfl)) (fun _ _ _ h => h) (Or.inl ⟨by rfl, ?_⟩) hHeld ?_ ?_
                      rotate_left
                      · rintro w' ⟨s0, s1, s2⟩
                        go_simp
                        with_reducible rfl
                      rotate_left
                      · simp only [Act.put, List.setIfInBounds_toArray, List.set_cons_zero, List.set_cons_succ, i64_w, i32_w]
                        rfl
                      refine take_ (i := 8) (N := some 29) (v := ?_) (a' := ?_) #[true, true, true, true, false, false, false, true, true, false, false, false] rfl rfl (take_ofW HT_.out HW_.out (by kernel_rfl)) (fun _ _ _ h => h) (Or.inl ⟨by rfl, ?_⟩) hHeld ?_ ?_
                      rotate_left
                      · rintro w' ⟨s0, s1, s2⟩
                        go_simp
                        with_reducible rfl
                      rotate_left
                      · simp only [Act.put, List.setIfInBounds_toArray, List.set_cons_zero, List.set_cons_succ, i64_w, i32_w]
                        rfl
                      refine one_ (i := 4) (N := some 25) #[true, true, true, true, true, false, false, true, true, false, false, false] rfl rfl (one_of HT_.out (by kernel_rfl)) (by decide) (fun K hK => ?_)
                      refine goes_ Tryd.func23 (by kernel_rfl) rfl #[.int .i64 a0_1] (by rfl) rfl rfl (by (try simp only [List.map_toArray, List.map_cons, List.map_nil]); first | done | rfl | (simp only [List.length_drop, List.length_take]; rfl)) ?_
                      (with_reducible refine (strconv_Itoa.calls a0_1 t156 _ ?sideT A16.out).mono ?_); (case sideT => exact tabBelow HT.out (by repeat (first | (with_reducible first | exact HB.out | apply below_alloc | apply pw_below_drewN | apply below_drew1 | refine below_set ?_ GE150.out) | exact HB.out)))
                      rintro e w22 ⟨rfl, hb⟩
                      refine ⟨_, rfl, ?_⟩
                      have n0_ := Aside0.mk (blk_below (g := gb150) (o := .cells #[.int .i64 a0_0, .int .i64 a0_1, .int .i64 a0_2] 25 (0, 0)) (by (with_reducible repeat (first | refine blk_drewN ?_ _ | refine blk_drew ?_ | refine blk_alloc ?_ _)); exact BK150.out) hb)
                      have n1_ := Aside0.mk (below_step (by repeat (first | (with_reducible first | exact HB.out | apply below_alloc | apply pw_below_drewN | apply below_drew1 | refine below_set ?_ GE150.out) | exact HB.out)) hb)
                      clear BK150
                      clear HB
                      have BK150 := n0_
                      have HB := n1_
                      clear n0_ n1_
                      (try clear hb)
                      (try clear hb2)
                      (try clear hk)
                      (try clear hi)
                      refine hK.out _ _ ⟨(blk_cell BK150.out 0).trans rfl, (blk_cell BK150.out 1).trans rfl, (blk_cell BK150.out 2).trans rfl⟩ (fun hHeld => ?_)
                      clear hK K
                      refine norm_ (a' := ?_) ?_ ?_
                      rotate_left
                      · show Act.put _ (some 25) _ = _
                        simp only [Act.put, List.setIfInBounds_toArray, List.set_cons_zero, List.set_cons_succ, i64_w, i32_w]
                        rfl
                      refine pure_ (i := 5) (N := some 26) (v := ?_) (a' := ?_) #[true, true, true, true, true, true, false, true, true, false, false, false] rfl rfl (any_of HT_.out (by kernel_rfl)) (fun _ _ _ h => h) (Or.inl ⟨by rfl, ?_⟩) ?_ ?_
                      rotate_left
                      · intro w'
                        go_simp
                        with_reducible rfl
                      rotate_left
                      · simp only [Act.put, List.setIfInBounds_toArray, List.set_cons_zero, List.set_cons_succ, i64_w, i32_w]
                        rfl
                      refine pure_ (i := 6) (N := some 27) (v := ?_) (a' := ?_) #[true, true, true, true, true, true, true, true, true, false, false, false] rfl rfl (any_of HT_.out (by kernel_rfl)) (fun _ _ _ h => h) (Or.inl ⟨by rfl, ?_⟩) ?_ ?_
                      rotate_left
                      · intro w'
                        go_simp
                        with_reducible rfl
                      rotate_left
                      · simp only [Act.put, List.setIfInBounds_toArray, List.set_cons_zero, List.set_cons_succ, i64_w, i32_w]
                        rfl
                      refine one_ (i := 9) (N := some 30) #[true, true, true, true, true, true, true, true, true, true, false, false] rfl rfl (one_of HT_.out (by kernel_rfl)) (by decide) (fun K hK => ?_)
                      refine goes_ Tryd.func23 (by kernel_rfl) rfl #[.int .i64 a0_2] (by rfl) rfl rfl (by (try simp only [List.map_toArray, List.map_cons, List.map_nil]); first | done | rfl | (simp only [List.length_drop, List.length_take]; rfl)) ?_
                      (with_reducible refine (strconv_Itoa.calls a0_2 t157 _ ?sideT A19.out).mono ?_); (case sideT => exact tabBelow HT.out (by repeat (first | (with_reducible first | exact HB.out | apply below_alloc | apply pw_below_drewN | apply below_drew1 | refine below_set ?_ GE150.out) | exact HB.out)))
                      rintro e w23 ⟨rfl, hb⟩
                      refine ⟨_, rfl, ?_⟩
                      have n0_ := Aside0.mk (blk_below (g := gb150) (o := .cells #[.int .i64 a0_0, .int .i64 a0_1, .int .i64 a0_2] 25 (0, 0)) (by (with_reducible repeat (first | refine blk_drewN ?_ _ | refine blk_drew ?_ | refine blk_alloc ?_ _)); exact BK150.out) hb)
                      have n1_ := Aside0.mk (below_step (by repeat (first | (with_reducible first | exact HB.out | apply below_alloc | apply pw_below_drewN | apply below_drew1 | refine below_set ?_ GE150.out) | exact HB.out)) hb)
                      clear BK150
                      clear HB
                      have BK150 := n0_
                      have HB := n1_
                      clear n0_ n1_
                      (try clear hb)
                      (try clear hb2)
                      (try clear hk)
                      (try clear hi)
                      refine hK.out _ _ ⟨(blk_cell BK150.out 0).trans rfl, (blk_cell BK150.out 1).trans rfl, (blk_cell BK150.out 2).trans rfl⟩ (fun hHeld => ?_)
                      clear hK K
                      refine norm_ (a' := ?_) ?_ ?_
                      rotate_left
                      · show Act.put _ (some 30) _ = _
                        simp only [Act.put, List.setIfInBounds_toArray, List.set_cons_zero, List.set_cons_succ, i64_w, i32_w]
                        rfl
                      refine pure_ (i := 10) (N := some 31) (v := ?_) (a' := ?_) #[true, true, true, true, true, true, true, true, true, true, true, false] rfl rfl (any_of HT_.out (by kernel_rfl)) (fun _ _ _ h => h) (Or.inl ⟨by rfl, ?_⟩) ?_ ?_
                      rotate_left
                      · intro w'
                        go_simp
                        with_reducible rfl
                      rotate_left
                      · simp only [Act.put, List.setIfInBounds_toArray, List.set_cons_zero, List.set_cons_succ, i64_w, i32_w]
                        rfl
                      refine pure_ (i := 11) (N := some 2) (v := ?_) (a' := ?_) #[true, true, true, true, true, true, true, true, true, true, true, true] rfl rfl (any_of HT_.out (by kernel_rfl)) (fun _ _ _ h => h) (Or.inl ⟨by rfl, ?_⟩) ?_ ?_
                      rotate_left
                      · intro w'
                        go_simp
                        with_reducible rfl
                      rotate_left
                      · simp only [Act.put, List.setIfInBounds_toArray, List.set_cons_zero, List.set_cons_succ, i64_w, i32_w]
                        rfl
                      refine done_ (done_of HT_.out (by kernel_rfl)) ?_
                      try go_wp2
                      go_ret
                      exact ⟨by first | rfl | (simp [errW_none, errW_some] <;> rfl) | (simp only [← hji4]; first | rfl | (simp [errW_none, errW_some] <;> rfl)) | (simp [*, errW_none, errW_some] <;> rfl), by repeat (first | (with_reducible first | exact HB.out | apply below_alloc | apply pw_below_drewN | apply below_drew1 | refine below_set ?_ GE150.out) | exact HB.out)⟩
                    · rw [if_neg c20] at H
                      exact absurd H (by simp)
                  · rw [if_neg c18] at H
                    exact absurd H (by simp)
                · rw [if_neg c17] at H
                  exact absurd H (by simp)
              · rw [if_neg c15] at H
                exact absurd H (by simp)
            · replace c14 := Bool.eq_false_iff.mpr c14
              subst c14
              have H1 : (if a0_0 = 1 then (if (rdOf ByteArray.empty y151 (ji4)).size + 1 ≤ 9223372036854775807 then ((strconv_Itoa.f a0_1).bind fun t158 => (if ((rdOf ByteArray.empty y151 (ji4)) ++ (⟨#[32]⟩ : ByteArray)).size + t158.size ≤ 9223372036854775807 then (some (((rdOf ByteArray.empty y151 (ji4)) ++ (⟨#[32]⟩ : ByteArray)) ++ t158)) else (none))) else (none)) else (if a0_0 = 2 then (if (rdOf ByteArray.empty y151 (ji4)).size + 1 ≤ 9223372036854775807 then ((strconv_Itoa.f a0_1).bind fun t159 => (if ((rdOf ByteArray.empty y151 (ji4)) ++ (⟨#[32]⟩ : ByteArray)).size + t159.size ≤ 9223372036854775807 then (some (((rdOf ByteArray.empty y151 (ji4)) ++ (⟨#[32]⟩ : ByteArray)) ++ t159)) else (none))) else (none)) else (if a0_0 = 9 then (if (rdOf ByteArray.empty y151 (ji4)).size + 1 ≤ 9223372036854775807 then ((strconv_Itoa.f a0_1).bind fun t160 => (if ((rdOf ByteArray.empty y151 (ji4)) ++ (⟨#[32]⟩ : ByteArray)).size + t160.size ≤ 9223372036854775807 then (some (((rdOf ByteArray.empty y151 (ji4)) ++ (⟨#[32]⟩ : ByteArray)) ++ t160)) else (none))) else (none)) else (if a0_0 = 10 then (if (rdOf ByteArray.empty y151 (ji4)).size + 1 ≤ 9223372036854775807 then ((strconv_Itoa.f a0_1).bind fun t161 => (if ((rdOf ByteArray.empty y151 (ji4)) ++ (⟨#[32]⟩ : ByteArray)).size + t161.size ≤ 9223372036854775807 then (some (((rdOf ByteArray.empty y151 (ji4)) ++ (⟨#[32]⟩ : ByteArray)) ++ t161)) else (none))) else (none)) else (if a0_0 = 25 then (if (rdOf ByteArray.empty y151 (ji4)).size + 1 ≤ 9223372036854775807 then ((strconv_Itoa.f a0_1).bind fun t162 => (if ((rdOf ByteArray.empty y151 (ji4)) ++ (⟨#[32]⟩ : ByteArray)).size + t162.size ≤ 9223372036854775807 then (some (((rdOf ByteArray.empty y151 (ji4)) ++ (⟨#[32]⟩ : ByteArray)) ++ t162)) else (none))) else (none)) else (if a0_0 = 12 then (if (rdOf ByteArray.empty y151 (ji4)).size + 1 ≤ 9223372036854775807 then ((strconv_Itoa.f a0_1).bind fun t163 => (if ((rdOf ByteArray.empty y151 (ji4)) ++ (⟨#[32]⟩ : ByteArray)).size + t163.size ≤ 9223372036854775807 then (some (((rdOf ByteArray.empty y151 (ji4)) ++ (⟨#[32]⟩ : ByteArray)) ++ t163)) else (none))) else (none)) else (if a0_0 = 20 then (if (rdOf ByteArray.empty y151 (ji4)).size + 1 ≤ 9223372036854775807 then ((strconv_Itoa.f a0_1).bind fun t164 => (if ((rdOf ByteArray.empty y151 (ji4)) ++ (⟨#[32]⟩ : ByteArray)).size + t164.size ≤ 9223372036854775807 then (some (((rdOf ByteArray.empty y151 (ji4)) ++ (⟨#[32]⟩ : ByteArray)) ++ t164)) else (none))) else (none)) else (if a0_0 = 21 then (if (rdOf ByteArray.empty y151 (ji4)).size + 1 ≤ 9223372036854775807 then ((strconv_Itoa.f a0_1).bind fun t165 => (if ((rdOf ByteArray.empty y151 (ji4)) ++ (⟨#[32]⟩ : ByteArray)).size + t165.size ≤ 9223372036854775807 then (some (((rdOf ByteArray.empty y151 (ji4)) ++ (⟨#[32]⟩ : ByteArray)) ++ t165)) else (none))) else (none)) else (if a0_0 = 24 then (if (rdOf ByteArray.empty y151 (ji4)).size + 1 ≤ 9223372036854775807 then ((strconv_Itoa.f a0_1).bind fun t166 => (if ((rdOf ByteArray.empty y151 (ji4)) ++ (⟨#[32]⟩ : ByteArray)).size + t166.size ≤ 9223372036854775807 then (some (((rdOf ByteArray.empty y151 (ji4)) ++ (⟨#[32]⟩ : ByteArray)) ++ t166)) else (none))) else (none)) else (some (rdOf ByteArray.empty y151 (ji4)))))))))))) = some r := by rw [if_neg (show ¬ (false = true) by decide)] at H; exact H
              clear H
              have H := H1
              clear H1
              by_cases c24 : a0_0 = 1
              · rw [if_pos c24] at H
                have c24b0 : (a0_0 == 1) = true := beq_iff_eq.mpr c24
                have c24b1 : (a0_0 != 1) = false := bne_eq_false_iff_eq.mpr c24
                clear c24
                by_cases c25 : (rdOf ByteArray.empty y151 (ji4)).size + 1 ≤ 9223372036854775807
                · rw [if_pos c25] at H
                  have c25b0 := eq_true c25
                  have c25b1 : decide ((rdOf ByteArray.empty y151 (ji4)).size + 1 ≤ 9223372036854775807) = true := decide_eq_true c25
                  try have c25b2 : (9223372036854775807 < (rdOf ByteArray.empty y151 (ji4)).size + 1) = False := eq_false (Nat.not_lt.2 c25)
                  replace H := Option.bind_eq_some_iff.mp H
                  obtain ⟨t158, A260, H⟩ := H
                  replace H : (if ((rdOf ByteArray.empty y151 (ji4)) ++ (⟨#[32]⟩ : ByteArray)).size + t158.size ≤ 9223372036854775807 then (some (((rdOf ByteArray.empty y151 (ji4)) ++ (⟨#[32]⟩ : ByteArray)) ++ t158)) else (none)) = some r := H
                  have A26 := Aside0.mk A260
                  clear A260
                  by_cases c27 : ((rdOf ByteArray.empty y151 (ji4)) ++ (⟨#[32]⟩ : ByteArray)).size + t158.size ≤ 9223372036854775807
                  · rw [if_pos c27] at H
                    have c27b0 := eq_true c27
                    try have c27z1 : decide ((rdOf ByteArray.empty y151 (ji4)).size + (⟨#[32]⟩ : ByteArray).size + t158.size ≤ 9223372036854775807) = true := decide_eq_true (by have h_ := c27; simp only [ByteArray.size_append] at h_; exact h_)
                    try have c27z2 : (9223372036854775807 < (rdOf ByteArray.empty y151 (ji4)).size + (⟨#[32]⟩ : ByteArray).size + t158.size) = False := eq_false (Nat.not_lt.2 (by have h_ := c27; simp only [ByteArray.size_append] at h_; exact h_))
                    try have c27z3 : decide ((rdOf ByteArray.empty y151 (ji4)).size + 1 + t158.size ≤ 9223372036854775807) = true := decide_eq_true (by have h_ := c27; simp only [ByteArray.size_append] at h_; exact h_)
                    try have c27z4 : (9223372036854775807 < (rdOf ByteArray.empty y151 (ji4)).size + 1 + t158.size) = False := eq_false (Nat.not_lt.2 (by have h_ := c27; simp only [ByteArray.size_append] at h_; exact h_))
                    have c27b1 : decide (((rdOf ByteArray.empty y151 (ji4)) ++ (⟨#[32]⟩ : ByteArray)).size + t158.size ≤ 9223372036854775807) = true := decide_eq_true c27
                    try have c27b2 : (9223372036854775807 < ((rdOf ByteArray.empty y151 (ji4)) ++ (⟨#[32]⟩ : ByteArray)).size + t158.size) = False := eq_false (Nat.not_lt.2 c27)
                    obtain rfl := Option.some.inj H
                    have hcz28_0 : wc.cell? ⟨gb150, 0, none⟩ = some (.int .i64 a0_0) := (blk_cell BK150.out 0).trans rfl
                    have hcz28_1 : wc.cell? ⟨gb150, 1, none⟩ = some (.int .i64 a0_1) := (blk_cell BK150.out 1).trans rfl
                    have hcz28_2 : wc.cell? ⟨gb150, 2, none⟩ = some (.int .i64 a0_2) := (blk_cell BK150.out 2).trans rfl
                    have hfz28_0 := blk_frozen BK150.out 0
                    have hfz28_1 := blk_frozen BK150.out 1
                    have hfz28_2 := blk_frozen BK150.out 2
                    go_wp2_with (first | ((with_reducible refine gate_callee (f := 23) rfl ?_); refine goesL_ (some 46) rfl rfl Tryd.func23 (by kernel_rfl) rfl #[.int .i64 a0_1] rfl (by (try simp only [List.map_toArray, List.map_cons, List.map_nil]); first | done | rfl | (simp only [List.length_drop, List.length_take]; rfl)) ?_; (with_reducible refine (strconv_Itoa.calls a0_1 t158 _ ?sideT A26.out).mono ?_); (case sideT => exact tabBelow HT.out (by repeat (first | (with_reducible first | exact HB.out | apply below_alloc | apply pw_below_drewN | apply below_drew1 | refine below_set ?_ GE150.out) | exact HB.out))); rintro e w29 ⟨rfl, hb⟩; refine ⟨_, rfl, ?_⟩; have n0_ := Aside0.mk (blk_below (g := gb150) (o := .cells #[.int .i64 a0_0, .int .i64 a0_1, .int .i64 a0_2] 25 (0, 0)) (by (with_reducible repeat (first | refine blk_drewN ?_ _ | refine blk_drew ?_ | refine blk_alloc ?_ _)); exact BK150.out) hb); have n1_ := Aside0.mk (below_step (by repeat (first | (with_reducible first | exact HB.out | apply below_alloc | apply pw_below_drewN | apply below_drew1 | refine below_set ?_ GE150.out) | exact HB.out)) hb); clear BK150; clear HB; have BK150 := n0_; have HB := n1_; clear n0_ n1_; (try clear hb); (try clear hb2); (try clear hk); (try clear hi)))
                    go_ret
                    exact ⟨by first | rfl | (simp [errW_none, errW_some] <;> rfl) | (simp only [← hji4]; first | rfl | (simp [errW_none, errW_some] <;> rfl)) | (simp [*, errW_none, errW_some] <;> rfl), by repeat (first | (with_reducible first | exact HB.out | apply below_alloc | apply pw_below_drewN | apply below_drew1 | refine below_set ?_ GE150.out) | exact HB.out)⟩
                  · rw [if_neg c27] at H
                    exact absurd H (by simp)
                · rw [if_neg c25] at H
                  exact absurd H (by simp)
              · rw [if_neg c24] at H
                have c24b0 : (a0_0 == 1) = false := beq_eq_false_iff_ne.mpr c24
                have c24b1 : (a0_0 != 1) = true := bne_iff_ne.mpr c24
                by_cases c30 : a0_0 = 2
                · rw [if_pos c30] at H
                  have c30b0 : (a0_0 == 2) = true := beq_iff_eq.mpr c30
                  have c30b1 : (a0_0 != 2) = false := bne_eq_false_iff_eq.mpr c30
                  clear c30
                  by_cases c31 : (rdOf ByteArray.empty y151 (ji4)).size + 1 ≤ 9223372036854775807
                  · rw [if_pos c31] at H
                    have c31b0 := eq_true c31
                    have c31b1 : decide ((rdOf ByteArray.empty y151 (ji4)).size + 1 ≤ 9223372036854775807) = true := decide_eq_true c31
                    try have c31b2 : (9223372036854775807 < (rdOf ByteArray.empty y151 (ji4)).size + 1) = False := eq_false (Nat.not_lt.2 c31)
                    replace H := Option.bind_eq_some_iff.mp H
                    obtain ⟨t159, A320, H⟩ := H
                    replace H : (if ((rdOf ByteArray.empty y151 (ji4)) ++ (⟨#[32]⟩ : ByteArray)).size + t159.size ≤ 9223372036854775807 then (some (((rdOf ByteArray.empty y151 (ji4)) ++ (⟨#[32]⟩ : ByteArray)) ++ t159)) else (none)) = some r := H
                    have A32 := Aside0.mk A320
                    clear A320
                    by_cases c33 : ((rdOf ByteArray.empty y151 (ji4)) ++ (⟨#[32]⟩ : ByteArray)).size + t159.size ≤ 9223372036854775807
                    · rw [if_pos c33] at H
                      have c33b0 := eq_true c33
                      try have c33z1 : decide ((rdOf ByteArray.empty y151 (ji4)).size + (⟨#[32]⟩ : ByteArray).size + t159.size ≤ 9223372036854775807) = true := decide_eq_true (by have h_ := c33; simp only [ByteArray.size_append] at h_; exact h_)
                      try have c33z2 : (9223372036854775807 < (rdOf ByteArray.empty y151 (ji4)).size + (⟨#[32]⟩ : ByteArray).size + t159.size) = False := eq_false (Nat.not_lt.2 (by have h_ := c33; simp only [ByteArray.size_append] at h_; exact h_))
                      try have c33z3 : decide ((rdOf ByteArray.empty y151 (ji4)).size + 1 + t159.size ≤ 9223372036854775807) = true := decide_eq_true (by have h_ := c33; simp only [ByteArray.size_append] at h_; exact h_)
                      try have c33z4 : (9223372036854775807 < (rdOf ByteArray.empty y151 (ji4)).size + 1 + t159.size) = False := eq_false (Nat.not_lt.2 (by have h_ := c33; simp only [ByteArray.size_append] at h_; exact h_))
                      have c33b1 : decide (((rdOf ByteArray.empty y151 (ji4)) ++ (⟨#[32]⟩ : ByteArray)).size + t159.size ≤ 9223372036854775807) = true := decide_eq_true c33
                      try have c33b2 : (9223372036854775807 < ((rdOf ByteArray.empty y151 (ji4)) ++ (⟨#[32]⟩ : ByteArray)).size + t159.size) = False := eq_false (Nat.not_lt.2 c33)
                      obtain rfl := Option.some.inj H
                      have hcz34_0 : wc.cell? ⟨gb150, 0, none⟩ = some (.int .i64 a0_0) := (blk_cell BK150.out 0).trans rfl
                      have hcz34_1 : wc.cell? ⟨gb150, 1, none⟩ = some (.int .i64 a0_1) := (blk_cell BK150.out 1).trans rfl
                      have hcz34_2 : wc.cell? ⟨gb150, 2, none⟩ = some (.int .i64 a0_2) := (blk_cell BK150.out 2).trans rfl
                      have hfz34_0 := blk_frozen BK150.out 0
                      have hfz34_1 := blk_frozen BK150.out 1
                      have hfz34_2 := blk_frozen BK150.out 2
                      go_wp2_with (first | ((with_reducible refine gate_callee (f := 23) rfl ?_); refine goesL_ (some 46) rfl rfl Tryd.func23 (by kernel_rfl) rfl #[.int .i64 a0_1] rfl (by (try simp only [List.map_toArray, List.map_cons, List.map_nil]); first | done | rfl | (simp only [List.length_drop, List.length_take]; rfl)) ?_; (with_reducible refine (strconv_Itoa.calls a0_1 t159 _ ?sideT A32.out).mono ?_); (case sideT => exact tabBelow HT.out (by repeat (first | (with_reducible first | exact HB.out | apply below_alloc | apply pw_below_drewN | apply below_drew1 | refine below_set ?_ GE150.out) | exact HB.out))); rintro e w35 ⟨rfl, hb⟩; refine ⟨_, rfl, ?_⟩; have n0_ := Aside0.mk (blk_below (g := gb150) (o := .cells #[.int .i64 a0_0, .int .i64 a0_1, .int .i64 a0_2] 25 (0, 0)) (by (with_reducible repeat (first | refine blk_drewN ?_ _ | refine blk_drew ?_ | refine blk_alloc ?_ _)); exact BK150.out) hb); have n1_ := Aside0.mk (below_step (by repeat (first | (with_reducible first | exact HB.out | apply below_alloc | apply pw_below_drewN | apply below_drew1 | refine below_set ?_ GE150.out) | exact HB.out)) hb); clear BK150; clear HB; have BK150 := n0_; have HB := n1_; clear n0_ n1_; (try clear hb); (try clear hb2); (try clear hk); (try clear hi)))
                      go_ret
                      exact ⟨by first | rfl | (simp [errW_none, errW_some] <;> rfl) | (simp only [← hji4]; first | rfl | (simp [errW_none, errW_some] <;> rfl)) | (simp [*, errW_none, errW_some] <;> rfl), by repeat (first | (with_reducible first | exact HB.out | apply below_alloc | apply pw_below_drewN | apply below_drew1 | refine below_set ?_ GE150.out) | exact HB.out)⟩
                    · rw [if_neg c33] at H
                      exact absurd H (by simp)
                  · rw [if_neg c31] at H
                    exact absurd H (by simp)
                · rw [if_neg c30] at H
                  have c30b0 : (a0_0 == 2) = false := beq_eq_false_iff_ne.mpr c30
                  have c30b1 : (a0_0 != 2) = true := bne_iff_ne.mpr c30
                  by_cases c36 : a0_0 = 9
                  · rw [if_pos c36] at H
                    have c36b0 : (a0_0 == 9) = true := beq_iff_eq.mpr c36
                    have c36b1 : (a0_0 != 9) = false := bne_eq_false_iff_eq.mpr c36
                    clear c36
                    by_cases c37 : (rdOf ByteArray.empty y151 (ji4)).size + 1 ≤ 9223372036854775807
                    · rw [if_pos c37] at H
                      have c37b0 := eq_true c37
                      have c37b1 : decide ((rdOf ByteArray.empty y151 (ji4)).size + 1 ≤ 9223372036854775807) = true := decide_eq_true c37
                      try have c37b2 : (9223372036854775807 < (rdOf ByteArray.empty y151 (ji4)).size + 1) = False := eq_false (Nat.not_lt.2 c37)
                      replace H := Option.bind_eq_some_iff.mp H
                      obtain ⟨t160, A380, H⟩ := H
                      replace H : (if ((rdOf ByteArray.empty y151 (ji4)) ++ (⟨#[32]⟩ : ByteArray)).size + t160.size ≤ 9223372036854775807 then (some (((rdOf ByteArray.empty y151 (ji4)) ++ (⟨#[32]⟩ : ByteArray)) ++ t160)) else (none)) = some r := H
                      have A38 := Aside0.mk A380
                      clear A380
                      by_cases c39 : ((rdOf ByteArray.empty y151 (ji4)) ++ (⟨#[32]⟩ : ByteArray)).size + t160.size ≤ 9223372036854775807
                      · rw [if_pos c39] at H
                        have c39b0 := eq_true c39
                        try have c39z1 : decide ((rdOf ByteArray.empty y151 (ji4)).size + (⟨#[32]⟩ : ByteArray).size + t160.size ≤ 9223372036854775807) = true := decide_eq_true (by have h_ := c39; simp only [ByteArray.size_append] at h_; exact h_)
                        try have c39z2 : (9223372036854775807 < (rdOf ByteArray.empty y151 (ji4)).size + (⟨#[32]⟩ : ByteArray).size + t160.size) = False := eq_false (Nat.not_lt.2 (by have h_ := c39; simp only [ByteArray.size_append] at h_; exact h_))
                        try have c39z3 : decide ((rdOf ByteArray.empty y151 (ji4)).size + 1 + t160.size ≤ 9223372036854775807) = true := decide_eq_true (by have h_ := c39; simp only [ByteArray.size_append] at h_; exact h_)
                        try have c39z4 : (9223372036854775807 < (rdOf ByteArray.empty y151 (ji4)).size + 1 + t160.size) = False := eq_false (Nat.not_lt.2 (by have h_ := c39; simp only [ByteArray.size_append] at h_; exact h_))
                        have c39b1 : decide (((rdOf ByteArray.empty y151 (ji4)) ++ (⟨#[32]⟩ : ByteArray)).size + t160.size ≤ 9223372036854775807) = true := decide_eq_true c39
                        try have c39b2 : (9223372036854775807 < ((rdOf ByteArray.empty y151 (ji4)) ++ (⟨#[32]⟩ : ByteArray)).size + t160.size) = False := eq_false (Nat.not_lt.2 c39)
                        obtain rfl := Option.some.inj H
                        have hcz40_0 : wc.cell? ⟨gb150, 0, none⟩ = some (.int .i64 a0_0) := (blk_cell BK150.out 0).trans rfl
                        have hcz40_1 : wc.cell? ⟨gb150, 1, none⟩ = some (.int .i64 a0_1) := (blk_cell BK150.out 1).trans rfl
                        have hcz40_2 : wc.cell? ⟨gb150, 2, none⟩ = some (.int .i64 a0_2) := (blk_cell BK150.out 2).trans rfl
                        have hfz40_0 := blk_frozen BK150.out 0
                        have hfz40_1 := blk_frozen BK150.out 1
                        have hfz40_2 := blk_frozen BK150.out 2
                        go_wp2_with (first | ((with_reducible refine gate_callee (f := 23) rfl ?_); refine goesL_ (some 46) rfl rfl Tryd.func23 (by kernel_rfl) rfl #[.int .i64 a0_1] rfl (by (try simp only [List.map_toArray, List.map_cons, List.map_nil]); first | done | rfl | (simp only [List.length_drop, List.length_take]; rfl)) ?_; (with_reducible refine (strconv_Itoa.calls a0_1 t160 _ ?sideT A38.out).mono ?_); (case sideT => exact tabBelow HT.out (by repeat (first | (with_reducible first | exact HB.out | apply below_alloc | apply pw_below_drewN | apply below_drew1 | refine below_set ?_ GE150.out) | exact HB.out))); rintro e w41 ⟨rfl, hb⟩; refine ⟨_, rfl, ?_⟩; have n0_ := Aside0.mk (blk_below (g := gb150) (o := .cells #[.int .i64 a0_0, .int .i64 a0_1, .int .i64 a0_2] 25 (0, 0)) (by (with_reducible repeat (first | refine blk_drewN ?_ _ | refine blk_drew ?_ | refine blk_alloc ?_ _)); exact BK150.out) hb); have n1_ := Aside0.mk (below_step (by repeat (first | (with_reducible first | exact HB.out | apply below_alloc | apply pw_below_drewN | apply below_drew1 | refine below_set ?_ GE150.out) | exact HB.out)) hb); clear BK150; clear HB; have BK150 := n0_; have HB := n1_; clear n0_ n1_; (try clear hb); (try clear hb2); (try clear hk); (try clear hi)))
                        go_ret
                        exact ⟨by first | rfl | (simp [errW_none, errW_some] <;> rfl) | (simp only [← hji4]; first | rfl | (simp [errW_none, errW_some] <;> rfl)) | (simp [*, errW_none, errW_some] <;> rfl), by repeat (first | (with_reducible first | exact HB.out | apply below_alloc | apply pw_below_drewN | apply below_drew1 | refine below_set ?_ GE150.out) | exact HB.out)⟩
                      · rw [if_neg c39] at H
                        exact absurd H (by simp)
                    · rw [if_neg c37] at H
                      exact absurd H (by simp)
                  · rw [if_neg c36] at H
                    have c36b0 : (a0_0 == 9) = false := beq_eq_false_iff_ne.mpr c36
                    have c36b1 : (a0_0 != 9) = true := bne_iff_ne.mpr c36
                    by_cases c42 : a0_0 = 10
                    · rw [if_pos c42] at H
                      have c42b0 : (a0_0 == 10) = true := beq_iff_eq.mpr c42
                      have c42b1 : (a0_0 != 10) = false := bne_eq_false_iff_eq.mpr c42
                      clear c42
                      by_cases c43 : (rdOf ByteArray.empty y151 (ji4)).size + 1 ≤ 9223372036854775807
                      · rw [if_pos c43] at H
                        have c43b0 := eq_true c43
                        have c43b1 : decide ((rdOf ByteArray.empty y151 (ji4)).size + 1 ≤ 9223372036854775807) = true := decide_eq_true c43
                        try have c43b2 : (9223372036854775807 < (rdOf ByteArray.empty y151 (ji4)).size + 1) = False := eq_false (Nat.not_lt.2 c43)
                        replace H := Option.bind_eq_some_iff.mp H
                        obtain ⟨t161, A440, H⟩ := H
                        replace H : (if ((rdOf ByteArray.empty y151 (ji4)) ++ (⟨#[32]⟩ : ByteArray)).size + t161.size ≤ 9223372036854775807 then (some (((rdOf ByteArray.empty y151 (ji4)) ++ (⟨#[32]⟩ : ByteArray)) ++ t161)) else (none)) = some r := H
                        have A44 := Aside0.mk A440
                        clear A440
                        by_cases c45 : ((rdOf ByteArray.empty y151 (ji4)) ++ (⟨#[32]⟩ : ByteArray)).size + t161.size ≤ 9223372036854775807
                        · rw [if_pos c45] at H
                          have c45b0 := eq_true c45
                          try have c45z1 : decide ((rdOf ByteArray.empty y151 (ji4)).size + (⟨#[32]⟩ : ByteArray).size + t161.size ≤ 9223372036854775807) = true := decide_eq_true (by have h_ := c45; simp only [ByteArray.size_append] at h_; exact h_)
                          try have c45z2 : (9223372036854775807 < (rdOf ByteArray.empty y151 (ji4)).size + (⟨#[32]⟩ : ByteArray).size + t161.size) = False := eq_false (Nat.not_lt.2 (by have h_ := c45; simp only [ByteArray.size_append] at h_; exact h_))
                          try have c45z3 : decide ((rdOf ByteArray.empty y151 (ji4)).size + 1 + t161.size ≤ 9223372036854775807) = true := decide_eq_true (by have h_ := c45; simp only [ByteArray.size_append] at h_; exact h_)
                          try have c45z4 : (9223372036854775807 < (rdOf ByteArray.empty y151 (ji4)).size + 1 + t161.size) = False := eq_false (Nat.not_lt.2 (by have h_ := c45; simp only [ByteArray.size_append] at h_; exact h_))
                          have c45b1 : decide (((rdOf ByteArray.empty y151 (ji4)) ++ (⟨#[32]⟩ : ByteArray)).size + t161.size ≤ 9223372036854775807) = true := decide_eq_true c45
                          try have c45b2 : (9223372036854775807 < ((rdOf ByteArray.empty y151 (ji4)) ++ (⟨#[32]⟩ : ByteArray)).size + t161.size) = False := eq_false (Nat.not_lt.2 c45)
                          obtain rfl := Option.some.inj H
                          have hcz46_0 : wc.cell? ⟨gb150, 0, none⟩ = some (.int .i64 a0_0) := (blk_cell BK150.out 0).trans rfl
                          have hcz46_1 : wc.cell? ⟨gb150, 1, none⟩ = some (.int .i64 a0_1) := (blk_cell BK150.out 1).trans rfl
                          have hcz46_2 : wc.cell? ⟨gb150, 2, none⟩ = some (.int .i64 a0_2) := (blk_cell BK150.out 2).trans rfl
                          have hfz46_0 := blk_frozen BK150.out 0
                          have hfz46_1 := blk_frozen BK150.out 1
                          have hfz46_2 := blk_frozen BK150.out 2
                          go_wp2_with (first | ((with_reducible refine gate_callee (f := 23) rfl ?_); refine goesL_ (some 46) rfl rfl Tryd.func23 (by kernel_rfl) rfl #[.int .i64 a0_1] rfl (by (try simp only [List.map_toArray, List.map_cons, List.map_nil]); first | done | rfl | (simp only [List.length_drop, List.length_take]; rfl)) ?_; (with_reducible refine (strconv_Itoa.calls a0_1 t161 _ ?sideT A44.out).mono ?_); (case sideT => exact tabBelow HT.out (by repeat (first | (with_reducible first | exact HB.out | apply below_alloc | apply pw_below_drewN | apply below_drew1 | refine below_set ?_ GE150.out) | exact HB.out))); rintro e w47 ⟨rfl, hb⟩; refine ⟨_, rfl, ?_⟩; have n0_ := Aside0.mk (blk_below (g := gb150) (o := .cells #[.int .i64 a0_0, .int .i64 a0_1, .int .i64 a0_2] 25 (0, 0)) (by (with_reducible repeat (first | refine blk_drewN ?_ _ | refine blk_drew ?_ | refine blk_alloc ?_ _)); exact BK150.out) hb); have n1_ := Aside0.mk (below_step (by repeat (first | (with_reducible first | exact HB.out | apply below_alloc | apply pw_below_drewN | apply below_drew1 | refine below_set ?_ GE150.out) | exact HB.out)) hb); clear BK150; clear HB; have BK150 := n0_; have HB := n1_; clear n0_ n1_; (try clear hb); (try clear hb2); (try clear hk); (try clear hi)))
                          go_ret
                          exact ⟨by first | rfl | (simp [errW_none, errW_some] <;> rfl) | (simp only [← hji4]; first | rfl | (simp [errW_none, errW_some] <;> rfl)) | (simp [*, errW_none, errW_some] <;> rfl), by repeat (first | (with_reducible first | exact HB.out | apply below_alloc | apply pw_below_drewN | apply below_drew1 | refine below_set ?_ GE150.out) | exact HB.out)⟩
                        · rw [if_neg c45] at H
                          exact absurd H (by simp)
                      · rw [if_neg c43] at H
                        exact absurd H (by simp)
                    · rw [if_neg c42] at H
                      have c42b0 : (a0_0 == 10) = false := beq_eq_false_iff_ne.mpr c42
                      have c42b1 : (a0_0 != 10) = true := bne_iff_ne.mpr c42
                      by_cases c48 : a0_0 = 25
                      · rw [if_pos c48] at H
                        have c48b0 : (a0_0 == 25) = true := beq_iff_eq.mpr c48
                        have c48b1 : (a0_0 != 25) = false := bne_eq_false_iff_eq.mpr c48
                        clear c48
                        by_cases c49 : (rdOf ByteArray.empty y151 (ji4)).size + 1 ≤ 9223372036854775807
                        · rw [if_pos c49] at H
                          have c49b0 := eq_true c49
                          have c49b1 : decide ((rdOf ByteArray.empty y151 (ji4)).size + 1 ≤ 9223372036854775807) = true := decide_eq_true c49
                          try have c49b2 : (9223372036854775807 < (rdOf ByteArray.empty y151 (ji4)).size + 1) = False := eq_false (Nat.not_lt.2 c49)
                          replace H := Option.bind_eq_some_iff.mp H
                          obtain ⟨t162, A500, H⟩ := H
                          replace H : (if ((rdOf ByteArray.empty y151 (ji4)) ++ (⟨#[32]⟩ : ByteArray)).size + t162.size ≤ 9223372036854775807 then (some (((rdOf ByteArray.empty y151 (ji4)) ++ (⟨#[32]⟩ : ByteArray)) ++ t162)) else (none)) = some r := H
                          have A50 := Aside0.mk A500
                          clear A500
                          by_cases c51 : ((rdOf ByteArray.empty y151 (ji4)) ++ (⟨#[32]⟩ : ByteArray)).size + t162.size ≤ 9223372036854775807
                          · rw [if_pos c51] at H
                            have c51b0 := eq_true c51
                            try have c51z1 : decide ((rdOf ByteArray.empty y151 (ji4)).size + (⟨#[32]⟩ : ByteArray).size + t162.size ≤ 9223372036854775807) = true := decide_eq_true (by have h_ := c51; simp only [ByteArray.size_append] at h_; exact h_)
                            try have c51z2 : (9223372036854775807 < (rdOf ByteArray.empty y151 (ji4)).size + (⟨#[32]⟩ : ByteArray).size + t162.size) = False := eq_false (Nat.not_lt.2 (by have h_ := c51; simp only [ByteArray.size_append] at h_; exact h_))
                            try have c51z3 : decide ((rdOf ByteArray.empty y151 (ji4)).size + 1 + t162.size ≤ 9223372036854775807) = true := decide_eq_true (by have h_ := c51; simp only [ByteArray.size_append] at h_; exact h_)
                            try have c51z4 : (9223372036854775807 < (rdOf ByteArray.empty y151 (ji4)).size + 1 + t162.size) = False := eq_false (Nat.not_lt.2 (by have h_ := c51; simp only [ByteArray.size_append] at h_; exact h_))
                            have c51b1 : decide (((rdOf ByteArray.empty y151 (ji4)) ++ (⟨#[32]⟩ : ByteArray)).size + t162.size ≤ 9223372036854775807) = true := decide_eq_true c51
                            try have c51b2 : (9223372036854775807 < ((rdOf ByteArray.empty y151 (ji4)) ++ (⟨#[32]⟩ : ByteArray)).size + t162.size) = False := eq_false (Nat.not_lt.2 c51)
                            obtain rfl := Option.some.inj H
                            have hcz52_0 : wc.cell? ⟨gb150, 0, none⟩ = some (.int .i64 a0_0) := (blk_cell BK150.out 0).trans rfl
                            have hcz52_1 : wc.cell? ⟨gb150, 1, none⟩ = some (.int .i64 a0_1) := (blk_cell BK150.out 1).trans rfl
                            have hcz52_2 : wc.cell? ⟨gb150, 2, none⟩ = some (.int .i64 a0_2) := (blk_cell BK150.out 2).trans rfl
                            have hfz52_0 := blk_frozen BK150.out 0
                            have hfz52_1 := blk_frozen BK150.out 1
                            have hfz52_2 := blk_frozen BK150.out 2
                            go_wp2_with (first | ((with_reducible refine gate_callee (f := 23) rfl ?_); refine goesL_ (some 46) rfl rfl Tryd.func23 (by kernel_rfl) rfl #[.int .i64 a0_1] rfl (by (try simp only [List.map_toArray, List.map_cons, List.map_nil]); first | done | rfl | (simp only [List.length_drop, List.length_take]; rfl)) ?_; (with_reducible refine (strconv_Itoa.calls a0_1 t162 _ ?sideT A50.out).mono ?_); (case sideT => exact tabBelow HT.out (by repeat (first | (with_reducible first | exact HB.out | apply below_alloc | apply pw_below_drewN | apply below_drew1 | refine below_set ?_ GE150.out) | exact HB.out))); rintro e w53 ⟨rfl, hb⟩; refine ⟨_, rfl, ?_⟩; have n0_ := Aside0.mk (blk_below (g := gb150) (o := .cells #[.int .i64 a0_0, .int .i64 a0_1, .int .i64 a0_2] 25 (0, 0)) (by (with_reducible repeat (first | refine blk_drewN ?_ _ | refine blk_drew ?_ | refine blk_alloc ?_ _)); exact BK150.out) hb); have n1_ := Aside0.mk (below_step (by repeat (first | (with_reducible first | exact HB.out | apply below_alloc | apply pw_below_drewN | apply below_drew1 | refine below_set ?_ GE150.out) | exact HB.out)) hb); clear BK150; clear HB; have BK150 := n0_; have HB := n1_; clear n0_ n1_; (try clear hb); (try clear hb2); (try clear hk); (try clear hi)))
                            go_ret
                            exact ⟨by first | rfl | (simp [errW_none, errW_some] <;> rfl) | (simp only [← hji4]; first | rfl | (simp [errW_none, errW_some] <;> rfl)) | (simp [*, errW_none, errW_some] <;> rfl), by repeat (first | (with_reducible first | exact HB.out | apply below_alloc | apply pw_below_drewN | apply below_drew1 | refine below_set ?_ GE150.out) | exact HB.out)⟩
                          · rw [if_neg c51] at H
                            exact absurd H (by simp)
                        · rw [if_neg c49] at H
                          exact absurd H (by simp)
                      · rw [if_neg c48] at H
                        have c48b0 : (a0_0 == 25) = false := beq_eq_false_iff_ne.mpr c48
                        have c48b1 : (a0_0 != 25) = true := bne_iff_ne.mpr c48
                        by_cases c54 : a0_0 = 12
                        · rw [if_pos c54] at H
                          have c54b0 : (a0_0 == 12) = true := beq_iff_eq.mpr c54
                          have c54b1 : (a0_0 != 12) = false := bne_eq_false_iff_eq.mpr c54
                          clear c54
                          by_cases c55 : (rdOf ByteArray.empty y151 (ji4)).size + 1 ≤ 9223372036854775807
                          · rw [if_pos c55] at H
                            have c55b0 := eq_true c55
                            have c55b1 : decide ((rdOf ByteArray.empty y151 (ji4)).size + 1 ≤ 9223372036854775807) = true := decide_eq_true c55
                            try have c55b2 : (9223372036854775807 < (rdOf ByteArray.empty y151 (ji4)).size + 1) = False := eq_false (Nat.not_lt.2 c55)
                            replace H := Option.bind_eq_some_iff.mp H
                            obtain ⟨t163, A560, H⟩ := H
                            replace H : (if ((rdOf ByteArray.empty y151 (ji4)) ++ (⟨#[32]⟩ : ByteArray)).size + t163.size ≤ 9223372036854775807 then (some (((rdOf ByteArray.empty y151 (ji4)) ++ (⟨#[32]⟩ : ByteArray)) ++ t163)) else (none)) = some r := H
                            have A56 := Aside0.mk A560
                            clear A560
                            by_cases c57 : ((rdOf ByteArray.empty y151 (ji4)) ++ (⟨#[32]⟩ : ByteArray)).size + t163.size ≤ 9223372036854775807
                            · rw [if_pos c57] at H
                              have c57b0 := eq_true c57
                              try have c57z1 : decide ((rdOf ByteArray.empty y151 (ji4)).size + (⟨#[32]⟩ : ByteArray).size + t163.size ≤ 9223372036854775807) = true := decide_eq_true (by have h_ := c57; simp only [ByteArray.size_append] at h_; exact h_)
                              try have c57z2 : (9223372036854775807 < (rdOf ByteArray.empty y151 (ji4)).size + (⟨#[32]⟩ : ByteArray).size + t163.size) = False := eq_false (Nat.not_lt.2 (by have h_ := c57; simp only [ByteArray.size_append] at h_; exact h_))
                              try have c57z3 : decide ((rdOf ByteArray.empty y151 (ji4)).size + 1 + t163.size ≤ 9223372036854775807) = true := decide_eq_true (by have h_ := c57; simp only [ByteArray.size_append] at h_; exact h_)
                              try have c57z4 : (9223372036854775807 < (rdOf ByteArray.empty y151 (ji4)).size + 1 + t163.size) = False := eq_false (Nat.not_lt.2 (by have h_ := c57; simp only [ByteArray.size_append] at h_; exact h_))
                              have c57b1 : decide (((rdOf ByteArray.empty y151 (ji4)) ++ (⟨#[32]⟩ : ByteArray)).size + t163.size ≤ 9223372036854775807) = true := decide_eq_true c57
                              try have c57b2 : (9223372036854775807 < ((rdOf ByteArray.empty y151 (ji4)) ++ (⟨#[32]⟩ : ByteArray)).size + t163.size) = False := eq_false (Nat.not_lt.2 c57)
                              obtain rfl := Option.some.inj H
                              have hcz58_0 : wc.cell? ⟨gb150, 0, none⟩ = some (.int .i64 a0_0) := (blk_cell BK150.out 0).trans rfl
                              have hcz58_1 : wc.cell? ⟨gb150, 1, none⟩ = some (.int .i64 a0_1) := (blk_cell BK150.out 1).trans rfl
                              have hcz58_2 : wc.cell? ⟨gb150, 2, none⟩ = some (.int .i64 a0_2) := (blk_cell BK150.out 2).trans rfl
                              have hfz58_0 := blk_frozen BK150.out 0
                              have hfz58_1 := blk_frozen BK150.out 1
                              have hfz58_2 := blk_frozen BK150.out 2
                              go_wp2_with (first | ((with_reducible refine gate_callee (f := 23) rfl ?_); refine goesL_ (some 46) rfl rfl Tryd.func23 (by kernel_rfl) rfl #[.int .i64 a0_1] rfl (by (try simp only [List.map_toArray, List.map_cons, List.map_nil]); first | done | rfl | (simp only [List.length_drop, List.length_take]; rfl)) ?_; (with_reducible refine (strconv_Itoa.calls a0_1 t163 _ ?sideT A56.out).mono ?_); (case sideT => exact tabBelow HT.out (by repeat (first | (with_reducible first | exact HB.out | apply below_alloc | apply pw_below_drewN | apply below_drew1 | refine below_set ?_ GE150.out) | exact HB.out))); rintro e w59 ⟨rfl, hb⟩; refine ⟨_, rfl, ?_⟩; have n0_ := Aside0.mk (blk_below (g := gb150) (o := .cells #[.int .i64 a0_0, .int .i64 a0_1, .int .i64 a0_2] 25 (0, 0)) (by (with_reducible repeat (first | refine blk_drewN ?_ _ | refine blk_drew ?_ | refine blk_alloc ?_ _)); exact BK150.out) hb); have n1_ := Aside0.mk (below_step (by repeat (first | (with_reducible first | exact HB.out | apply below_alloc | apply pw_below_drewN | apply below_drew1 | refine below_set ?_ GE150.out) | exact HB.out)) hb); clear BK150; clear HB; have BK150 := n0_; have HB := n1_; clear n0_ n1_; (try clear hb); (try clear hb2); (try clear hk); (try clear hi)))
                              go_ret
                              exact ⟨by first | rfl | (simp [errW_none, errW_some] <;> rfl) | (simp only [← hji4]; first | rfl | (simp [errW_none, errW_some] <;> rfl)) | (simp [*, errW_none, errW_some] <;> rfl), by repeat (first | (with_reducible first | exact HB.out | apply below_alloc | apply pw_below_drewN | apply below_drew1 | refine below_set ?_ GE150.out) | exact HB.out)⟩
                            · rw [if_neg c57] at H
                              exact absurd H (by simp)
                          · rw [if_neg c55] at H
                            exact absurd H (by simp)
                        · rw [if_neg c54] at H
                          have c54b0 : (a0_0 == 12) = false := beq_eq_false_iff_ne.mpr c54
                          have c54b1 : (a0_0 != 12) = true := bne_iff_ne.mpr c54
                          by_cases c60 : a0_0 = 20
                          · rw [if_pos c60] at H
                            have c60b0 : (a0_0 == 20) = true := beq_iff_eq.mpr c60
                            have c60b1 : (a0_0 != 20) = false := bne_eq_false_iff_eq.mpr c60
                            clear c60
                            by_cases c61 : (rdOf ByteArray.empty y151 (ji4)).size + 1 ≤ 9223372036854775807
                            · rw [if_pos c61] at H
                              have c61b0 := eq_true c61
                              have c61b1 : decide ((rdOf ByteArray.empty y151 (ji4)).size + 1 ≤ 9223372036854775807) = true := decide_eq_true c61
                              try have c61b2 : (9223372036854775807 < (rdOf ByteArray.empty y151 (ji4)).size + 1) = False := eq_false (Nat.not_lt.2 c61)
                              replace H := Option.bind_eq_some_iff.mp H
                              obtain ⟨t164, A620, H⟩ := H
                              replace H : (if ((rdOf ByteArray.empty y151 (ji4)) ++ (⟨#[32]⟩ : ByteArray)).size + t164.size ≤ 9223372036854775807 then (some (((rdOf ByteArray.empty y151 (ji4)) ++ (⟨#[32]⟩ : ByteArray)) ++ t164)) else (none)) = some r := H
                              have A62 := Aside0.mk A620
                              clear A620
                              by_cases c63 : ((rdOf ByteArray.empty y151 (ji4)) ++ (⟨#[32]⟩ : ByteArray)).size + t164.size ≤ 9223372036854775807
                              · rw [if_pos c63] at H
                                have c63b0 := eq_true c63
                                try have c63z1 : decide ((rdOf ByteArray.empty y151 (ji4)).size + (⟨#[32]⟩ : ByteArray).size + t164.size ≤ 9223372036854775807) = true := decide_eq_true (by have h_ := c63; simp only [ByteArray.size_append] at h_; exact h_)
                                try have c63z2 : (9223372036854775807 < (rdOf ByteArray.empty y151 (ji4)).size + (⟨#[32]⟩ : ByteArray).size + t164.size) = False := eq_false (Nat.not_lt.2 (by have h_ := c63; simp only [ByteArray.size_append] at h_; exact h_))
                                try have c63z3 : decide ((rdOf ByteArray.empty y151 (ji4)).size + 1 + t164.size ≤ 9223372036854775807) = true := decide_eq_true (by have h_ := c63; simp only [ByteArray.size_append] at h_; exact h_)
                                try have c63z4 : (9223372036854775807 < (rdOf ByteArray.empty y151 (ji4)).size + 1 + t164.size) = False := eq_false (Nat.not_lt.2 (by have h_ := c63; simp only [ByteArray.size_append] at h_; exact h_))
                                have c63b1 : decide (((rdOf ByteArray.empty y151 (ji4)) ++ (⟨#[32]⟩ : ByteArray)).size + t164.size ≤ 9223372036854775807) = true := decide_eq_true c63
                                try have c63b2 : (9223372036854775807 < ((rdOf ByteArray.empty y151 (ji4)) ++ (⟨#[32]⟩ : ByteArray)).size + t164.size) = False := eq_false (Nat.not_lt.2 c63)
                                obtain rfl := Option.some.inj H
                                have hcz64_0 : wc.cell? ⟨gb150, 0, none⟩ = some (.int .i64 a0_0) := (blk_cell BK150.out 0).trans rfl
                                have hcz64_1 : wc.cell? ⟨gb150, 1, none⟩ = some (.int .i64 a0_1) := (blk_cell BK150.out 1).trans rfl
                                have hcz64_2 : wc.cell? ⟨gb150, 2, none⟩ = some (.int .i64 a0_2) := (blk_cell BK150.out 2).trans rfl
                                have hfz64_0 := blk_frozen BK150.out 0
                                have hfz64_1 := blk_frozen BK150.out 1
                                have hfz64_2 := blk_frozen BK150.out 2
                                go_wp2_with (first | ((with_reducible refine gate_callee (f := 23) rfl ?_); refine goesL_ (some 46) rfl rfl Tryd.func23 (by kernel_rfl) rfl #[.int .i64 a0_1] rfl (by (try simp only [List.map_toArray, List.map_cons, List.map_nil]); first | done | rfl | (simp only [List.length_drop, List.length_take]; rfl)) ?_; (with_reducible refine (strconv_Itoa.calls a0_1 t164 _ ?sideT A62.out).mono ?_); (case sideT => exact tabBelow HT.out (by repeat (first | (with_reducible first | exact HB.out | apply below_alloc | apply pw_below_drewN | apply below_drew1 | refine below_set ?_ GE150.out) | exact HB.out))); rintro e w65 ⟨rfl, hb⟩; refine ⟨_, rfl, ?_⟩; have n0_ := Aside0.mk (blk_below (g := gb150) (o := .cells #[.int .i64 a0_0, .int .i64 a0_1, .int .i64 a0_2] 25 (0, 0)) (by (with_reducible repeat (first | refine blk_drewN ?_ _ | refine blk_drew ?_ | refine blk_alloc ?_ _)); exact BK150.out) hb); have n1_ := Aside0.mk (below_step (by repeat (first | (with_reducible first | exact HB.out | apply below_alloc | apply pw_below_drewN | apply below_drew1 | refine below_set ?_ GE150.out) | exact HB.out)) hb); clear BK150; clear HB; have BK150 := n0_; have HB := n1_; clear n0_ n1_; (try clear hb); (try clear hb2); (try clear hk); (try clear hi)))
                                go_ret
                                exact ⟨by first | rfl | (simp [errW_none, errW_some] <;> rfl) | (simp only [← hji4]; first | rfl | (simp [errW_none, errW_some] <;> rfl)) | (simp [*, errW_none, errW_some] <;> rfl), by repeat (first | (with_reducible first | exact HB.out | apply below_alloc | apply pw_below_drewN | apply below_drew1 | refine below_set ?_ GE150.out) | exact HB.out)⟩
                              · rw [if_neg c63] at H
                                exact absurd H (by simp)
                            · rw [if_neg c61] at H
                              exact absurd H (by simp)
                          · rw [if_neg c60] at H
                            have c60b0 : (a0_0 == 20) = false := beq_eq_false_iff_ne.mpr c60
                            have c60b1 : (a0_0 != 20) = true := bne_iff_ne.mpr c60
                            by_cases c66 : a0_0 = 21
                            · rw [if_pos c66] at H
                              have c66b0 : (a0_0 == 21) = true := beq_iff_eq.mpr c66
                              have c66b1 : (a0_0 != 21) = false := bne_eq_false_iff_eq.mpr c66
                              clear c66
                              by_cases c67 : (rdOf ByteArray.empty y151 (ji4)).size + 1 ≤ 9223372036854775807
                              · rw [if_pos c67] at H
                                have c67b0 := eq_true c67
                                have c67b1 : decide ((rdOf ByteArray.empty y151 (ji4)).size + 1 ≤ 9223372036854775807) = true := decide_eq_true c67
                                try have c67b2 : (9223372036854775807 < (rdOf ByteArray.empty y151 (ji4)).size + 1) = False := eq_false (Nat.not_lt.2 c67)
                                replace H := Option.bind_eq_some_iff.mp H
                                obtain ⟨t165, A680, H⟩ := H
                                replace H : (if ((rdOf ByteArray.empty y151 (ji4)) ++ (⟨#[32]⟩ : ByteArray)).size + t165.size ≤ 9223372036854775807 then (some (((rdOf ByteArray.empty y151 (ji4)) ++ (⟨#[32]⟩ : ByteArray)) ++ t165)) else (none)) = some r := H
                                have A68 := Aside0.mk A680
                                clear A680
                                by_cases c69 : ((rdOf ByteArray.empty y151 (ji4)) ++ (⟨#[32]⟩ : ByteArray)).size + t165.size ≤ 9223372036854775807
                                · rw [if_pos c69] at H
                                  have c69b0 := eq_true c69
                                  try have c69z1 : decide ((rdOf ByteArray.empty y151 (ji4)).size + (⟨#[32]⟩ : ByteArray).size + t165.size ≤ 9223372036854775807) = true := decide_eq_true (by have h_ := c69; simp only [ByteArray.size_append] at h_; exact h_)
                                  try have c69z2 : (9223372036854775807 < (rdOf ByteArray.empty y151 (ji4)).size + (⟨#[32]⟩ : ByteArray).size + t165.size) = False := eq_false (Nat.not_lt.2 (by have h_ := c69; simp only [ByteArray.size_append] at h_; exact h_))
                                  try have c69z3 : decide ((rdOf ByteArray.empty y151 (ji4)).size + 1 + t165.size ≤ 9223372036854775807) = true := decide_eq_true (by have h_ := c69; simp only [ByteArray.size_append] at h_; exact h_)
                                  try have c69z4 : (9223372036854775807 < (rdOf ByteArray.empty y151 (ji4)).size + 1 + t165.size) = False := eq_false (Nat.not_lt.2 (by have h_ := c69; simp only [ByteArray.size_append] at h_; exact h_))
                                  have c69b1 : decide (((rdOf ByteArray.empty y151 (ji4)) ++ (⟨#[32]⟩ : ByteArray)).size + t165.size ≤ 9223372036854775807) = true := decide_eq_true c69
                                  try have c69b2 : (9223372036854775807 < ((rdOf ByteArray.empty y151 (ji4)) ++ (⟨#[32]⟩ : ByteArray)).size + t165.size) = False := eq_false (Nat.not_lt.2 c69)
                                  obtain rfl := Option.some.inj H
                                  have hcz70_0 : wc.cell? ⟨gb150, 0, none⟩ = some (.int .i64 a0_0) := (blk_cell BK150.out 0).trans rfl
                                  have hcz70_1 : wc.cell? ⟨gb150, 1, none⟩ = some (.int .i64 a0_1) := (blk_cell BK150.out 1).trans rfl
                                  have hcz70_2 : wc.cell? ⟨gb150, 2, none⟩ = some (.int .i64 a0_2) := (blk_cell BK150.out 2).trans rfl
                                  have hfz70_0 := blk_frozen BK150.out 0
                                  have hfz70_1 := blk_frozen BK150.out 1
                                  have hfz70_2 := blk_frozen BK150.out 2
                                  go_wp2_with (first | ((with_reducible refine gate_callee (f := 23) rfl ?_); refine goesL_ (some 46) rfl rfl Tryd.func23 (by kernel_rfl) rfl #[.int .i64 a0_1] rfl (by (try simp only [List.map_toArray, List.map_cons, List.map_nil]); first | done | rfl | (simp only [List.length_drop, List.length_take]; rfl)) ?_; (with_reducible refine (strconv_Itoa.calls a0_1 t165 _ ?sideT A68.out).mono ?_); (case sideT => exact tabBelow HT.out (by repeat (first | (with_reducible first | exact HB.out | apply below_alloc | apply pw_below_drewN | apply below_drew1 | refine below_set ?_ GE150.out) | exact HB.out))); rintro e w71 ⟨rfl, hb⟩; refine ⟨_, rfl, ?_⟩; have n0_ := Aside0.mk (blk_below (g := gb150) (o := .cells #[.int .i64 a0_0, .int .i64 a0_1, .int .i64 a0_2] 25 (0, 0)) (by (with_reducible repeat (first | refine blk_drewN ?_ _ | refine blk_drew ?_ | refine blk_alloc ?_ _)); exact BK150.out) hb); have n1_ := Aside0.mk (below_step (by repeat (first | (with_reducible first | exact HB.out | apply below_alloc | apply pw_below_drewN | apply below_drew1 | refine below_set ?_ GE150.out) | exact HB.out)) hb); clear BK150; clear HB; have BK150 := n0_; have HB := n1_; clear n0_ n1_; (try clear hb); (try clear hb2); (try clear hk); (try clear hi)))
                                  go_ret
                                  exact ⟨by first | rfl | (simp [errW_none, errW_some] <;> rfl) | (simp only [← hji4]; first | rfl | (simp [errW_none, errW_some] <;> rfl)) | (simp [*, errW_none, errW_some] <;> rfl), by repeat (first | (with_reducible first | exact HB.out | apply below_alloc | apply pw_below_drewN | apply below_drew1 | refine below_set ?_ GE150.out) | exact HB.out)⟩
                                · rw [if_neg c69] at H
                                  exact absurd H (by simp)
                              · rw [if_neg c67] at H
                                exact absurd H (by simp)
                            · rw [if_neg c66] at H
                              have c66b0 : (a0_0 == 21) = false := beq_eq_false_iff_ne.mpr c66
                              have c66b1 : (a0_0 != 21) = true := bne_iff_ne.mpr c66
                              by_cases c72 : a0_0 = 24
                              · rw [if_pos c72] at H
                                have c72b0 : (a0_0 == 24) = true := beq_iff_eq.mpr c72
                                have c72b1 : (a0_0 != 24) = false := bne_eq_false_iff_eq.mpr c72
                                clear c72
                                by_cases c73 : (rdOf ByteArray.empty y151 (ji4)).size + 1 ≤ 9223372036854775807
                                · rw [if_pos c73] at H
                                  have c73b0 := eq_true c73
                                  have c73b1 : decide ((rdOf ByteArray.empty y151 (ji4)).size + 1 ≤ 9223372036854775807) = true := decide_eq_true c73
                                  try have c73b2 : (9223372036854775807 < (rdOf ByteArray.empty y151 (ji4)).size + 1) = False := eq_false (Nat.not_lt.2 c73)
                                  replace H := Option.bind_eq_some_iff.mp H
                                  obtain ⟨t166, A740, H⟩ := H
                                  replace H : (if ((rdOf ByteArray.empty y151 (ji4)) ++ (⟨#[32]⟩ : ByteArray)).size + t166.size ≤ 9223372036854775807 then (some (((rdOf ByteArray.empty y151 (ji4)) ++ (⟨#[32]⟩ : ByteArray)) ++ t166)) else (none)) = some r := H
                                  have A74 := Aside0.mk A740
                                  clear A740
                                  by_cases c75 : ((rdOf ByteArray.empty y151 (ji4)) ++ (⟨#[32]⟩ : ByteArray)).size + t166.size ≤ 9223372036854775807
                                  · rw [if_pos c75] at H
                                    have c75b0 := eq_true c75
                                    try have c75z1 : decide ((rdOf ByteArray.empty y151 (ji4)).size + (⟨#[32]⟩ : ByteArray).size + t166.size ≤ 9223372036854775807) = true := decide_eq_true (by have h_ := c75; simp only [ByteArray.size_append] at h_; exact h_)
                                    try have c75z2 : (9223372036854775807 < (rdOf ByteArray.empty y151 (ji4)).size + (⟨#[32]⟩ : ByteArray).size + t166.size) = False := eq_false (Nat.not_lt.2 (by have h_ := c75; simp only [ByteArray.size_append] at h_; exact h_))
                                    try have c75z3 : decide ((rdOf ByteArray.empty y151 (ji4)).size + 1 + t166.size ≤ 9223372036854775807) = true := decide_eq_true (by have h_ := c75; simp only [ByteArray.size_append] at h_; exact h_)
                                    try have c75z4 : (9223372036854775807 < (rdOf ByteArray.empty y151 (ji4)).size + 1 + t166.size) = False := eq_false (Nat.not_lt.2 (by have h_ := c75; simp only [ByteArray.size_append] at h_; exact h_))
                                    have c75b1 : decide (((rdOf ByteArray.empty y151 (ji4)) ++ (⟨#[32]⟩ : ByteArray)).size + t166.size ≤ 9223372036854775807) = true := decide_eq_true c75
                                    try have c75b2 : (9223372036854775807 < ((rdOf ByteArray.empty y151 (ji4)) ++ (⟨#[32]⟩ : ByteArray)).size + t166.size) = False := eq_false (Nat.not_lt.2 c75)
                                    obtain rfl := Option.some.inj H
                                    have hcz76_0 : wc.cell? ⟨gb150, 0, none⟩ = some (.int .i64 a0_0) := (blk_cell BK150.out 0).trans rfl
                                    have hcz76_1 : wc.cell? ⟨gb150, 1, none⟩ = some (.int .i64 a0_1) := (blk_cell BK150.out 1).trans rfl
                                    have hcz76_2 : wc.cell? ⟨gb150, 2, none⟩ = some (.int .i64 a0_2) := (blk_cell BK150.out 2).trans rfl
                                    have hfz76_0 := blk_frozen BK150.out 0
                                    have hfz76_1 := blk_frozen BK150.out 1
                                    have hfz76_2 := blk_frozen BK150.out 2
                                    go_wp2_with (first | ((with_reducible refine gate_callee (f := 23) rfl ?_); refine goesL_ (some 46) rfl rfl Tryd.func23 (by kernel_rfl) rfl #[.int .i64 a0_1] rfl (by (try simp only [List.map_toArray, List.map_cons, List.map_nil]); first | done | rfl | (simp only [List.length_drop, List.length_take]; rfl)) ?_; (with_reducible refine (strconv_Itoa.calls a0_1 t166 _ ?sideT A74.out).mono ?_); (case sideT => exact tabBelow HT.out (by repeat (first | (with_reducible first | exact HB.out | apply below_alloc | apply pw_below_drewN | apply below_drew1 | refine below_set ?_ GE150.out) | exact HB.out))); rintro e w77 ⟨rfl, hb⟩; refine ⟨_, rfl, ?_⟩; have n0_ := Aside0.mk (blk_below (g := gb150) (o := .cells #[.int .i64 a0_0, .int .i64 a0_1, .int .i64 a0_2] 25 (0, 0)) (by (with_reducible repeat (first | refine blk_drewN ?_ _ | refine blk_drew ?_ | refine blk_alloc ?_ _)); exact BK150.out) hb); have n1_ := Aside0.mk (below_step (by repeat (first | (with_reducible first | exact HB.out | apply below_alloc | apply pw_below_drewN | apply below_drew1 | refine below_set ?_ GE150.out) | exact HB.out)) hb); clear BK150; clear HB; have BK150 := n0_; have HB := n1_; clear n0_ n1_; (try clear hb); (try clear hb2); (try clear hk); (try clear hi)))
                                    go_ret
                                    exact ⟨by first | rfl | (simp [errW_none, errW_some] <;> rfl) | (simp only [← hji4]; first | rfl | (simp [errW_none, errW_some] <;> rfl)) | (simp [*, errW_none, errW_some] <;> rfl), by repeat (first | (with_reducible first | exact HB.out | apply below_alloc | apply pw_below_drewN | apply below_drew1 | refine below_set ?_ GE150.out) | exact HB.out)⟩
                                  · rw [if_neg c75] at H
                                    exact absurd H (by simp)
                                · rw [if_neg c73] at H
                                  exact absurd H (by simp)
                              · rw [if_neg c72] at H
                                have c72b0 : (a0_0 == 24) = false := beq_eq_false_iff_ne.mpr c72
                                have c72b1 : (a0_0 != 24) = true := bne_iff_ne.mpr c72
                                obtain rfl := Option.some.inj H
                                go_wp2
                                go_ret
                                exact ⟨by first | rfl | (simp [errW_none, errW_some] <;> rfl) | (simp only [← hji4]; first | rfl | (simp [errW_none, errW_some] <;> rfl)) | (simp [*, errW_none, errW_some] <;> rfl), by repeat (first | (with_reducible first | exact HB.out | apply below_alloc | apply pw_below_drewN | apply below_drew1 | refine below_set ?_ GE150.out) | exact HB.out)⟩
      · rw [if_neg c6] at H
        exact absurd H (by simp)
    · rw [if_neg c5] at H
      exact absurd H (by simp)
  · replace c3 := Bool.eq_false_iff.mpr c3
    subst c3
    have H1 : (some (⟨#[]⟩ : ByteArray)) = some r := by rw [if_neg (show ¬ (false = true) by decide)] at H; exact H
    clear H
    have H := H1
    clear H1
    obtain rfl := Option.some.inj H
    go_enter Tryd.func8, Tryd.ntmps8
    go_wp2_with (first | ((with_reducible refine gate_dst (N := 1) rfl ?_); refine box_event ?hg (N := 1) ?hd (cs := #[.int .i64 a0_0, .int .i64 a0_1, .int .i64 a0_2]) (t := 25) ?hr ?_; (case hd => rfl); (case hg => rfl); (case hr => first | (go_simp; done) | (go_simp; rfl)); intro gb150 hg w78 hbox hb; have n0_ := Aside0.mk (below_step (by repeat (first | (with_reducible first | exact HB.out | apply below_alloc | apply pw_below_drewN | apply below_drew1) | exact HB.out)) hb); have n1_ := Aside0.mk (hbox); have n2_ := Aside0.mk ((by rw [hg]; exact (below_size (by repeat (first | (with_reducible first | exact HB.out | apply below_alloc | apply pw_below_drewN | apply below_drew1) | exact HB.out))) : w.heap.size ≤ gb150)); have n3_ := Aside0.mk ((by rw [hg]; exact (below_size (by repeat (first | (with_reducible first | exact HB.out | apply below_alloc | apply pw_below_drewN | apply below_drew1) | exact HB.out))) : w.heap.size ≤ gb150)); clear HB; have HB := n0_; have BK150 := n1_; have GW150 := n2_; have GE150 := n3_; clear n0_ n1_ n2_ n3_; clear hb hbox hg) | ((with_reducible refine gate_dst (N := 5) rfl ?_); refine Kd.R_lit Kd.string _ 9 ?hg (N := 5) ?hd (xs := ([(⟨#[105, 110, 116]⟩ : ByteArray), (⟨#[116, 101, 120, 116]⟩ : ByteArray), (⟨#[117, 110, 100, 101, 102]⟩ : ByteArray), (⟨#[110, 117, 108, 108]⟩ : ByteArray), (⟨#[116, 114, 117, 101]⟩ : ByteArray), (⟨#[102, 97, 108, 115, 101]⟩ : ByteArray), (⟨#[108, 111, 97, 100]⟩ : ByteArray), (⟨#[115, 116, 111, 114, 101]⟩ : ByteArray), (⟨#[103, 101, 116]⟩ : ByteArray), (⟨#[112, 117, 116]⟩ : ByteArray), (⟨#[111, 98, 106]⟩ : ByteArray), (⟨#[99, 97, 108, 108]⟩ : ByteArray), (⟨#[114, 101, 116, 117, 114, 110]⟩ : ByteArray), (⟨#[97, 100, 100]⟩ : ByteArray), (⟨#[115, 117, 98]⟩ : ByteArray), (⟨#[109, 117, 108]⟩ : ByteArray), (⟨#[108, 101, 115, 115]⟩ : ByteArray), (⟨#[115, 97, 109, 101]⟩ : ByteArray), (⟨#[110, 111, 116]⟩ : ByteArray), (⟨#[106, 117, 109, 112]⟩ : ByteArray), (⟨#[101, 108, 115, 101]⟩ : ByteArray), (⟨#[112, 114, 105, 110, 116]⟩ : ByteArray), (⟨#[112, 111, 112]⟩ : ByteArray), (⟨#[102, 117, 110]⟩ : ByteArray), (⟨#[102, 105, 101, 108, 100]⟩ : ByteArray)] : List ByteArray)) (inner := [.string (⟨#[105, 110, 116]⟩ : ByteArray), .string (⟨#[116, 101, 120, 116]⟩ : ByteArray), .string (⟨#[117, 110, 100, 101, 102]⟩ : ByteArray), .string (⟨#[110, 117, 108, 108]⟩ : ByteArray), .string (⟨#[116, 114, 117, 101]⟩ : ByteArray), .string (⟨#[102, 97, 108, 115, 101]⟩ : ByteArray), .string (⟨#[108, 111, 97, 100]⟩ : ByteArray), .string (⟨#[115, 116, 111, 114, 101]⟩ : ByteArray), .string (⟨#[103, 101, 116]⟩ : ByteArray), .string (⟨#[112, 117, 116]⟩ : ByteArray), .string (⟨#[111, 98, 106]⟩ : ByteArray), .string (⟨#[99, 97, 108, 108]⟩ : ByteArray), .string (⟨#[114, 101, 116, 117, 114, 110]⟩ : ByteArray), .string (⟨#[97, 100, 100]⟩ : ByteArray), .string (⟨#[115, 117, 98]⟩ : ByteArray), .string (⟨#[109, 117, 108]⟩ : ByteArray), .string (⟨#[108, 101, 115, 115]⟩ : ByteArray), .string (⟨#[115, 97, 109, 101]⟩ : ByteArray), .string (⟨#[110, 111, 116]⟩ : ByteArray), .string (⟨#[106, 117, 109, 112]⟩ : ByteArray), .string (⟨#[101, 108, 115, 101]⟩ : ByteArray), .string (⟨#[112, 114, 105, 110, 116]⟩ : ByteArray), .string (⟨#[112, 111, 112]⟩ : ByteArray), .string (⟨#[102, 117, 110]⟩ : ByteArray), .string (⟨#[102, 105, 101, 108, 100]⟩ : ByteArray)]) (ok := fun _ => True) (okp := fun _ => True) ?hr ?hp (fun _ hk => hk) trivial (Below.refl _ _) (Nat.le_refl _) (by simp) ?_; (case hd => rfl); (case hg => rfl); (case hr => first | (go_simp; done) | (go_simp; rfl)); (case hp => exact (Reps.one (show Kd.M Kd.string _ _ _ (⟨#[105, 110, 116]⟩ : ByteArray) [.string (⟨#[105, 110, 116]⟩ : ByteArray)] from rfl) (Reps.one (show Kd.M Kd.string _ _ _ (⟨#[116, 101, 120, 116]⟩ : ByteArray) [.string (⟨#[116, 101, 120, 116]⟩ : ByteArray)] from rfl) (Reps.one (show Kd.M Kd.string _ _ _ (⟨#[117, 110, 100, 101, 102]⟩ : ByteArray) [.string (⟨#[117, 110, 100, 101, 102]⟩ : ByteArray)] from rfl) (Reps.one (show Kd.M Kd.string _ _ _ (⟨#[110, 117, 108, 108]⟩ : ByteArray) [.string (⟨#[110, 117, 108, 108]⟩ : ByteArray)] from rfl) (Reps.one (show Kd.M Kd.string _ _ _ (⟨#[116, 114, 117, 101]⟩ : ByteArray) [.string (⟨#[116, 114, 117, 101]⟩ : ByteArray)] from rfl) (Reps.one (show Kd.M Kd.string _ _ _ (⟨#[102, 97, 108, 115, 101]⟩ : ByteArray) [.string (⟨#[102, 97, 108, 115, 101]⟩ : ByteArray)] from rfl) (Reps.one (show Kd.M Kd.string _ _ _ (⟨#[108, 111, 97, 100]⟩ : ByteArray) [.string (⟨#[108, 111, 97, 100]⟩ : ByteArray)] from rfl) (Reps.one (show Kd.M Kd.string _ _ _ (⟨#[115, 116, 111, 114, 101]⟩ : ByteArray) [.string (⟨#[115, 116, 111, 114, 101]⟩ : ByteArray)] from rfl) (Reps.one (show Kd.M Kd.string _ _ _ (⟨#[103, 101, 116]⟩ : ByteArray) [.string (⟨#[103, 101, 116]⟩ : ByteArray)] from rfl) (Reps.one (show Kd.M Kd.string _ _ _ (⟨#[112, 117, 116]⟩ : ByteArray) [.string (⟨#[112, 117, 116]⟩ : ByteArray)] from rfl) (Reps.one (show Kd.M Kd.string _ _ _ (⟨#[111, 98, 106]⟩ : ByteArray) [.string (⟨#[111, 98, 106]⟩ : ByteArray)] from rfl) (Reps.one (show Kd.M Kd.string _ _ _ (⟨#[99, 97, 108, 108]⟩ : ByteArray) [.string (⟨#[99, 97, 108, 108]⟩ : ByteArray)] from rfl) (Reps.one (show Kd.M Kd.string _ _ _ (⟨#[114, 101, 116, 117, 114, 110]⟩ : ByteArray) [.string (⟨#[114, 101, 116, 117, 114, 110]⟩ : ByteArray)] from rfl) (Reps.one (show Kd.M Kd.string _ _ _ (⟨#[97, 100, 100]⟩ : ByteArray) [.string (⟨#[97, 100, 100]⟩ : ByteArray)] from rfl) (Reps.one (show Kd.M Kd.string _ _ _ (⟨#[115, 117, 98]⟩ : ByteArray) [.string (⟨#[115, 117, 98]⟩ : ByteArray)] from rfl) (Reps.one (show Kd.M Kd.string _ _ _ (⟨#[109, 117, 108]⟩ : ByteArray) [.string (⟨#[109, 117, 108]⟩ : ByteArray)] from rfl) (Reps.one (show Kd.M Kd.string _ _ _ (⟨#[108, 101, 115, 115]⟩ : ByteArray) [.string (⟨#[108, 101, 115, 115]⟩ : ByteArray)] from rfl) (Reps.one (show Kd.M Kd.string _ _ _ (⟨#[115, 97, 109, 101]⟩ : ByteArray) [.string (⟨#[115, 97, 109, 101]⟩ : ByteArray)] from rfl) (Reps.one (show Kd.M Kd.string _ _ _ (⟨#[110, 111, 116]⟩ : ByteArray) [.string (⟨#[110, 111, 116]⟩ : ByteArray)] from rfl) (Reps.one (show Kd.M Kd.string _ _ _ (⟨#[106, 117, 109, 112]⟩ : ByteArray) [.string (⟨#[106, 117, 109, 112]⟩ : ByteArray)] from rfl) (Reps.one (show Kd.M Kd.string _ _ _ (⟨#[101, 108, 115, 101]⟩ : ByteArray) [.string (⟨#[101, 108, 115, 101]⟩ : ByteArray)] from rfl) (Reps.one (show Kd.M Kd.string _ _ _ (⟨#[112, 114, 105, 110, 116]⟩ : ByteArray) [.string (⟨#[112, 114, 105, 110, 116]⟩ : ByteArray)] from rfl) (Reps.one (show Kd.M Kd.string _ _ _ (⟨#[112, 111, 112]⟩ : ByteArray) [.string (⟨#[112, 111, 112]⟩ : ByteArray)] from rfl) (Reps.one (show Kd.M Kd.string _ _ _ (⟨#[102, 117, 110]⟩ : ByteArray) [.string (⟨#[102, 117, 110]⟩ : ByteArray)] from rfl) (Reps.one (show Kd.M Kd.string _ _ _ (⟨#[102, 105, 101, 108, 100]⟩ : ByteArray) [.string (⟨#[102, 105, 101, 108, 100]⟩ : ByteArray)] from rfl) (Reps.none _ _))))))))))))))))))))))))))); intro v152 w79 ho80 hb hg_ hnew_; clear hg_ hnew_; (first | rw [← Ny151.out] at ho80 | (simp only [Int.reduceToNat] at ho80; rw [← Ny151.out] at ho80)); have n0_ := Aside0.mk (Kd.R_lower ho80 (below_size (by repeat (first | (with_reducible first | exact HB.out | apply below_alloc | apply pw_below_drewN | apply below_drew1 | refine below_set ?_ GE150.out) | exact HB.out)))); have n1_ := Aside0.mk (blk_below (g := gb150) (o := .cells #[.int .i64 a0_0, .int .i64 a0_1, .int .i64 a0_2] 25 (0, 0)) (by (with_reducible repeat (first | refine blk_drewN ?_ _ | refine blk_drew ?_ | refine blk_alloc ?_ _)); exact BK150.out) hb); have n2_ := Aside0.mk (below_step (by repeat (first | (with_reducible first | exact HB.out | apply below_alloc | apply pw_below_drewN | apply below_drew1 | refine below_set ?_ GE150.out) | exact HB.out)) hb); clear BK150; clear HB; have HO153 := n0_; have BK150 := n1_; have HB := n2_; clear n0_ n1_ n2_; clear hb ho80; have hcz81_0 : w79.cell? ⟨gb150, 0, none⟩ = some (.int .i64 a0_0) := (blk_cell BK150.out 0).trans rfl; have hcz81_1 : w79.cell? ⟨gb150, 1, none⟩ = some (.int .i64 a0_1) := (blk_cell BK150.out 1).trans rfl; have hcz81_2 : w79.cell? ⟨gb150, 2, none⟩ = some (.int .i64 a0_2) := (blk_cell BK150.out 2).trans rfl; have hfz81_0 := blk_frozen BK150.out 0; have hfz81_1 := blk_frozen BK150.out 1; have hfz81_2 := blk_frozen BK150.out 2) | ((with_reducible refine gate_callee (f := 22) rfl ?_); refine goesL_ (some 8) rfl rfl Tryd.func22 (by kernel_rfl) rfl #[.int .i64 a0_0, .int .i64 1, .int .i64 25] rfl (by (try simp only [List.map_toArray, List.map_cons, List.map_nil]); first | done | rfl | (simp only [List.length_drop, List.length_take]; rfl)) ?_; (with_reducible refine (impl_within.calls a0_0 1 25 false _ A2.out).mono ?_); rintro e w' ⟨rfl, ⟨nd, rfl⟩⟩; refine ⟨_, rfl, ?_⟩))
    go_ret
    exact ⟨by first | rfl | (simp [errW_none, errW_some] <;> rfl) | (simp [*, errW_none, errW_some] <;> rfl), by repeat (first | (with_reducible first | exact HB.out | apply below_alloc | apply pw_below_drewN | apply below_drew1 | refine below_set ?_ GE150.out) | exact HB.out)⟩

end Go.Proofs.YtpmeopkjfhgdlaaDoor.XFnExactCodeText
