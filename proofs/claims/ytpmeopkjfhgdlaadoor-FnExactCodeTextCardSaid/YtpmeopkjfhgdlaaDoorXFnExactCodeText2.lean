-- Written by xp.py of this workplace out of Lean's own print of the translation. Not trusted: Lean checks it.
import Derived.Test.YtpmeopkjfhgdlaaDoorXFnExactCodeText0
import Derived.Test.YtpmeopkjfhgdlaaDoorXFnExactCodeText1
namespace Go.Proofs.YtpmeopkjfhgdlaaDoor.XFnExactCodeText
open Go.RowKit Go.Proofs.YtpmeopkjfhgdlaaDoorW.PrintWords Go.Proofs.YtpmeopkjfhgdlaaDoorW.PrintLast Go.Proofs.YtpmeopkjfhgdlaaDoorW.PrintMore
attribute [local go_sem] max2_int min2_int max_two min_two max_three min_three max_four min_four   -- for this text's walks alone
set_option linter.unusedVariables false
set_option linter.unusedSimpArgs false

/-! ### spec_StepText: function 6 -/
def spec_StepText.j0 : Nat → ByteArray → Int → Bool → Int → Int → Int → Option (ByteArray)
  | 0, _, _, _, _, _, _ => none
  | k + 1, x3, x14, x15, x113000, x113001, x113002 => if x15 = true then (if x3.size + 1 ≤ 9223372036854775807 then ((spec_l7Digits.f k x113001).bind fun t118 => (if (x3 ++ (⟨#[32]⟩ : ByteArray)).size + t118.size ≤ 9223372036854775807 then (if ((x3 ++ (⟨#[32]⟩ : ByteArray)) ++ t118).size + 1 ≤ 9223372036854775807 then ((spec_l7Digits.f k x113002).bind fun t119 => (if (((x3 ++ (⟨#[32]⟩ : ByteArray)) ++ t118) ++ (⟨#[32]⟩ : ByteArray)).size + t119.size ≤ 9223372036854775807 then (some ((((x3 ++ (⟨#[32]⟩ : ByteArray)) ++ t118) ++ (⟨#[32]⟩ : ByteArray)) ++ t119)) else (none))) else (none)) else (none))) else (none)) else (if x14 = 1 then (if x3.size + 1 ≤ 9223372036854775807 then ((spec_l7Digits.f k x113001).bind fun t120 => (if (x3 ++ (⟨#[32]⟩ : ByteArray)).size + t120.size ≤ 9223372036854775807 then (some ((x3 ++ (⟨#[32]⟩ : ByteArray)) ++ t120)) else (none))) else (none)) else (if x14 = 2 then (if x3.size + 1 ≤ 9223372036854775807 then ((spec_l7Digits.f k x113001).bind fun t121 => (if (x3 ++ (⟨#[32]⟩ : ByteArray)).size + t121.size ≤ 9223372036854775807 then (some ((x3 ++ (⟨#[32]⟩ : ByteArray)) ++ t121)) else (none))) else (none)) else (if x14 = 9 then (if x3.size + 1 ≤ 9223372036854775807 then ((spec_l7Digits.f k x113001).bind fun t122 => (if (x3 ++ (⟨#[32]⟩ : ByteArray)).size + t122.size ≤ 9223372036854775807 then (some ((x3 ++ (⟨#[32]⟩ : ByteArray)) ++ t122)) else (none))) else (none)) else (if x14 = 10 then (if x3.size + 1 ≤ 9223372036854775807 then ((spec_l7Digits.f k x113001).bind fun t123 => (if (x3 ++ (⟨#[32]⟩ : ByteArray)).size + t123.size ≤ 9223372036854775807 then (some ((x3 ++ (⟨#[32]⟩ : ByteArray)) ++ t123)) else (none))) else (none)) else (if x14 = 25 then (if x3.size + 1 ≤ 9223372036854775807 then ((spec_l7Digits.f k x113001).bind fun t124 => (if (x3 ++ (⟨#[32]⟩ : ByteArray)).size + t124.size ≤ 9223372036854775807 then (some ((x3 ++ (⟨#[32]⟩ : ByteArray)) ++ t124)) else (none))) else (none)) else (if x14 = 12 then (if x3.size + 1 ≤ 9223372036854775807 then ((spec_l7Digits.f k x113001).bind fun t125 => (if (x3 ++ (⟨#[32]⟩ : ByteArray)).size + t125.size ≤ 9223372036854775807 then (some ((x3 ++ (⟨#[32]⟩ : ByteArray)) ++ t125)) else (none))) else (none)) else (if x14 = 20 then (if x3.size + 1 ≤ 9223372036854775807 then ((spec_l7Digits.f k x113001).bind fun t126 => (if (x3 ++ (⟨#[32]⟩ : ByteArray)).size + t126.size ≤ 9223372036854775807 then (some ((x3 ++ (⟨#[32]⟩ : ByteArray)) ++ t126)) else (none))) else (none)) else (if x14 = 21 then (if x3.size + 1 ≤ 9223372036854775807 then ((spec_l7Digits.f k x113001).bind fun t127 => (if (x3 ++ (⟨#[32]⟩ : ByteArray)).size + t127.size ≤ 9223372036854775807 then (some ((x3 ++ (⟨#[32]⟩ : ByteArray)) ++ t127)) else (none))) else (none)) else (if x14 = 24 then (if x3.size + 1 ≤ 9223372036854775807 then ((spec_l7Digits.f k x113001).bind fun t128 => (if (x3 ++ (⟨#[32]⟩ : ByteArray)).size + t128.size ≤ 9223372036854775807 then (some ((x3 ++ (⟨#[32]⟩ : ByteArray)) ++ t128)) else (none))) else (none)) else (some x3))))))))))
def spec_StepText.f (k : Nat) (a0_0 : Int) (a0_1 : Int) (a0_2 : Int) : Option (ByteArray) := (spec_l1In.f a0_0 1 25).bind fun t113 => (if t113 = true then ((spec_l15Names.f).bind fun t114 => (if 0 ≤ a0_0 then (if a0_0 < (t114.length : Int) then (if a0_0 = 7 then (spec_StepText.j0 k (rdOf ByteArray.empty t114 a0_0) a0_0 (a0_0 == 7) a0_0 a0_1 a0_2) else (spec_StepText.j0 k (rdOf ByteArray.empty t114 a0_0) a0_0 (a0_0 == 8) a0_0 a0_1 a0_2)) else (none)) else (none))) else (some (⟨#[]⟩ : ByteArray)))
theorem spec_StepText.mono_l : ∀ k, (∀ y0 y1 y2 y3 y4 y5, LeO (spec_StepText.j0 k y0 y1 y2 y3 y4 y5) (spec_StepText.j0 (k + 1) y0 y1 y2 y3 y4 y5))
  | 0 => fun _ _ _ _ _ _ r h => by simp [spec_StepText.j0] at h
  | k + 1 => by
    have ih0 := spec_StepText.mono_l k
    · intro y0 y1 y2 y3 y4 y5
      unfold spec_StepText.j0
      repeat' first
      | (with_reducible exact ih0 _ _ _ _ _ _)
      | (with_reducible exact spec_l7Digits.mono _ _)
      | (with_reducible exact LeO.refl _)
      | (with_reducible exact LeO.none _)
      | (with_reducible refine LeO.ite ?_ ?_)
      | (with_reducible refine LeO.bind ?_ (fun _ => ?_))
      | exact ih0 _ _ _ _ _ _
      | exact spec_l7Digits.mono _ _
      | exact LeO.none _
      | refine LeO.ite ?_ ?_
      | refine LeO.bind ?_ (fun _ => ?_)
theorem spec_StepText.mono : ∀ a0 a1 a2 k, LeO (spec_StepText.f k a0 a1 a2) (spec_StepText.f (k + 1) a0 a1 a2) := by
  intro a0 a1 a2 k
  have ih0 := spec_StepText.mono_l k
  unfold spec_StepText.f
  repeat' first
      | (with_reducible exact ih0 _ _ _ _ _ _)
      | (with_reducible exact spec_l7Digits.mono _ _)
      | (with_reducible exact LeO.refl _)
      | (with_reducible exact LeO.none _)
      | (with_reducible refine LeO.ite ?_ ?_)
      | (with_reducible refine LeO.bind ?_ (fun _ => ?_))
      | exact ih0 _ _ _ _ _ _
      | exact spec_l7Digits.mono _ _
      | exact LeO.none _
      | refine LeO.ite ?_ ?_
      | refine LeO.bind ?_ (fun _ => ?_)
def spec_StepText.T7 : Bool × List (List Nat × List Nat) := (true, [([], []), ([0], [0]), ([], []), ([2], [2]), ([3], [3]), ([1, 4], [1, 4]), ([5], [5]), ([], []), ([7], [7]), ([8, 4], [8]), ([6, 9], [6, 9]), ([10, 9, 0, 1, 2, 3, 4, 5, 6, 7, 8, 9, 10], [10])])
def spec_StepText.B7 : List Nat := [0, 1, 0, 4, 12, 31, 63, 0, 128, 412, 1023, 2047]
theorem spec_StepText.tab7 : rtab .any (opsOf Tryd.f6 7) = spec_StepText.T7 := by kernel_rfl
theorem spec_StepText.bits7 : waitsOk spec_StepText.T7.2 spec_StepText.B7 = true := by kernel_rfl
set_option maxHeartbeats 8000000 in
set_option maxRecDepth 100000 in
theorem spec_StepText.calls (k : Nat) (a0_0 : Int) (a0_1 : Int) (a0_2 : Int) (r : ByteArray) (w : World) (h : spec_StepText.f k a0_0 a0_1 a0_2 = some r) :
    Calls Tryd.prog 6 #[.agg #[.int .i64 a0_0, .int .i64 a0_1, .int .i64 a0_2]] w fun e w' => e = .returned (.string r) ∧ Below w.heap.size w w' := by
  have hu25 := Tryd.underlying25
  have HB := Aside0.mk (Below.refl w.heap.size w)
  have H : ((spec_l1In.f a0_0 1 25).bind fun t113 => (if t113 = true then ((spec_l15Names.f).bind fun t114 => (if 0 ≤ a0_0 then (if a0_0 < (t114.length : Int) then (if a0_0 = 7 then (spec_StepText.j0 k (rdOf ByteArray.empty t114 a0_0) a0_0 (a0_0 == 7) a0_0 a0_1 a0_2) else (spec_StepText.j0 k (rdOf ByteArray.empty t114 a0_0) a0_0 (a0_0 == 8) a0_0 a0_1 a0_2)) else (none)) else (none))) else (some (⟨#[]⟩ : ByteArray)))) = some r := h
  clear h
  replace H := Option.bind_eq_some_iff.mp H
  obtain ⟨t113, A20, H⟩ := H
  replace H : (if t113 = true then ((spec_l15Names.f).bind fun t114 => (if 0 ≤ a0_0 then (if a0_0 < (t114.length : Int) then (if a0_0 = 7 then (spec_StepText.j0 k (rdOf ByteArray.empty t114 a0_0) a0_0 (a0_0 == 7) a0_0 a0_1 a0_2) else (spec_StepText.j0 k (rdOf ByteArray.empty t114 a0_0) a0_0 (a0_0 == 8) a0_0 a0_1 a0_2)) else (none)) else (none))) else (some (⟨#[]⟩ : ByteArray))) = some r := H
  have A2 := Aside0.mk A20
  clear A20
  by_cases c3 : t113 = true
  · subst c3
    have H1 : ((spec_l15Names.f).bind fun t114 => (if 0 ≤ a0_0 then (if a0_0 < (t114.length : Int) then (if a0_0 = 7 then (spec_StepText.j0 k (rdOf ByteArray.empty t114 a0_0) a0_0 (a0_0 == 7) a0_0 a0_1 a0_2) else (spec_StepText.j0 k (rdOf ByteArray.empty t114 a0_0) a0_0 (a0_0 == 8) a0_0 a0_1 a0_2)) else (none)) else (none))) = some r := by rw [if_pos rfl] at H; exact H
    clear H
    have H := H1
    clear H1
    replace H := Option.bind_eq_some_iff.mp H
    obtain ⟨t114, A40, H⟩ := H
    replace H : (if 0 ≤ a0_0 then (if a0_0 < (t114.length : Int) then (if a0_0 = 7 then (spec_StepText.j0 k (rdOf ByteArray.empty t114 a0_0) a0_0 (a0_0 == 7) a0_0 a0_1 a0_2) else (spec_StepText.j0 k (rdOf ByteArray.empty t114 a0_0) a0_0 (a0_0 == 8) a0_0 a0_1 a0_2)) else (none)) else (none)) = some r := H
    have A4 := Aside0.mk A40
    clear A40
    by_cases c5 : 0 ≤ a0_0
    · rw [if_pos c5] at H
      have c5b0 : decide (0 ≤ a0_0) = true := decide_eq_true c5
      clear c5
      by_cases c6 : a0_0 < (t114.length : Int)
      · rw [if_pos c6] at H
        have c6b0 : decide (a0_0 < (t114.length : Int)) = true := decide_eq_true c6
        clear c6
        have HC7 := Aside0.mk H
        clear H
        go_enter Tryd.func6, Tryd.ntmps6
        try go_wp2_with (first | ((with_reducible refine gate_dst (N := 1) rfl ?_); refine box_event ?hg (N := 1) ?hd (cs := #[.int .i64 a0_0, .int .i64 a0_1, .int .i64 a0_2]) (t := 25) ?hr ?_; (case hd => rfl); (case hg => rfl); (case hr => first | (go_simp; done) | (go_simp; rfl)); intro gb112 hg w8 hbox hb; have n0_ := Aside0.mk (below_step (by repeat (first | (with_reducible first | exact HB.out | apply below_alloc | apply pw_below_drewN | apply below_drew1) | exact HB.out)) hb); have n1_ := Aside0.mk (hbox); have n2_ := Aside0.mk ((by rw [hg]; exact (below_size (by repeat (first | (with_reducible first | exact HB.out | apply below_alloc | apply pw_below_drewN | apply below_drew1) | exact HB.out))) : w.heap.size ≤ gb112)); have n3_ := Aside0.mk ((by rw [hg]; exact (below_size (by repeat (first | (with_reducible first | exact HB.out | apply below_alloc | apply pw_below_drewN | apply below_drew1) | exact HB.out))) : w.heap.size ≤ gb112)); clear HB; have HB := n0_; have BK112 := n1_; have GW112 := n2_; have GE112 := n3_; clear n0_ n1_ n2_ n3_; clear hb hbox hg; have hcz9_0 : w8.cell? ⟨gb112, 0, none⟩ = some (.int .i64 a0_0) := (blk_cell BK112.out 0).trans rfl; have hcz9_1 : w8.cell? ⟨gb112, 1, none⟩ = some (.int .i64 a0_1) := (blk_cell BK112.out 1).trans rfl; have hcz9_2 : w8.cell? ⟨gb112, 2, none⟩ = some (.int .i64 a0_2) := (blk_cell BK112.out 2).trans rfl; have hfz9_0 := blk_frozen BK112.out 0; have hfz9_1 := blk_frozen BK112.out 1; have hfz9_2 := blk_frozen BK112.out 2) | ((with_reducible refine gate_callee (f := 19) rfl ?_); refine goesL_ (some 6) rfl rfl Tryd.func19 (by kernel_rfl) rfl #[.int .i64 a0_0, .int .i64 1, .int .i64 25] rfl (by (try simp only [List.map_toArray, List.map_cons, List.map_nil]); first | done | rfl | (simp only [List.length_drop, List.length_take]; rfl)) ?_; (with_reducible refine (spec_l1In.calls a0_0 1 25 true _ A2.out).mono ?_); rintro e w' ⟨rfl, ⟨nd, rfl⟩⟩; refine ⟨_, rfl, ?_⟩))
        (try (rw [drewN_self w8]; generalize hq_ : World.drewN w8 _ = w8; have n0_ : Aside0 (w8.heap[gb112]? = some (.cells #[.int .i64 a0_0, .int .i64 a0_1, .int .i64 a0_2] 25 (0, 0))) := ⟨by rw [← hq_]; exact (by (with_reducible repeat (first | refine blk_drewN ?_ _ | refine blk_drew ?_ | refine blk_alloc ?_ _)); exact BK112.out)⟩; have n1_ : Aside0 (Below w.heap.size w w8) := ⟨by rw [← hq_]; exact (by repeat (first | (with_reducible first | exact HB.out | apply below_alloc | apply pw_below_drewN | apply below_drew1 | refine below_set ?_ GE112.out) | exact HB.out))⟩; clear BK112 HB hq_; have BK112 := n0_; have HB := n1_; clear n0_ n1_))
        have n0_ := Aside0.mk (blk_drew BK112.out)
        have n1_ := Aside0.mk (below_drew1 HB.out)
        clear BK112
        clear HB
        have BK112 := n0_
        have HB := n1_
        clear n0_ n1_
        refine start_ (n := 6) (S := fun w' => w'.cell? ⟨gb112, 0, none⟩ = some (.int .i64 a0_0) ∧ w'.cell? ⟨gb112, 1, none⟩ = some (.int .i64 a0_1) ∧ w'.cell? ⟨gb112, 2, none⟩ = some (.int .i64 a0_2)) (ds := [4]) #[false, false, false, false, false, false] (by kernel_rfl) rfl rfl ⟨(blk_cell BK112.out 0).trans rfl, (blk_cell BK112.out 1).trans rfl, (blk_cell BK112.out 2).trans rfl⟩ (fun hHeld => ?_)
        generalize w8.drew = w10 at BK112 HB hHeld ⊢
        refine pure_ (i := 1) (N := some 9) (v := ?_) (a' := ?_) #[false, true, false, false, false, false] rfl rfl (by kernel_rfl) (fun _ _ _ h => h) (Or.inl ⟨by rfl, ?_⟩) ?_ ?_
        rotate_left
        · intro w'
          go_simp
          with_reducible rfl
        rotate_left
        · simp only [Act.put, List.setIfInBounds_toArray, List.set_cons_zero, List.set_cons_succ, i64_w, i32_w]
          rfl
        refine take_ (i := 2) (N := some 10) (v := ?_) (a' := ?_) #[false, true, true, false, false, false] rfl rfl (by kernel_rfl) (fun _ _ _ h => h) (Or.inl ⟨by rfl, ?_⟩) hHeld ?_ ?_
        rotate_left
        · rintro w' ⟨s0, s1, s2⟩
          go_simp
          with_reducible rfl
        rotate_left
        · simp only [Act.put, List.setIfInBounds_toArray, List.set_cons_zero, List.set_cons_succ, i64_w, i32_w]
          rfl
        refine one_ (i := 0) (N := some 8) #[true, true, true, false, false, false] rfl rfl (by kernel_rfl) (by decide) (fun K hK => ?_)
        refine goes_ Tryd.func20 (by kernel_rfl) rfl #[] (by rfl) rfl rfl (by (try simp only [List.map_toArray, List.map_cons, List.map_nil]); first | done | rfl | (simp only [List.length_drop, List.length_take]; rfl)) ?_
        with_reducible refine (spec_l15Names.calls  t114 _ A4.out).mono ?_
        rintro e w11 ⟨v115, rfl, ho0, hb⟩
        refine ⟨_, rfl, ?_⟩
        have n0_ := Aside0.mk (Kd.R_lower ho0 (below_size (by repeat (first | (with_reducible first | exact HB.out | apply below_alloc | apply pw_below_drewN | apply below_drew1 | refine below_set ?_ GE112.out) | exact HB.out))))
        have n1_ := Aside0.mk (blk_below (g := gb112) (o := .cells #[.int .i64 a0_0, .int .i64 a0_1, .int .i64 a0_2] 25 (0, 0)) (by (with_reducible repeat (first | refine blk_drewN ?_ _ | refine blk_drew ?_ | refine blk_alloc ?_ _)); exact BK112.out) hb)
        have n2_ := Aside0.mk (below_step (by repeat (first | (with_reducible first | exact HB.out | apply below_alloc | apply pw_below_drewN | apply below_drew1 | refine below_set ?_ GE112.out) | exact HB.out)) hb)
        clear BK112
        clear HB
        have HO116 := n0_
        have BK112 := n1_
        have HB := n2_
        clear n0_ n1_ n2_
        (try clear hb)
        (try clear hb2)
        (try clear hk)
        (try clear hi)
        (try clear ho0)
        obtain ⟨Ao12, co12, eo12⟩ := Kd.R_slice HO116.out
        (first | subst eo12 | (injection eo12 with f1_ f2_ f3_; have f4_ := f1_.symm; have f5_ := f3_.symm; clear f1_ f2_ f3_; subst f4_; subst f5_))
        have p117 : 0 ≤ (a0_0 : Int) := of_decide_eq_true (by first | (with_reducible assumption) | assumption)
        have q117 : a0_0 < (t114.length : Int) := of_decide_eq_true (by first | (with_reducible assumption) | assumption)
        obtain ⟨ad117, e117, hx117_0⟩ := Kd.at_string (Kd.R_reads' HO116.out).2.2 a0_0 p117 q117
        cases e117
        replace p117 := eq_true p117
        replace q117 := eq_true q117
        refine hK.out _ _ ⟨(blk_cell BK112.out 0).trans rfl, (blk_cell BK112.out 1).trans rfl, (blk_cell BK112.out 2).trans rfl⟩ (fun hHeld => ?_)
        clear hK K
        refine norm_ (a' := ?_) ?_ ?_
        rotate_left
        · show Act.put _ (some 8) _ = _
          simp only [Act.put, List.setIfInBounds_toArray, List.set_cons_zero, List.set_cons_succ, i64_w, i32_w]
          rfl
        refine pure_ (i := 3) (N := some 11) (v := ?_) (a' := ?_) #[true, true, true, true, false, false] rfl rfl (by kernel_rfl) (fun _ _ _ h => h) (Or.inl ⟨by rfl, ?_⟩) ?_ ?_
        rotate_left
        · intro w'
          go_simp
          with_reducible rfl
        rotate_left
        · simp only [Act.put, List.setIfInBounds_toArray, List.set_cons_zero, List.set_cons_succ, i64_w, i32_w]
          rfl
        refine last_ (i := 4) (N := some 12) #[true, true, true, true, true, false] rfl rfl (by kernel_rfl) (by decide) (fun K hK => ?_)
        refine value_ (w1 := ?_) (v := ?_) (by rfl) rfl ?_ ?_
        rotate_left 2
        · go_simp
          constructor
          · rfl
          · rfl
        refine hK.out _ _ ?_
        clear hK K
        refine norm_ (a' := ?_) ?_ ?_
        rotate_left
        · show Act.put _ (some 12) _ = _
          simp only [Act.put, List.setIfInBounds_toArray, List.set_cons_zero, List.set_cons_succ, i64_w, i32_w]
          rfl
        refine pure_ (i := 5) (N := some 3) (v := ?_) (a' := ?_) #[true, true, true, true, true, true] rfl rfl (by kernel_rfl) (fun _ _ _ h => h) (Or.inl ⟨by rfl, ?_⟩) ?_ ?_
        rotate_left
        · intro w'
          go_simp
          with_reducible rfl
        rotate_left
        · simp only [Act.put, List.setIfInBounds_toArray, List.set_cons_zero, List.set_cons_succ, i64_w, i32_w]
          rfl
        refine done_ (by kernel_rfl) ?_
        have hcz13_0 : w11.cell? ⟨gb112, 0, none⟩ = some (.int .i64 a0_0) := (blk_cell BK112.out 0).trans rfl
        have hcz13_1 : w11.cell? ⟨gb112, 1, none⟩ = some (.int .i64 a0_1) := (blk_cell BK112.out 1).trans rfl
        have hcz13_2 : w11.cell? ⟨gb112, 2, none⟩ = some (.int .i64 a0_2) := (blk_cell BK112.out 2).trans rfl
        have hfz13_0 := blk_frozen BK112.out 0
        have hfz13_1 := blk_frozen BK112.out 1
        have hfz13_2 := blk_frozen BK112.out 2
        go_upto_if 15 with (fail)
        go_cut [15] (fun v15 wc => ∃ (kq : Nat) (x15_6 : Bool), v15 = .bool x15_6 ∧ Aside0 (spec_StepText.j0 kq (rdOf ByteArray.empty t114 a0_0) a0_0 x15_6 a0_0 a0_1 a0_2 = some r) ∧ Aside0 (kq ≤ k) ∧ Aside0 (wc.heap[gb112]? = some (.cells #[.int .i64 a0_0, .int .i64 a0_1, .int .i64 a0_2] 25 (0, 0))) ∧ Aside0 (Below w.heap.size w wc))
        case first =>
          have H := HC7.out
          clear HC7
          by_cases c14 : a0_0 = 7
          · rw [if_pos c14] at H
            have c14b0 : (a0_0 == 7) = true := beq_iff_eq.mpr c14
            have c14b1 : (a0_0 != 7) = false := bne_eq_false_iff_eq.mpr c14
            clear c14
            (first | rw [c14b0] | (simp only [i64_w, i32_w]; rw [c14b0]) | skip)
            have H' := Aside0.mk H
            clear H
            go_wp2
            go_meet
            case rel => exact ⟨_, ((a0_0 == 7)), (by first | rfl | (simp; done) | (simp [*]; done)), H', ⟨by first | omega | exact Nat.le_refl _⟩, ⟨by (with_reducible repeat (first | refine blk_drewN ?_ _ | refine blk_drew ?_ | refine blk_alloc ?_ _)); exact BK112.out⟩, ⟨by repeat (first | (with_reducible first | exact HB.out | apply below_alloc | apply pw_below_drewN | apply below_drew1 | refine below_set ?_ GE112.out) | exact HB.out)⟩⟩
          · rw [if_neg c14] at H
            have c14b0 : (a0_0 == 7) = false := beq_eq_false_iff_ne.mpr c14
            have c14b1 : (a0_0 != 7) = true := bne_iff_ne.mpr c14
            (first | rw [c14b0] | (simp only [i64_w, i32_w]; rw [c14b0]) | skip)
            have H' := Aside0.mk H
            clear H
            go_wp2
            go_meet
            case rel => exact ⟨_, ((a0_0 == 8)), (by first | rfl | (simp; done) | (simp [*]; done)), H', ⟨by first | omega | exact Nat.le_refl _⟩, ⟨by (with_reducible repeat (first | refine blk_drewN ?_ _ | refine blk_drew ?_ | refine blk_alloc ?_ _)); exact BK112.out⟩, ⟨by repeat (first | (with_reducible first | exact HB.out | apply below_alloc | apply pw_below_drewN | apply below_drew1 | refine below_set ?_ GE112.out) | exact HB.out)⟩⟩
        case rest =>
          clear HC7
          try clear c1
          try clear p1
          try clear q1
          try clear hx1
          try clear c2
          try clear p2
          try clear c3
          try clear c5
          try clear c5b0
          try clear c6
          try clear c6b0
          try clear p11
          try clear q11
          try clear hx11
          try clear c14
          try clear c14b0
          try clear c14b1
          try clear hcz13_0
          try clear hcz13_1
          try clear hcz13_2
          try clear hcz9_0
          try clear hcz9_1
          try clear hcz9_2
          try clear hfz13_0
          try clear hfz13_1
          try clear hfz13_2
          try clear hfz9_0
          try clear hfz9_1
          try clear hfz9_2
          try clear hx117_0
          try clear p117
          try clear q117
          obtain ⟨kq, x15_6, rfl, HA, HJ6, BK112, HB⟩ := hcut
          cases kq with
          | zero => exact absurd HA.out (by simp [spec_StepText.j0])
          | succ kj6 =>
            have H := HA.out
            clear HA
            simp only [spec_StepText.j0] at H
            by_cases c15 : x15_6 = true
            · subst c15
              have H1 : (if (rdOf ByteArray.empty t114 a0_0).size + 1 ≤ 9223372036854775807 then ((spec_l7Digits.f kj6 a0_1).bind fun t118 => (if ((rdOf ByteArray.empty t114 a0_0) ++ (⟨#[32]⟩ : ByteArray)).size + t118.size ≤ 9223372036854775807 then (if (((rdOf ByteArray.empty t114 a0_0) ++ (⟨#[32]⟩ : ByteArray)) ++ t118).size + 1 ≤ 9223372036854775807 then ((spec_l7Digits.f kj6 a0_2).bind fun t119 => (if ((((rdOf ByteArray.empty t114 a0_0) ++ (⟨#[32]⟩ : ByteArray)) ++ t118) ++ (⟨#[32]⟩ : ByteArray)).size + t119.size ≤ 9223372036854775807 then (some (((((rdOf ByteArray.empty t114 a0_0) ++ (⟨#[32]⟩ : ByteArray)) ++ t118) ++ (⟨#[32]⟩ : ByteArray)) ++ t119)) else (none))) else (none)) else (none))) else (none)) = some r := by rw [if_pos rfl] at H; exact H
              clear H
              have H := H1
              clear H1
              by_cases c16 : (rdOf ByteArray.empty t114 a0_0).size + 1 ≤ 9223372036854775807
              · rw [if_pos c16] at H
                have c16b0 := eq_true c16
                have c16b1 : decide ((rdOf ByteArray.empty t114 a0_0).size + 1 ≤ 9223372036854775807) = true := decide_eq_true c16
                try have c16b2 : (9223372036854775807 < (rdOf ByteArray.empty t114 a0_0).size + 1) = False := eq_false (Nat.not_lt.2 c16)
                replace H := Option.bind_eq_some_iff.mp H
                obtain ⟨t118, A170, H⟩ := H
                replace H : (if ((rdOf ByteArray.empty t114 a0_0) ++ (⟨#[32]⟩ : ByteArray)).size + t118.size ≤ 9223372036854775807 then (if (((rdOf ByteArray.empty t114 a0_0) ++ (⟨#[32]⟩ : ByteArray)) ++ t118).size + 1 ≤ 9223372036854775807 then ((spec_l7Digits.f kj6 a0_2).bind fun t119 => (if ((((rdOf ByteArray.empty t114 a0_0) ++ (⟨#[32]⟩ : ByteArray)) ++ t118) ++ (⟨#[32]⟩ : ByteArray)).size + t119.size ≤ 9223372036854775807 then (some (((((rdOf ByteArray.empty t114 a0_0) ++ (⟨#[32]⟩ : ByteArray)) ++ t118) ++ (⟨#[32]⟩ : ByteArray)) ++ t119)) else (none))) else (none)) else (none)) = some r := H
                have A17 := Aside0.mk A170
                clear A170
                by_cases c18 : ((rdOf ByteArray.empty t114 a0_0) ++ (⟨#[32]⟩ : ByteArray)).size + t118.size ≤ 9223372036854775807
                · rw [if_pos c18] at H
                  have c18b0 := eq_true c18
                  try have c18z1 : decide ((rdOf ByteArray.empty t114 a0_0).size + (⟨#[32]⟩ : ByteArray).size + t118.size ≤ 9223372036854775807) = true := decide_eq_true (by have h_ := c18; simp only [ByteArray.size_append] at h_; exact h_)
                  try have c18z2 : (9223372036854775807 < (rdOf ByteArray.empty t114 a0_0).size + (⟨#[32]⟩ : ByteArray).size + t118.size) = False := eq_false (Nat.not_lt.2 (by have h_ := c18; simp only [ByteArray.size_append] at h_; exact h_))
                  try have c18z3 : decide ((rdOf ByteArray.empty t114 a0_0).size + 1 + t118.size ≤ 9223372036854775807) = true := decide_eq_true (by have h_ := c18; simp only [ByteArray.size_append] at h_; exact h_)
                  try have c18z4 : (9223372036854775807 < (rdOf ByteArray.empty t114 a0_0).size + 1 + t118.size) = False := eq_false (Nat.not_lt.2 (by have h_ := c18; simp only [ByteArray.size_append] at h_; exact h_))
                  have c18b1 : decide (((rdOf ByteArray.empty t114 a0_0) ++ (⟨#[32]⟩ : ByteArray)).size + t118.size ≤ 9223372036854775807) = true := decide_eq_true c18
                  try have c18b2 : (9223372036854775807 < ((rdOf ByteArray.empty t114 a0_0) ++ (⟨#[32]⟩ : ByteArray)).size + t118.size) = False := eq_false (Nat.not_lt.2 c18)
                  by_cases c19 : (((rdOf ByteArray.empty t114 a0_0) ++ (⟨#[32]⟩ : ByteArray)) ++ t118).size + 1 ≤ 9223372036854775807
                  · rw [if_pos c19] at H
                    have c19b0 := eq_true c19
                    try have c19z1 : decide ((rdOf ByteArray.empty t114 a0_0).size + (⟨#[32]⟩ : ByteArray).size + t118.size + 1 ≤ 9223372036854775807) = true := decide_eq_true (by have h_ := c19; simp only [ByteArray.size_append] at h_; exact h_)
                    try have c19z2 : (9223372036854775807 < (rdOf ByteArray.empty t114 a0_0).size + (⟨#[32]⟩ : ByteArray).size + t118.size + 1) = False := eq_false (Nat.not_lt.2 (by have h_ := c19; simp only [ByteArray.size_append] at h_; exact h_))
                    try have c19z3 : decide ((rdOf ByteArray.empty t114 a0_0).size + 1 + t118.size + 1 ≤ 9223372036854775807) = true := decide_eq_true (by have h_ := c19; simp only [ByteArray.size_append] at h_; exact h_)
                    try have c19z4 : (9223372036854775807 < (rdOf ByteArray.empty t114 a0_0).size + 1 + t118.size + 1) = False := eq_false (Nat.not_lt.2 (by have h_ := c19; simp only [ByteArray.size_append] at h_; exact h_))
                    have c19b1 : decide ((((rdOf ByteArray.empty t114 a0_0) ++ (⟨#[32]⟩ : ByteArray)) ++ t118).size + 1 ≤ 9223372036854775807) = true := decide_eq_true c19
                    try have c19b2 : (9223372036854775807 < (((rdOf ByteArray.empty t114 a0_0) ++ (⟨#[32]⟩ : ByteArray)) ++ t118).size + 1) = False := eq_false (Nat.not_lt.2 c19)
                    replace H := Option.bind_eq_some_iff.mp H
                    obtain ⟨t119, A200, H⟩ := H
                    replace H : (if ((((rdOf ByteArray.empty t114 a0_0) ++ (⟨#[32]⟩ : ByteArray)) ++ t118) ++ (⟨#[32]⟩ : ByteArray)).size + t119.size ≤ 9223372036854775807 then (some (((((rdOf ByteArray.empty t114 a0_0) ++ (⟨#[32]⟩ : ByteArray)) ++ t118) ++ (⟨#[32]⟩ : ByteArray)) ++ t119)) else (none)) = some r := H
                    have A20 := Aside0.mk A200
                    clear A200
                    by_cases c21 : ((((rdOf ByteArray.empty t114 a0_0) ++ (⟨#[32]⟩ : ByteArray)) ++ t118) ++ (⟨#[32]⟩ : ByteArray)).size + t119.size ≤ 9223372036854775807
                    · rw [if_pos c21] at H
                      have c21b0 := eq_true c21
                      try have c21z1 : decide ((rdOf ByteArray.empty t114 a0_0).size + (⟨#[32]⟩ : ByteArray).size + t118.size + (⟨#[32]⟩ : ByteArray).size + t119.size ≤ 9223372036854775807) = true := decide_eq_true (by have h_ := c21; simp only [ByteArray.size_append] at h_; exact h_)
                      try have c21z2 : (9223372036854775807 < (rdOf ByteArray.empty t114 a0_0).size + (⟨#[32]⟩ : ByteArray).size + t118.size + (⟨#[32]⟩ : ByteArray).size + t119.size) = False := eq_false (Nat.not_lt.2 (by have h_ := c21; simp only [ByteArray.size_append] at h_; exact h_))
                      try have c21z3 : decide ((rdOf ByteArray.empty t114 a0_0).size + 1 + t118.size + 1 + t119.size ≤ 9223372036854775807) = true := decide_eq_true (by have h_ := c21; simp only [ByteArray.size_append] at h_; exact h_)
                      try have c21z4 : (9223372036854775807 < (rdOf ByteArray.empty t114 a0_0).size + 1 + t118.size + 1 + t119.size) = False := eq_false (Nat.not_lt.2 (by have h_ := c21; simp only [ByteArray.size_append] at h_; exact h_))
                      have c21b1 : decide (((((rdOf ByteArray.empty t114 a0_0) ++ (⟨#[32]⟩ : ByteArray)) ++ t118) ++ (⟨#[32]⟩ : ByteArray)).size + t119.size ≤ 9223372036854775807) = true := decide_eq_true c21
                      try have c21b2 : (9223372036854775807 < ((((rdOf ByteArray.empty t114 a0_0) ++ (⟨#[32]⟩ : ByteArray)) ++ t118) ++ (⟨#[32]⟩ : ByteArray)).size + t119.size) = False := eq_false (Nat.not_lt.2 c21)
                      obtain rfl := Option.some.inj H
                      try go_wp2
                      have n0_ := Aside0.mk (blk_drew BK112.out)
                      have n1_ := Aside0.mk (below_drew1 HB.out)
                      clear BK112
                      clear HB
                      have BK112 := n0_
                      have HB := n1_
                      clear n0_ n1_
                      refine start_ (n := 12) (S := fun w' => w'.cell? ⟨gb112, 0, none⟩ = some (.int .i64 a0_0) ∧ w'.cell? ⟨gb112, 1, none⟩ = some (.int .i64 a0_1) ∧ w'.cell? ⟨gb112, 2, none⟩ = some (.int .i64 a0_2)) (ds := []) #[false, false, false, false, false, false, false, false, false, false, false, false] (by kernel_rfl) rfl rfl ⟨(blk_cell BK112.out 0).trans rfl, (blk_cell BK112.out 1).trans rfl, (blk_cell BK112.out 2).trans rfl⟩ (fun hHeld => ?_); refine with_tabW spec_StepText.tab7 spec_StepText.bits7 (fun HT_ HW_ => ?_)
                      generalize wc.drew = w22 at BK112 HB hHeld ⊢
                      refine pure_ (i := 0) (N := some 18) (v := ?_) (a' := ?_) #[true, false, false, false, false, false, false, false, false, false, false, false] rfl rfl (any_of HT_.out (by kernel_rfl)) (fun _ _ _ h => h) (Or.inl ⟨by rfl, ?_⟩) ?_ ?_
                      rotate_left
                      · intro w'
                        go_simp
                        with_reducible rfl
                      rotate_left
                      · simp only [Act.put, List.setIfInBounds_toArray, List.set_cons_zero, List.set_cons_succ, i64_w, i32_w]
                        rfl
                      refine pure_ (i := 1) (N := some 19) (v := ?_) (a' := ?_) #[true, true, false, false, false, false, false, false, false, false, false, false] rfl rfl (any_of HT_.out (by kernel_rfl)) (fun _ _ _ h => h) (Or.inl ⟨by rfl, ?_⟩) ?_ ?_
                      rotate_left
                      · intro w'
                        go_simp
                        with_reducible rfl
                      rotate_left
                      · simp only [Act.put, List.setIfInBounds_toArray, List.set_cons_zero, List.set_cons_succ, i64_w, i32_w]
                        rfl
                      refine pure_ (i := 2) (N := some 20) (v := ?_) (a' := ?_) #[true, true, true, false, false, false, false, false, false, false, false, false] rfl rfl (any_of HT_.out (by kernel_rfl)) (fun _ _ _ h => h) (Or.inl ⟨by rfl, ?_⟩) ?_ ?_
                      rotate_left
                      · intro w'
                        go_simp
                        with_reducible rfl
                      rotate_left
                      · simp only [Act.put, List.setIfInBounds_toArray, List.set_cons_zero, List.set_cons_succ, i64_w, i32_w]
                        rfl
                      refine pure_ (i := 7) (N := some 25) (v := ?_) (a' := ?_) #[true, true, true, false, false, false, false, true, false, false, false, false] rfl rfl (any_of HT_.out (by kernel_rfl)) (fun _ _ _ h => h) (Or.inl ⟨by rfl, ?_⟩) ?_ ?_
                      rotate_left
                      · intro w'
                        go_simp
                        with_reducible rfl
                      rotate_left
                      · simp only [Act.put, List.setIfInBounds_toArray, List.set_cons_zero, List.set_cons_succ, i64_w, i32_w]
                        rfl
                      refine take_ (i := 3) (N := some 21) (v := ?_) (a' := ?_) #[true, true, true, true, false, false, false, true, false, false, false, false] rfl rfl (take_ofW HT_.out HW_.out (by kernel_rfl)) (fun _ _ _ h => h) (Or.inl ⟨by rfl, ?_⟩) hHeld ?_ ?_
                      rotate_left
                      · rintro w' ⟨s0, s1, s2⟩
                        go_simp
                        with_reducible rfl
                      rotate_left
                      · simp only [Act.put, List.setIfInBounds_toArray, List.set_cons_zero, List.set_cons_succ, i64_w, i32_w]
                        rfl
                      refine take_ (i := 8) (N := some 26) (v := ?_) (a' := ?_) #[true, true, true, true, false, false, false, true, true, false, false, false] rfl rfl (take_ofW HT_.out HW_.out (by kernel_rfl)) (fun _ _ _ h => h) (Or.inl ⟨by rfl, ?_⟩) hHeld ?_ ?_
                      rotate_left
                      · rintro w' ⟨s0, s1, s2⟩
                        go_simp
                        with_reducible rfl
                      rotate_left
                      · simp only [Act.put, List.setIfInBounds_toArray, List.set_cons_zero, List.set_cons_succ, i64_w, i32_w]
                        rfl
                      refine one_ (i := 4) (N := some 22) #[true, true, true, true, true, false, false, true, true, false, false, false] rfl rfl (one_of HT_.out (by kernel_rfl)) (by decide) (fun K hK => ?_)
                      refine goes_ Tryd.func21 (by kernel_rfl) rfl #[.int .i64 a0_1] (by rfl) rfl rfl (by (try simp only [List.map_toArray, List.map_cons, List.map_nil]); first | done | rfl | (simp only [List.length_drop, List.length_take]; rfl)) ?_
                      with_reducible refine (spec_l7Digits.calls kj6 a0_1 t118 _ A17.out).mono ?_
                      rintro e w23 ⟨rfl, hb⟩
                      refine ⟨_, rfl, ?_⟩
                      have n0_ := Aside0.mk (blk_below (g := gb112) (o := .cells #[.int .i64 a0_0, .int .i64 a0_1, .int .i64 a0_2] 25 (0, 0)) (by (with_reducible repeat (first | refine blk_drewN ?_ _ | refine blk_drew ?_ | refine blk_alloc ?_ _)); exact BK112.out) hb)
                      have n1_ := Aside0.mk (below_step (by repeat (first | (with_reducible first | exact HB.out | apply below_alloc | apply pw_below_drewN | apply below_drew1 | refine below_set ?_ GE112.out) | exact HB.out)) hb)
                      clear BK112
                      clear HB
                      have BK112 := n0_
                      have HB := n1_
                      clear n0_ n1_
                      (try clear hb)
                      (try clear hb2)
                      (try clear hk)
                      (try clear hi)
                      refine hK.out _ _ ⟨(blk_cell BK112.out 0).trans rfl, (blk_cell BK112.out 1).trans rfl, (blk_cell BK112.out 2).trans rfl⟩ (fun hHeld => ?_)
                      clear hK K
                      refine norm_ (a' := ?_) ?_ ?_
                      rotate_left
                      · show Act.put _ (some 22) _ = _
                        simp only [Act.put, List.setIfInBounds_toArray, List.set_cons_zero, List.set_cons_succ, i64_w, i32_w]
                        rfl
                      refine pure_ (i := 5) (N := some 23) (v := ?_) (a' := ?_) #[true, true, true, true, true, true, false, true, true, false, false, false] rfl rfl (any_of HT_.out (by kernel_rfl)) (fun _ _ _ h => h) (Or.inl ⟨by rfl, ?_⟩) ?_ ?_
                      rotate_left
                      · intro w'
                        go_simp
                        with_reducible rfl
                      rotate_left
                      · simp only [Act.put, List.setIfInBounds_toArray, List.set_cons_zero, List.set_cons_succ, i64_w, i32_w]
                        rfl
                      refine pure_ (i := 6) (N := some 24) (v := ?_) (a' := ?_) #[true, true, true, true, true, true, true, true, true, false, false, false] rfl rfl (any_of HT_.out (by kernel_rfl)) (fun _ _ _ h => h) (Or.inl ⟨by rfl, ?_⟩) ?_ ?_
                      rotate_left
                      · intro w'
                        go_simp
                        with_reducible rfl
                      rotate_left
                      · simp only [Act.put, List.setIfInBounds_toArray, List.set_cons_zero, List.set_cons_succ, i64_w, i32_w]
                        rfl
                      refine one_ (i := 9) (N := some 27) #[true, true, true, true, true, true, true, true, true, true, false, false] rfl rfl (one_of HT_.out (by kernel_rfl)) (by decide) (fun K hK => ?_)
                      refine goes_ Tryd.func21 (by kernel_rfl) rfl #[.int .i64 a0_2] (by rfl) rfl rfl (by (try simp only [List.map_toArray, List.map_cons, List.map_nil]); first | done | rfl | (simp only [List.length_drop, List.length_take]; rfl)) ?_
                      with_reducible refine (spec_l7Digits.calls kj6 a0_2 t119 _ A20.out).mono ?_
                      rintro e w24 ⟨rfl, hb⟩
                      refine ⟨_, rfl, ?_⟩
                      have n0_ := Aside0.mk (blk_below (g := gb112) (o := .cells #[.int .i64 a0_0, .int .i64 a0_1, .int .i64 a0_2] 25 (0, 0)) (by (with_reducible repeat (first | refine blk_drewN ?_ _ | refine blk_drew ?_ | refine blk_alloc ?_ _)); exact BK112.out) hb)
                      have n1_ := Aside0.mk (below_step (by repeat (first | (with_reducible first | exact HB.out | apply below_alloc | apply pw_below_drewN | apply below_drew1 | refine below_set ?_ GE112.out) | exact HB.out)) hb)
                      clear BK112
                      clear HB
                      have BK112 := n0_
                      have HB := n1_
                      clear n0_ n1_
                      (try clear hb)
                      (try clear hb2)
                      (try clear hk)
                      (try clear hi)
                      refine hK.out _ _ ⟨(blk_cell BK112.out 0).trans rfl, (blk_cell BK112.out 1).trans rfl, (blk_cell BK112.out 2).trans rfl⟩ (fun hHeld => ?_)
                      clear hK K
                      refine norm_ (a' := ?_) ?_ ?_
                      rotate_left
                      · show Act.put _ (some 27) _ = _
                        simp only [Act.put, List.setIfInBounds_toArray, List.set_cons_zero, List.set_cons_succ, i64_w, i32_w]
                        rfl
                      refine pure_ (i := 10) (N := some 28) (v := ?_) (a' := ?_) #[true, true, true, true, true, true, true, true, true, true, true, false] rfl rfl (any_of HT_.out (by kernel_rfl)) (fun _ _ _ h => h) (Or.inl ⟨by rfl, ?_⟩) ?_ ?_
                      rotate_left
                      · intro w'
                        go_simp
                        with_reducible rfl
                      rotate_left
                      · simp only [Act.put, List.setIfInBounds_toArray, List.set_cons_zero, List.set_cons_succ, i64_w, i32_w]
                        rfl
                      refine pure_ (i := 11) (N := some 2) (v := ?_) (a' := ?_) #[true, true, true, true, true, true, true, true, true, true, true, true] rfl rfl (any_of HT_.out (by kernel_rfl)) (fun _ _ _ h => h) (Or.inl ⟨by rfl, ?_⟩) ?_ ?_
                      rotate_left
                      · intro w'
                        go_simp
                        with_reducible rfl
                      rotate_left
                      · simp only [Act.put, List.setIfInBounds_toArray, List.set_cons_zero, List.set_cons_succ, i64_w, i32_w]
                        rfl
                      refine done_ (done_of HT_.out (by kernel_rfl)) ?_
                      try go_wp2
                      go_ret
                      exact ⟨by first | rfl | (simp [errW_none, errW_some] <;> rfl) | (simp [*, errW_none, errW_some] <;> rfl), by repeat (first | (with_reducible first | exact HB.out | apply below_alloc | apply pw_below_drewN | apply below_drew1 | refine below_set ?_ GE112.out) | exact HB.out)⟩
                    · rw [if_neg c21] at H
                      exact absurd H (by simp)
                  · rw [if_neg c19] at H
                    exact absurd H (by simp)
                · rw [if_neg c18] at H
                  exact absurd H (by simp)
              · rw [if_neg c16] at H
                exact absurd H (by simp)
            · replace c15 := Bool.eq_false_iff.mpr c15
              subst c15
              have H1 : (if a0_0 = 1 then (if (rdOf ByteArray.empty t114 a0_0).size + 1 ≤ 9223372036854775807 then ((spec_l7Digits.f kj6 a0_1).bind fun t120 => (if ((rdOf ByteArray.empty t114 a0_0) ++ (⟨#[32]⟩ : ByteArray)).size + t120.size ≤ 9223372036854775807 then (some (((rdOf ByteArray.empty t114 a0_0) ++ (⟨#[32]⟩ : ByteArray)) ++ t120)) else (none))) else (none)) else (if a0_0 = 2 then (if (rdOf ByteArray.empty t114 a0_0).size + 1 ≤ 9223372036854775807 then ((spec_l7Digits.f kj6 a0_1).bind fun t121 => (if ((rdOf ByteArray.empty t114 a0_0) ++ (⟨#[32]⟩ : ByteArray)).size + t121.size ≤ 9223372036854775807 then (some (((rdOf ByteArray.empty t114 a0_0) ++ (⟨#[32]⟩ : ByteArray)) ++ t121)) else (none))) else (none)) else (if a0_0 = 9 then (if (rdOf ByteArray.empty t114 a0_0).size + 1 ≤ 9223372036854775807 then ((spec_l7Digits.f kj6 a0_1).bind fun t122 => (if ((rdOf ByteArray.empty t114 a0_0) ++ (⟨#[32]⟩ : ByteArray)).size + t122.size ≤ 9223372036854775807 then (some (((rdOf ByteArray.empty t114 a0_0) ++ (⟨#[32]⟩ : ByteArray)) ++ t122)) else (none))) else (none)) else (if a0_0 = 10 then (if (rdOf ByteArray.empty t114 a0_0).size + 1 ≤ 9223372036854775807 then ((spec_l7Digits.f kj6 a0_1).bind fun t123 => (if ((rdOf ByteArray.empty t114 a0_0) ++ (⟨#[32]⟩ : ByteArray)).size + t123.size ≤ 9223372036854775807 then (some (((rdOf ByteArray.empty t114 a0_0) ++ (⟨#[32]⟩ : ByteArray)) ++ t123)) else (none))) else (none)) else (if a0_0 = 25 then (if (rdOf ByteArray.empty t114 a0_0).size + 1 ≤ 9223372036854775807 then ((spec_l7Digits.f kj6 a0_1).bind fun t124 => (if ((rdOf ByteArray.empty t114 a0_0) ++ (⟨#[32]⟩ : ByteArray)).size + t124.size ≤ 9223372036854775807 then (some (((rdOf ByteArray.empty t114 a0_0) ++ (⟨#[32]⟩ : ByteArray)) ++ t124)) else (none))) else (none)) else (if a0_0 = 12 then (if (rdOf ByteArray.empty t114 a0_0).size + 1 ≤ 9223372036854775807 then ((spec_l7Digits.f kj6 a0_1).bind fun t125 => (if ((rdOf ByteArray.empty t114 a0_0) ++ (⟨#[32]⟩ : ByteArray)).size + t125.size ≤ 9223372036854775807 then (some (((rdOf ByteArray.empty t114 a0_0) ++ (⟨#[32]⟩ : ByteArray)) ++ t125)) else (none))) else (none)) else (if a0_0 = 20 then (if (rdOf ByteArray.empty t114 a0_0).size + 1 ≤ 9223372036854775807 then ((spec_l7Digits.f kj6 a0_1).bind fun t126 => (if ((rdOf ByteArray.empty t114 a0_0) ++ (⟨#[32]⟩ : ByteArray)).size + t126.size ≤ 9223372036854775807 then (some (((rdOf ByteArray.empty t114 a0_0) ++ (⟨#[32]⟩ : ByteArray)) ++ t126)) else (none))) else (none)) else (if a0_0 = 21 then (if (rdOf ByteArray.empty t114 a0_0).size + 1 ≤ 9223372036854775807 then ((spec_l7Digits.f kj6 a0_1).bind fun t127 => (if ((rdOf ByteArray.empty t114 a0_0) ++ (⟨#[32]⟩ : ByteArray)).size + t127.size ≤ 9223372036854775807 then (some (((rdOf ByteArray.empty t114 a0_0) ++ (⟨#[32]⟩ : ByteArray)) ++ t127)) else (none))) else (none)) else (if a0_0 = 24 then (if (rdOf ByteArray.empty t114 a0_0).size + 1 ≤ 9223372036854775807 then ((spec_l7Digits.f kj6 a0_1).bind fun t128 => (if ((rdOf ByteArray.empty t114 a0_0) ++ (⟨#[32]⟩ : ByteArray)).size + t128.size ≤ 9223372036854775807 then (some (((rdOf ByteArray.empty t114 a0_0) ++ (⟨#[32]⟩ : ByteArray)) ++ t128)) else (none))) else (none)) else (some (rdOf ByteArray.empty t114 a0_0))))))))))) = some r := by rw [if_neg (show ¬ (false = true) by decide)] at H; exact H
              clear H
              have H := H1
              clear H1
              by_cases c25 : a0_0 = 1
              · rw [if_pos c25] at H
                have c25b0 : (a0_0 == 1) = true := beq_iff_eq.mpr c25
                have c25b1 : (a0_0 != 1) = false := bne_eq_false_iff_eq.mpr c25
                clear c25
                by_cases c26 : (rdOf ByteArray.empty t114 a0_0).size + 1 ≤ 9223372036854775807
                · rw [if_pos c26] at H
                  have c26b0 := eq_true c26
                  have c26b1 : decide ((rdOf ByteArray.empty t114 a0_0).size + 1 ≤ 9223372036854775807) = true := decide_eq_true c26
                  try have c26b2 : (9223372036854775807 < (rdOf ByteArray.empty t114 a0_0).size + 1) = False := eq_false (Nat.not_lt.2 c26)
                  replace H := Option.bind_eq_some_iff.mp H
                  obtain ⟨t120, A270, H⟩ := H
                  replace H : (if ((rdOf ByteArray.empty t114 a0_0) ++ (⟨#[32]⟩ : ByteArray)).size + t120.size ≤ 9223372036854775807 then (some (((rdOf ByteArray.empty t114 a0_0) ++ (⟨#[32]⟩ : ByteArray)) ++ t120)) else (none)) = some r := H
                  have A27 := Aside0.mk A270
                  clear A270
                  by_cases c28 : ((rdOf ByteArray.empty t114 a0_0) ++ (⟨#[32]⟩ : ByteArray)).size + t120.size ≤ 9223372036854775807
                  · rw [if_pos c28] at H
                    have c28b0 := eq_true c28
                    try have c28z1 : decide ((rdOf ByteArray.empty t114 a0_0).size + (⟨#[32]⟩ : ByteArray).size + t120.size ≤ 9223372036854775807) = true := decide_eq_true (by have h_ := c28; simp only [ByteArray.size_append] at h_; exact h_)
                    try have c28z2 : (9223372036854775807 < (rdOf ByteArray.empty t114 a0_0).size + (⟨#[32]⟩ : ByteArray).size + t120.size) = False := eq_false (Nat.not_lt.2 (by have h_ := c28; simp only [ByteArray.size_append] at h_; exact h_))
                    try have c28z3 : decide ((rdOf ByteArray.empty t114 a0_0).size + 1 + t120.size ≤ 9223372036854775807) = true := decide_eq_true (by have h_ := c28; simp only [ByteArray.size_append] at h_; exact h_)
                    try have c28z4 : (9223372036854775807 < (rdOf ByteArray.empty t114 a0_0).size + 1 + t120.size) = False := eq_false (Nat.not_lt.2 (by have h_ := c28; simp only [ByteArray.size_append] at h_; exact h_))
                    have c28b1 : decide (((rdOf ByteArray.empty t114 a0_0) ++ (⟨#[32]⟩ : ByteArray)).size + t120.size ≤ 9223372036854775807) = true := decide_eq_true c28
                    try have c28b2 : (9223372036854775807 < ((rdOf ByteArray.empty t114 a0_0) ++ (⟨#[32]⟩ : ByteArray)).size + t120.size) = False := eq_false (Nat.not_lt.2 c28)
                    obtain rfl := Option.some.inj H
                    have hcz29_0 : wc.cell? ⟨gb112, 0, none⟩ = some (.int .i64 a0_0) := (blk_cell BK112.out 0).trans rfl
                    have hcz29_1 : wc.cell? ⟨gb112, 1, none⟩ = some (.int .i64 a0_1) := (blk_cell BK112.out 1).trans rfl
                    have hcz29_2 : wc.cell? ⟨gb112, 2, none⟩ = some (.int .i64 a0_2) := (blk_cell BK112.out 2).trans rfl
                    have hfz29_0 := blk_frozen BK112.out 0
                    have hfz29_1 := blk_frozen BK112.out 1
                    have hfz29_2 := blk_frozen BK112.out 2
                    go_wp2_with (first | ((with_reducible refine gate_callee (f := 21) rfl ?_); refine goesL_ (some 43) rfl rfl Tryd.func21 (by kernel_rfl) rfl #[.int .i64 a0_1] rfl (by (try simp only [List.map_toArray, List.map_cons, List.map_nil]); first | done | rfl | (simp only [List.length_drop, List.length_take]; rfl)) ?_; (with_reducible refine (spec_l7Digits.calls kj6 a0_1 t120 _ A27.out).mono ?_); rintro e w30 ⟨rfl, hb⟩; refine ⟨_, rfl, ?_⟩; have n0_ := Aside0.mk (blk_below (g := gb112) (o := .cells #[.int .i64 a0_0, .int .i64 a0_1, .int .i64 a0_2] 25 (0, 0)) (by (with_reducible repeat (first | refine blk_drewN ?_ _ | refine blk_drew ?_ | refine blk_alloc ?_ _)); exact BK112.out) hb); have n1_ := Aside0.mk (below_step (by repeat (first | (with_reducible first | exact HB.out | apply below_alloc | apply pw_below_drewN | apply below_drew1 | refine below_set ?_ GE112.out) | exact HB.out)) hb); clear BK112; clear HB; have BK112 := n0_; have HB := n1_; clear n0_ n1_; (try clear hb); (try clear hb2); (try clear hk); (try clear hi)))
                    go_ret
                    exact ⟨by first | rfl | (simp [errW_none, errW_some] <;> rfl) | (simp [*, errW_none, errW_some] <;> rfl), by repeat (first | (with_reducible first | exact HB.out | apply below_alloc | apply pw_below_drewN | apply below_drew1 | refine below_set ?_ GE112.out) | exact HB.out)⟩
                  · rw [if_neg c28] at H
                    exact absurd H (by simp)
                · rw [if_neg c26] at H
                  exact absurd H (by simp)
              · rw [if_neg c25] at H
                have c25b0 : (a0_0 == 1) = false := beq_eq_false_iff_ne.mpr c25
                have c25b1 : (a0_0 != 1) = true := bne_iff_ne.mpr c25
                by_cases c31 : a0_0 = 2
                · rw [if_pos c31] at H
                  have c31b0 : (a0_0 == 2) = true := beq_iff_eq.mpr c31
                  have c31b1 : (a0_0 != 2) = false := bne_eq_false_iff_eq.mpr c31
                  clear c31
                  by_cases c32 : (rdOf ByteArray.empty t114 a0_0).size + 1 ≤ 9223372036854775807
                  · rw [if_pos c32] at H
                    have c32b0 := eq_true c32
                    have c32b1 : decide ((rdOf ByteArray.empty t114 a0_0).size + 1 ≤ 9223372036854775807) = true := decide_eq_true c32
                    try have c32b2 : (9223372036854775807 < (rdOf ByteArray.empty t114 a0_0).size + 1) = False := eq_false (Nat.not_lt.2 c32)
                    replace H := Option.bind_eq_some_iff.mp H
                    obtain ⟨t121, A330, H⟩ := H
                    replace H : (if ((rdOf ByteArray.empty t114 a0_0) ++ (⟨#[32]⟩ : ByteArray)).size + t121.size ≤ 9223372036854775807 then (some (((rdOf ByteArray.empty t114 a0_0) ++ (⟨#[32]⟩ : ByteArray)) ++ t121)) else (none)) = some r := H
                    have A33 := Aside0.mk A330
                    clear A330
                    by_cases c34 : ((rdOf ByteArray.empty t114 a0_0) ++ (⟨#[32]⟩ : ByteArray)).size + t121.size ≤ 9223372036854775807
                    · rw [if_pos c34] at H
                      have c34b0 := eq_true c34
                      try have c34z1 : decide ((rdOf ByteArray.empty t114 a0_0).size + (⟨#[32]⟩ : ByteArray).size + t121.size ≤ 9223372036854775807) = true := decide_eq_true (by have h_ := c34; simp only [ByteArray.size_append] at h_; exact h_)
                      try have c34z2 : (9223372036854775807 < (rdOf ByteArray.empty t114 a0_0).size + (⟨#[32]⟩ : ByteArray).size + t121.size) = False := eq_false (Nat.not_lt.2 (by have h_ := c34; simp only [ByteArray.size_append] at h_; exact h_))
                      try have c34z3 : decide ((rdOf ByteArray.empty t114 a0_0).size + 1 + t121.size ≤ 9223372036854775807) = true := decide_eq_true (by have h_ := c34; simp only [ByteArray.size_append] at h_; exact h_)
                      try have c34z4 : (9223372036854775807 < (rdOf ByteArray.empty t114 a0_0).size + 1 + t121.size) = False := eq_false (Nat.not_lt.2 (by have h_ := c34; simp only [ByteArray.size_append] at h_; exact h_))
                      have c34b1 : decide (((rdOf ByteArray.empty t114 a0_0) ++ (⟨#[32]⟩ : ByteArray)).size + t121.size ≤ 9223372036854775807) = true := decide_eq_true c34
                      try have c34b2 : (9223372036854775807 < ((rdOf ByteArray.empty t114 a0_0) ++ (⟨#[32]⟩ : ByteArray)).size + t121.size) = False := eq_false (Nat.not_lt.2 c34)
                      obtain rfl := Option.some.inj H
                      have hcz35_0 : wc.cell? ⟨gb112, 0, none⟩ = some (.int .i64 a0_0) := (blk_cell BK112.out 0).trans rfl
                      have hcz35_1 : wc.cell? ⟨gb112, 1, none⟩ = some (.int .i64 a0_1) := (blk_cell BK112.out 1).trans rfl
                      have hcz35_2 : wc.cell? ⟨gb112, 2, none⟩ = some (.int .i64 a0_2) := (blk_cell BK112.out 2).trans rfl
                      have hfz35_0 := blk_frozen BK112.out 0
                      have hfz35_1 := blk_frozen BK112.out 1
                      have hfz35_2 := blk_frozen BK112.out 2
                      go_wp2_with (first | ((with_reducible refine gate_callee (f := 21) rfl ?_); refine goesL_ (some 43) rfl rfl Tryd.func21 (by kernel_rfl) rfl #[.int .i64 a0_1] rfl (by (try simp only [List.map_toArray, List.map_cons, List.map_nil]); first | done | rfl | (simp only [List.length_drop, List.length_take]; rfl)) ?_; (with_reducible refine (spec_l7Digits.calls kj6 a0_1 t121 _ A33.out).mono ?_); rintro e w36 ⟨rfl, hb⟩; refine ⟨_, rfl, ?_⟩; have n0_ := Aside0.mk (blk_below (g := gb112) (o := .cells #[.int .i64 a0_0, .int .i64 a0_1, .int .i64 a0_2] 25 (0, 0)) (by (with_reducible repeat (first | refine blk_drewN ?_ _ | refine blk_drew ?_ | refine blk_alloc ?_ _)); exact BK112.out) hb); have n1_ := Aside0.mk (below_step (by repeat (first | (with_reducible first | exact HB.out | apply below_alloc | apply pw_below_drewN | apply below_drew1 | refine below_set ?_ GE112.out) | exact HB.out)) hb); clear BK112; clear HB; have BK112 := n0_; have HB := n1_; clear n0_ n1_; (try clear hb); (try clear hb2); (try clear hk); (try clear hi)))
                      go_ret
                      exact ⟨by first | rfl | (simp [errW_none, errW_some] <;> rfl) | (simp [*, errW_none, errW_some] <;> rfl), by repeat (first | (with_reducible first | exact HB.out | apply below_alloc | apply pw_below_drewN | apply below_drew1 | refine below_set ?_ GE112.out) | exact HB.out)⟩
                    · rw [if_neg c34] at H
                      exact absurd H (by simp)
                  · rw [if_neg c32] at H
                    exact absurd H (by simp)
                · rw [if_neg c31] at H
                  have c31b0 : (a0_0 == 2) = false := beq_eq_false_iff_ne.mpr c31
                  have c31b1 : (a0_0 != 2) = true := bne_iff_ne.mpr c31
                  by_cases c37 : a0_0 = 9
                  · rw [if_pos c37] at H
                    have c37b0 : (a0_0 == 9) = true := beq_iff_eq.mpr c37
                    have c37b1 : (a0_0 != 9) = false := bne_eq_false_iff_eq.mpr c37
                    clear c37
                    by_cases c38 : (rdOf ByteArray.empty t114 a0_0).size + 1 ≤ 9223372036854775807
                    · rw [if_pos c38] at H
                      have c38b0 := eq_true c38
                      have c38b1 : decide ((rdOf ByteArray.empty t114 a0_0).size + 1 ≤ 9223372036854775807) = true := decide_eq_true c38
                      try have c38b2 : (9223372036854775807 < (rdOf ByteArray.empty t114 a0_0).size + 1) = False := eq_false (Nat.not_lt.2 c38)
                      replace H := Option.bind_eq_some_iff.mp H
                      obtain ⟨t122, A390, H⟩ := H
                      replace H : (if ((rdOf ByteArray.empty t114 a0_0) ++ (⟨#[32]⟩ : ByteArray)).size + t122.size ≤ 9223372036854775807 then (some (((rdOf ByteArray.empty t114 a0_0) ++ (⟨#[32]⟩ : ByteArray)) ++ t122)) else (none)) = some r := H
                      have A39 := Aside0.mk A390
                      clear A390
                      by_cases c40 : ((rdOf ByteArray.empty t114 a0_0) ++ (⟨#[32]⟩ : ByteArray)).size + t122.size ≤ 9223372036854775807
                      · rw [if_pos c40] at H
                        have c40b0 := eq_true c40
                        try have c40z1 : decide ((rdOf ByteArray.empty t114 a0_0).size + (⟨#[32]⟩ : ByteArray).size + t122.size ≤ 9223372036854775807) = true := decide_eq_true (by have h_ := c40; simp only [ByteArray.size_append] at h_; exact h_)
                        try have c40z2 : (9223372036854775807 < (rdOf ByteArray.empty t114 a0_0).size + (⟨#[32]⟩ : ByteArray).size + t122.size) = False := eq_false (Nat.not_lt.2 (by have h_ := c40; simp only [ByteArray.size_append] at h_; exact h_))
                        try have c40z3 : decide ((rdOf ByteArray.empty t114 a0_0).size + 1 + t122.size ≤ 9223372036854775807) = true := decide_eq_true (by have h_ := c40; simp only [ByteArray.size_append] at h_; exact h_)
                        try have c40z4 : (9223372036854775807 < (rdOf ByteArray.empty t114 a0_0).size + 1 + t122.size) = False := eq_false (Nat.not_lt.2 (by have h_ := c40; simp only [ByteArray.size_append] at h_; exact h_))
                        have c40b1 : decide (((rdOf ByteArray.empty t114 a0_0) ++ (⟨#[32]⟩ : ByteArray)).size + t122.size ≤ 9223372036854775807) = true := decide_eq_true c40
                        try have c40b2 : (9223372036854775807 < ((rdOf ByteArray.empty t114 a0_0) ++ (⟨#[32]⟩ : ByteArray)).size + t122.size) = False := eq_false (Nat.not_lt.2 c40)
                        obtain rfl := Option.some.inj H
                        have hcz41_0 : wc.cell? ⟨gb112, 0, none⟩ = some (.int .i64 a0_0) := (blk_cell BK112.out 0).trans rfl
                        have hcz41_1 : wc.cell? ⟨gb112, 1, none⟩ = some (.int .i64 a0_1) := (blk_cell BK112.out 1).trans rfl
                        have hcz41_2 : wc.cell? ⟨gb112, 2, none⟩ = some (.int .i64 a0_2) := (blk_cell BK112.out 2).trans rfl
                        have hfz41_0 := blk_frozen BK112.out 0
                        have hfz41_1 := blk_frozen BK112.out 1
                        have hfz41_2 := blk_frozen BK112.out 2
                        go_wp2_with (first | ((with_reducible refine gate_callee (f := 21) rfl ?_); refine goesL_ (some 43) rfl rfl Tryd.func21 (by kernel_rfl) rfl #[.int .i64 a0_1] rfl (by (try simp only [List.map_toArray, List.map_cons, List.map_nil]); first | done | rfl | (simp only [List.length_drop, List.length_take]; rfl)) ?_; (with_reducible refine (spec_l7Digits.calls kj6 a0_1 t122 _ A39.out).mono ?_); rintro e w42 ⟨rfl, hb⟩; refine ⟨_, rfl, ?_⟩; have n0_ := Aside0.mk (blk_below (g := gb112) (o := .cells #[.int .i64 a0_0, .int .i64 a0_1, .int .i64 a0_2] 25 (0, 0)) (by (with_reducible repeat (first | refine blk_drewN ?_ _ | refine blk_drew ?_ | refine blk_alloc ?_ _)); exact BK112.out) hb); have n1_ := Aside0.mk (below_step (by repeat (first | (with_reducible first | exact HB.out | apply below_alloc | apply pw_below_drewN | apply below_drew1 | refine below_set ?_ GE112.out) | exact HB.out)) hb); clear BK112; clear HB; have BK112 := n0_; have HB := n1_; clear n0_ n1_; (try clear hb); (try clear hb2); (try clear hk); (try clear hi)))
                        go_ret
                        exact ⟨by first | rfl | (simp [errW_none, errW_some] <;> rfl) | (simp [*, errW_none, errW_some] <;> rfl), by repeat (first | (with_reducible first | exact HB.out | apply below_alloc | apply pw_below_drewN | apply below_drew1 | refine below_set ?_ GE112.out) | exact HB.out)⟩
                      · rw [if_neg c40] at H
                        exact absurd H (by simp)
                    · rw [if_neg c38] at H
                      exact absurd H (by simp)
                  · rw [if_neg c37] at H
                    have c37b0 : (a0_0 == 9) = false := beq_eq_false_iff_ne.mpr c37
                    have c37b1 : (a0_0 != 9) = true := bne_iff_ne.mpr c37
                    by_cases c43 : a0_0 = 10
                    · rw [if_pos c43] at H
                      have c43b0 : (a0_0 == 10) = true := beq_iff_eq.mpr c43
                      have c43b1 : (a0_0 != 10) = false := bne_eq_false_iff_eq.mpr c43
                      clear c43
                      by_cases c44 : (rdOf ByteArray.empty t114 a0_0).size + 1 ≤ 9223372036854775807
                      · rw [if_pos c44] at H
                        have c44b0 := eq_true c44
                        have c44b1 : decide ((rdOf ByteArray.empty t114 a0_0).size + 1 ≤ 9223372036854775807) = true := decide_eq_true c44
                        try have c44b2 : (9223372036854775807 < (rdOf ByteArray.empty t114 a0_0).size + 1) = False := eq_false (Nat.not_lt.2 c44)
                        replace H := Option.bind_eq_some_iff.mp H
                        obtain ⟨t123, A450, H⟩ := H
                        replace H : (if ((rdOf ByteArray.empty t114 a0_0) ++ (⟨#[32]⟩ : ByteArray)).size + t123.size ≤ 9223372036854775807 then (some (((rdOf ByteArray.empty t114 a0_0) ++ (⟨#[32]⟩ : ByteArray)) ++ t123)) else (none)) = some r := H
                        have A45 := Aside0.mk A450
                        clear A450
                        by_cases c46 : ((rdOf ByteArray.empty t114 a0_0) ++ (⟨#[32]⟩ : ByteArray)).size + t123.size ≤ 9223372036854775807
                        · rw [if_pos c46] at H
                          have c46b0 := eq_true c46
                          try have c46z1 : decide ((rdOf ByteArray.empty t114 a0_0).size + (⟨#[32]⟩ : ByteArray).size + t123.size ≤ 9223372036854775807) = true := decide_eq_true (by have h_ := c46; simp only [ByteArray.size_append] at h_; exact h_)
                          try have c46z2 : (9223372036854775807 < (rdOf ByteArray.empty t114 a0_0).size + (⟨#[32]⟩ : ByteArray).size + t123.size) = False := eq_false (Nat.not_lt.2 (by have h_ := c46; simp only [ByteArray.size_append] at h_; exact h_))
                          try have c46z3 : decide ((rdOf ByteArray.empty t114 a0_0).size + 1 + t123.size ≤ 9223372036854775807) = true := decide_eq_true (by have h_ := c46; simp only [ByteArray.size_append] at h_; exact h_)
                          try have c46z4 : (9223372036854775807 < (rdOf ByteArray.empty t114 a0_0).size + 1 + t123.size) = False := eq_false (Nat.not_lt.2 (by have h_ := c46; simp only [ByteArray.size_append] at h_; exact h_))
                          have c46b1 : decide (((rdOf ByteArray.empty t114 a0_0) ++ (⟨#[32]⟩ : ByteArray)).size + t123.size ≤ 9223372036854775807) = true := decide_eq_true c46
                          try have c46b2 : (9223372036854775807 < ((rdOf ByteArray.empty t114 a0_0) ++ (⟨#[32]⟩ : ByteArray)).size + t123.size) = False := eq_false (Nat.not_lt.2 c46)
                          obtain rfl := Option.some.inj H
                          have hcz47_0 : wc.cell? ⟨gb112, 0, none⟩ = some (.int .i64 a0_0) := (blk_cell BK112.out 0).trans rfl
                          have hcz47_1 : wc.cell? ⟨gb112, 1, none⟩ = some (.int .i64 a0_1) := (blk_cell BK112.out 1).trans rfl
                          have hcz47_2 : wc.cell? ⟨gb112, 2, none⟩ = some (.int .i64 a0_2) := (blk_cell BK112.out 2).trans rfl
                          have hfz47_0 := blk_frozen BK112.out 0
                          have hfz47_1 := blk_frozen BK112.out 1
                          have hfz47_2 := blk_frozen BK112.out 2
                          go_wp2_with (first | ((with_reducible refine gate_callee (f := 21) rfl ?_); refine goesL_ (some 43) rfl rfl Tryd.func21 (by kernel_rfl) rfl #[.int .i64 a0_1] rfl (by (try simp only [List.map_toArray, List.map_cons, List.map_nil]); first | done | rfl | (simp only [List.length_drop, List.length_take]; rfl)) ?_; (with_reducible refine (spec_l7Digits.calls kj6 a0_1 t123 _ A45.out).mono ?_); rintro e w48 ⟨rfl, hb⟩; refine ⟨_, rfl, ?_⟩; have n0_ := Aside0.mk (blk_below (g := gb112) (o := .cells #[.int .i64 a0_0, .int .i64 a0_1, .int .i64 a0_2] 25 (0, 0)) (by (with_reducible repeat (first | refine blk_drewN ?_ _ | refine blk_drew ?_ | refine blk_alloc ?_ _)); exact BK112.out) hb); have n1_ := Aside0.mk (below_step (by repeat (first | (with_reducible first | exact HB.out | apply below_alloc | apply pw_below_drewN | apply below_drew1 | refine below_set ?_ GE112.out) | exact HB.out)) hb); clear BK112; clear HB; have BK112 := n0_; have HB := n1_; clear n0_ n1_; (try clear hb); (try clear hb2); (try clear hk); (try clear hi)))
                          go_ret
                          exact ⟨by first | rfl | (simp [errW_none, errW_some] <;> rfl) | (simp [*, errW_none, errW_some] <;> rfl), by repeat (first | (with_reducible first | exact HB.out | apply below_alloc | apply pw_below_drewN | apply below_drew1 | refine below_set ?_ GE112.out) | exact HB.out)⟩
                        · rw [if_neg c46] at H
                          exact absurd H (by simp)
                      · rw [if_neg c44] at H
                        exact absurd H (by simp)
                    · rw [if_neg c43] at H
                      have c43b0 : (a0_0 == 10) = false := beq_eq_false_iff_ne.mpr c43
                      have c43b1 : (a0_0 != 10) = true := bne_iff_ne.mpr c43
                      by_cases c49 : a0_0 = 25
                      · rw [if_pos c49] at H
                        have c49b0 : (a0_0 == 25) = true := beq_iff_eq.mpr c49
                        have c49b1 : (a0_0 != 25) = false := bne_eq_false_iff_eq.mpr c49
                        clear c49
                        by_cases c50 : (rdOf ByteArray.empty t114 a0_0).size + 1 ≤ 9223372036854775807
                        · rw [if_pos c50] at H
                          have c50b0 := eq_true c50
                          have c50b1 : decide ((rdOf ByteArray.empty t114 a0_0).size + 1 ≤ 9223372036854775807) = true := decide_eq_true c50
                          try have c50b2 : (9223372036854775807 < (rdOf ByteArray.empty t114 a0_0).size + 1) = False := eq_false (Nat.not_lt.2 c50)
                          replace H := Option.bind_eq_some_iff.mp H
                          obtain ⟨t124, A510, H⟩ := H
                          replace H : (if ((rdOf ByteArray.empty t114 a0_0) ++ (⟨#[32]⟩ : ByteArray)).size + t124.size ≤ 9223372036854775807 then (some (((rdOf ByteArray.empty t114 a0_0) ++ (⟨#[32]⟩ : ByteArray)) ++ t124)) else (none)) = some r := H
                          have A51 := Aside0.mk A510
                          clear A510
                          by_cases c52 : ((rdOf ByteArray.empty t114 a0_0) ++ (⟨#[32]⟩ : ByteArray)).size + t124.size ≤ 9223372036854775807
                          · rw [if_pos c52] at H
                            have c52b0 := eq_true c52
                            try have c52z1 : decide ((rdOf ByteArray.empty t114 a0_0).size + (⟨#[32]⟩ : ByteArray).size + t124.size ≤ 9223372036854775807) = true := decide_eq_true (by have h_ := c52; simp only [ByteArray.size_append] at h_; exact h_)
                            try have c52z2 : (9223372036854775807 < (rdOf ByteArray.empty t114 a0_0).size + (⟨#[32]⟩ : ByteArray).size + t124.size) = False := eq_false (Nat.not_lt.2 (by have h_ := c52; simp only [ByteArray.size_append] at h_; exact h_))
                            try have c52z3 : decide ((rdOf ByteArray.empty t114 a0_0).size + 1 + t124.size ≤ 9223372036854775807) = true := decide_eq_true (by have h_ := c52; simp only [ByteArray.size_append] at h_; exact h_)
                            try have c52z4 : (9223372036854775807 < (rdOf ByteArray.empty t114 a0_0).size + 1 + t124.size) = False := eq_false (Nat.not_lt.2 (by have h_ := c52; simp only [ByteArray.size_append] at h_; exact h_))
                            have c52b1 : decide (((rdOf ByteArray.empty t114 a0_0) ++ (⟨#[32]⟩ : ByteArray)).size + t124.size ≤ 9223372036854775807) = true := decide_eq_true c52
                            try have c52b2 : (9223372036854775807 < ((rdOf ByteArray.empty t114 a0_0) ++ (⟨#[32]⟩ : ByteArray)).size + t124.size) = False := eq_false (Nat.not_lt.2 c52)
                            obtain rfl := Option.some.inj H
                            have hcz53_0 : wc.cell? ⟨gb112, 0, none⟩ = some (.int .i64 a0_0) := (blk_cell BK112.out 0).trans rfl
                            have hcz53_1 : wc.cell? ⟨gb112, 1, none⟩ = some (.int .i64 a0_1) := (blk_cell BK112.out 1).trans rfl
                            have hcz53_2 : wc.cell? ⟨gb112, 2, none⟩ = some (.int .i64 a0_2) := (blk_cell BK112.out 2).trans rfl
                            have hfz53_0 := blk_frozen BK112.out 0
                            have hfz53_1 := blk_frozen BK112.out 1
                            have hfz53_2 := blk_frozen BK112.out 2
                            go_wp2_with (first | ((with_reducible refine gate_callee (f := 21) rfl ?_); refine goesL_ (some 43) rfl rfl Tryd.func21 (by kernel_rfl) rfl #[.int .i64 a0_1] rfl (by (try simp only [List.map_toArray, List.map_cons, List.map_nil]); first | done | rfl | (simp only [List.length_drop, List.length_take]; rfl)) ?_; (with_reducible refine (spec_l7Digits.calls kj6 a0_1 t124 _ A51.out).mono ?_); rintro e w54 ⟨rfl, hb⟩; refine ⟨_, rfl, ?_⟩; have n0_ := Aside0.mk (blk_below (g := gb112) (o := .cells #[.int .i64 a0_0, .int .i64 a0_1, .int .i64 a0_2] 25 (0, 0)) (by (with_reducible repeat (first | refine blk_drewN ?_ _ | refine blk_drew ?_ | refine blk_alloc ?_ _)); exact BK112.out) hb); have n1_ := Aside0.mk (below_step (by repeat (first | (with_reducible first | exact HB.out | apply below_alloc | apply pw_below_drewN | apply below_drew1 | refine below_set ?_ GE112.out) | exact HB.out)) hb); clear BK112; clear HB; have BK112 := n0_; have HB := n1_; clear n0_ n1_; (try clear hb); (try clear hb2); (try clear hk); (try clear hi)))
                            go_ret
                            exact ⟨by first | rfl | (simp [errW_none, errW_some] <;> rfl) | (simp [*, errW_none, errW_some] <;> rfl), by repeat (first | (with_reducible first | exact HB.out | apply below_alloc | apply pw_below_drewN | apply below_drew1 | refine below_set ?_ GE112.out) | exact HB.out)⟩
                          · rw [if_neg c52] at H
                            exact absurd H (by simp)
                        · rw [if_neg c50] at H
                          exact absurd H (by simp)
                      · rw [if_neg c49] at H
                        have c49b0 : (a0_0 == 25) = false := beq_eq_false_iff_ne.mpr c49
                        have c49b1 : (a0_0 != 25) = true := bne_iff_ne.mpr c49
                        by_cases c55 : a0_0 = 12
                        · rw [if_pos c55] at H
                          have c55b0 : (a0_0 == 12) = true := beq_iff_eq.mpr c55
                          have c55b1 : (a0_0 != 12) = false := bne_eq_false_iff_eq.mpr c55
                          clear c55
                          by_cases c56 : (rdOf ByteArray.empty t114 a0_0).size + 1 ≤ 9223372036854775807
                          · rw [if_pos c56] at H
                            have c56b0 := eq_true c56
                            have c56b1 : decide ((rdOf ByteArray.empty t114 a0_0).size + 1 ≤ 9223372036854775807) = true := decide_eq_true c56
                            try have c56b2 : (9223372036854775807 < (rdOf ByteArray.empty t114 a0_0).size + 1) = False := eq_false (Nat.not_lt.2 c56)
                            replace H := Option.bind_eq_some_iff.mp H
                            obtain ⟨t125, A570, H⟩ := H
                            replace H : (if ((rdOf ByteArray.empty t114 a0_0) ++ (⟨#[32]⟩ : ByteArray)).size + t125.size ≤ 9223372036854775807 then (some (((rdOf ByteArray.empty t114 a0_0) ++ (⟨#[32]⟩ : ByteArray)) ++ t125)) else (none)) = some r := H
                            have A57 := Aside0.mk A570
                            clear A570
                            by_cases c58 : ((rdOf ByteArray.empty t114 a0_0) ++ (⟨#[32]⟩ : ByteArray)).size + t125.size ≤ 9223372036854775807
                            · rw [if_pos c58] at H
                              have c58b0 := eq_true c58
                              try have c58z1 : decide ((rdOf ByteArray.empty t114 a0_0).size + (⟨#[32]⟩ : ByteArray).size + t125.size ≤ 9223372036854775807) = true := decide_eq_true (by have h_ := c58; simp only [ByteArray.size_append] at h_; exact h_)
                              try have c58z2 : (9223372036854775807 < (rdOf ByteArray.empty t114 a0_0).size + (⟨#[32]⟩ : ByteArray).size + t125.size) = False := eq_false (Nat.not_lt.2 (by have h_ := c58; simp only [ByteArray.size_append] at h_; exact h_))
                              try have c58z3 : decide ((rdOf ByteArray.empty t114 a0_0).size + 1 + t125.size ≤ 9223372036854775807) = true := decide_eq_true (by have h_ := c58; simp only [ByteArray.size_append] at h_; exact h_)
                              try have c58z4 : (9223372036854775807 < (rdOf ByteArray.empty t114 a0_0).size + 1 + t125.size) = False := eq_false (Nat.not_lt.2 (by have h_ := c58; simp only [ByteArray.size_append] at h_; exact h_))
                              have c58b1 : decide (((rdOf ByteArray.empty t114 a0_0) ++ (⟨#[32]⟩ : ByteArray)).size + t125.size ≤ 9223372036854775807) = true := decide_eq_true c58
                              try have c58b2 : (9223372036854775807 < ((rdOf ByteArray.empty t114 a0_0) ++ (⟨#[32]⟩ : ByteArray)).size + t125.size) = False := eq_false (Nat.not_lt.2 c58)
                              obtain rfl := Option.some.inj H
                              have hcz59_0 : wc.cell? ⟨gb112, 0, none⟩ = some (.int .i64 a0_0) := (blk_cell BK112.out 0).trans rfl
                              have hcz59_1 : wc.cell? ⟨gb112, 1, none⟩ = some (.int .i64 a0_1) := (blk_cell BK112.out 1).trans rfl
                              have hcz59_2 : wc.cell? ⟨gb112, 2, none⟩ = some (.int .i64 a0_2) := (blk_cell BK112.out 2).trans rfl
                              have hfz59_0 := blk_frozen BK112.out 0
                              have hfz59_1 := blk_frozen BK112.out 1
                              have hfz59_2 := blk_frozen BK112.out 2
                              go_wp2_with (first | ((with_reducible refine gate_callee (f := 21) rfl ?_); refine goesL_ (some 43) rfl rfl Tryd.func21 (by kernel_rfl) rfl #[.int .i64 a0_1] rfl (by (try simp only [List.map_toArray, List.map_cons, List.map_nil]); first | done | rfl | (simp only [List.length_drop, List.length_take]; rfl)) ?_; (with_reducible refine (spec_l7Digits.calls kj6 a0_1 t125 _ A57.out).mono ?_); rintro e w60 ⟨rfl, hb⟩; refine ⟨_, rfl, ?_⟩; have n0_ := Aside0.mk (blk_below (g := gb112) (o := .cells #[.int .i64 a0_0, .int .i64 a0_1, .int .i64 a0_2] 25 (0, 0)) (by (with_reducible repeat (first | refine blk_drewN ?_ _ | refine blk_drew ?_ | refine blk_alloc ?_ _)); exact BK112.out) hb); have n1_ := Aside0.mk (below_step (by repeat (first | (with_reducible first | exact HB.out | apply below_alloc | apply pw_below_drewN | apply below_drew1 | refine below_set ?_ GE112.out) | exact HB.out)) hb); clear BK112; clear HB; have BK112 := n0_; have HB := n1_; clear n0_ n1_; (try clear hb); (try clear hb2); (try clear hk); (try clear hi)))
                              go_ret
                              exact ⟨by first | rfl | (simp [errW_none, errW_some] <;> rfl) | (simp [*, errW_none, errW_some] <;> rfl), by repeat (first | (with_reducible first | exact HB.out | apply below_alloc | apply pw_below_drewN | apply below_drew1 | refine below_set ?_ GE112.out) | exact HB.out)⟩
                            · rw [if_neg c58] at H
                              exact absurd H (by simp)
                          · rw [if_neg c56] at H
                            exact absurd H (by simp)
                        · rw [if_neg c55] at H
                          have c55b0 : (a0_0 == 12) = false := beq_eq_false_iff_ne.mpr c55
                          have c55b1 : (a0_0 != 12) = true := bne_iff_ne.mpr c55
                          by_cases c61 : a0_0 = 20
                          · rw [if_pos c61] at H
                            have c61b0 : (a0_0 == 20) = true := beq_iff_eq.mpr c61
                            have c61b1 : (a0_0 != 20) = false := bne_eq_false_iff_eq.mpr c61
                            clear c61
                            by_cases c62 : (rdOf ByteArray.empty t114 a0_0).size + 1 ≤ 9223372036854775807
                            · rw [if_pos c62] at H
                              have c62b0 := eq_true c62
                              have c62b1 : decide ((rdOf ByteArray.empty t114 a0_0).size + 1 ≤ 9223372036854775807) = true := decide_eq_true c62
                              try have c62b2 : (9223372036854775807 < (rdOf ByteArray.empty t114 a0_0).size + 1) = False := eq_false (Nat.not_lt.2 c62)
                              replace H := Option.bind_eq_some_iff.mp H
                              obtain ⟨t126, A630, H⟩ := H
                              replace H : (if ((rdOf ByteArray.empty t114 a0_0) ++ (⟨#[32]⟩ : ByteArray)).size + t126.size ≤ 9223372036854775807 then (some (((rdOf ByteArray.empty t114 a0_0) ++ (⟨#[32]⟩ : ByteArray)) ++ t126)) else (none)) = some r := H
                              have A63 := Aside0.mk A630
                              clear A630
                              by_cases c64 : ((rdOf ByteArray.empty t114 a0_0) ++ (⟨#[32]⟩ : ByteArray)).size + t126.size ≤ 9223372036854775807
                              · rw [if_pos c64] at H
                                have c64b0 := eq_true c64
                                try have c64z1 : decide ((rdOf ByteArray.empty t114 a0_0).size + (⟨#[32]⟩ : ByteArray).size + t126.size ≤ 9223372036854775807) = true := decide_eq_true (by have h_ := c64; simp only [ByteArray.size_append] at h_; exact h_)
                                try have c64z2 : (9223372036854775807 < (rdOf ByteArray.empty t114 a0_0).size + (⟨#[32]⟩ : ByteArray).size + t126.size) = False := eq_false (Nat.not_lt.2 (by have h_ := c64; simp only [ByteArray.size_append] at h_; exact h_))
                                try have c64z3 : decide ((rdOf ByteArray.empty t114 a0_0).size + 1 + t126.size ≤ 9223372036854775807) = true := decide_eq_true (by have h_ := c64; simp only [ByteArray.size_append] at h_; exact h_)
                                try have c64z4 : (9223372036854775807 < (rdOf ByteArray.empty t114 a0_0).size + 1 + t126.size) = False := eq_false (Nat.not_lt.2 (by have h_ := c64; simp only [ByteArray.size_append] at h_; exact h_))
                                have c64b1 : decide (((rdOf ByteArray.empty t114 a0_0) ++ (⟨#[32]⟩ : ByteArray)).size + t126.size ≤ 9223372036854775807) = true := decide_eq_true c64
                                try have c64b2 : (9223372036854775807 < ((rdOf ByteArray.empty t114 a0_0) ++ (⟨#[32]⟩ : ByteArray)).size + t126.size) = False := eq_false (Nat.not_lt.2 c64)
                                obtain rfl := Option.some.inj H
                                have hcz65_0 : wc.cell? ⟨gb112, 0, none⟩ = some (.int .i64 a0_0) := (blk_cell BK112.out 0).trans rfl
                                have hcz65_1 : wc.cell? ⟨gb112, 1, none⟩ = some (.int .i64 a0_1) := (blk_cell BK112.out 1).trans rfl
                                have hcz65_2 : wc.cell? ⟨gb112, 2, none⟩ = some (.int .i64 a0_2) := (blk_cell BK112.out 2).trans rfl
                                have hfz65_0 := blk_frozen BK112.out 0
                                have hfz65_1 := blk_frozen BK112.out 1
                                have hfz65_2 := blk_frozen BK112.out 2
                                go_wp2_with (first | ((with_reducible refine gate_callee (f := 21) rfl ?_); refine goesL_ (some 43) rfl rfl Tryd.func21 (by kernel_rfl) rfl #[.int .i64 a0_1] rfl (by (try simp only [List.map_toArray, List.map_cons, List.map_nil]); first | done | rfl | (simp only [List.length_drop, List.length_take]; rfl)) ?_; (with_reducible refine (spec_l7Digits.calls kj6 a0_1 t126 _ A63.out).mono ?_); rintro e w66 ⟨rfl, hb⟩; refine ⟨_, rfl, ?_⟩; have n0_ := Aside0.mk (blk_below (g := gb112) (o := .cells #[.int .i64 a0_0, .int .i64 a0_1, .int .i64 a0_2] 25 (0, 0)) (by (with_reducible repeat (first | refine blk_drewN ?_ _ | refine blk_drew ?_ | refine blk_alloc ?_ _)); exact BK112.out) hb); have n1_ := Aside0.mk (below_step (by repeat (first | (with_reducible first | exact HB.out | apply below_alloc | apply pw_below_drewN | apply below_drew1 | refine below_set ?_ GE112.out) | exact HB.out)) hb); clear BK112; clear HB; have BK112 := n0_; have HB := n1_; clear n0_ n1_; (try clear hb); (try clear hb2); (try clear hk); (try clear hi)))
                                go_ret
                                exact ⟨by first | rfl | (simp [errW_none, errW_some] <;> rfl) | (simp [*, errW_none, errW_some] <;> rfl), by repeat (first | (with_reducible first | exact HB.out | apply below_alloc | apply pw_below_drewN | apply below_drew1 | refine below_set ?_ GE112.out) | exact HB.out)⟩
                              · rw [if_neg c64] at H
                                exact absurd H (by simp)
                            · rw [if_neg c62] at H
                              exact absurd H (by simp)
                          · rw [if_neg c61] at H
                            have c61b0 : (a0_0 == 20) = false := beq_eq_false_iff_ne.mpr c61
                            have c61b1 : (a0_0 != 20) = true := bne_iff_ne.mpr c61
                            by_cases c67 : a0_0 = 21
                            · rw [if_pos c67] at H
                              have c67b0 : (a0_0 == 21) = true := beq_iff_eq.mpr c67
                              have c67b1 : (a0_0 != 21) = false := bne_eq_false_iff_eq.mpr c67
                              clear c67
                              by_cases c68 : (rdOf ByteArray.empty t114 a0_0).size + 1 ≤ 9223372036854775807
                              · rw [if_pos c68] at H
                                have c68b0 := eq_true c68
                                have c68b1 : decide ((rdOf ByteArray.empty t114 a0_0).size + 1 ≤ 9223372036854775807) = true := decide_eq_true c68
                                try have c68b2 : (9223372036854775807 < (rdOf ByteArray.empty t114 a0_0).size + 1) = False := eq_false (Nat.not_lt.2 c68)
                                replace H := Option.bind_eq_some_iff.mp H
                                obtain ⟨t127, A690, H⟩ := H
                                replace H : (if ((rdOf ByteArray.empty t114 a0_0) ++ (⟨#[32]⟩ : ByteArray)).size + t127.size ≤ 9223372036854775807 then (some (((rdOf ByteArray.empty t114 a0_0) ++ (⟨#[32]⟩ : ByteArray)) ++ t127)) else (none)) = some r := H
                                have A69 := Aside0.mk A690
                                clear A690
                                by_cases c70 : ((rdOf ByteArray.empty t114 a0_0) ++ (⟨#[32]⟩ : ByteArray)).size + t127.size ≤ 9223372036854775807
                                · rw [if_pos c70] at H
                                  have c70b0 := eq_true c70
                                  try have c70z1 : decide ((rdOf ByteArray.empty t114 a0_0).size + (⟨#[32]⟩ : ByteArray).size + t127.size ≤ 9223372036854775807) = true := decide_eq_true (by have h_ := c70; simp only [ByteArray.size_append] at h_; exact h_)
                                  try have c70z2 : (9223372036854775807 < (rdOf ByteArray.empty t114 a0_0).size + (⟨#[32]⟩ : ByteArray).size + t127.size) = False := eq_false (Nat.not_lt.2 (by have h_ := c70; simp only [ByteArray.size_append] at h_; exact h_))
                                  try have c70z3 : decide ((rdOf ByteArray.empty t114 a0_0).size + 1 + t127.size ≤ 9223372036854775807) = true := decide_eq_true (by have h_ := c70; simp only [ByteArray.size_append] at h_; exact h_)
                                  try have c70z4 : (9223372036854775807 < (rdOf ByteArray.empty t114 a0_0).size + 1 + t127.size) = False := eq_false (Nat.not_lt.2 (by have h_ := c70; simp only [ByteArray.size_append] at h_; exact h_))
                                  have c70b1 : decide (((rdOf ByteArray.empty t114 a0_0) ++ (⟨#[32]⟩ : ByteArray)).size + t127.size ≤ 9223372036854775807) = true := decide_eq_true c70
                                  try have c70b2 : (9223372036854775807 < ((rdOf ByteArray.empty t114 a0_0) ++ (⟨#[32]⟩ : ByteArray)).size + t127.size) = False := eq_false (Nat.not_lt.2 c70)
                                  obtain rfl := Option.some.inj H
                                  have hcz71_0 : wc.cell? ⟨gb112, 0, none⟩ = some (.int .i64 a0_0) := (blk_cell BK112.out 0).trans rfl
                                  have hcz71_1 : wc.cell? ⟨gb112, 1, none⟩ = some (.int .i64 a0_1) := (blk_cell BK112.out 1).trans rfl
                                  have hcz71_2 : wc.cell? ⟨gb112, 2, none⟩ = some (.int .i64 a0_2) := (blk_cell BK112.out 2).trans rfl
                                  have hfz71_0 := blk_frozen BK112.out 0
                                  have hfz71_1 := blk_frozen BK112.out 1
                                  have hfz71_2 := blk_frozen BK112.out 2
                                  go_wp2_with (first | ((with_reducible refine gate_callee (f := 21) rfl ?_); refine goesL_ (some 43) rfl rfl Tryd.func21 (by kernel_rfl) rfl #[.int .i64 a0_1] rfl (by (try simp only [List.map_toArray, List.map_cons, List.map_nil]); first | done | rfl | (simp only [List.length_drop, List.length_take]; rfl)) ?_; (with_reducible refine (spec_l7Digits.calls kj6 a0_1 t127 _ A69.out).mono ?_); rintro e w72 ⟨rfl, hb⟩; refine ⟨_, rfl, ?_⟩; have n0_ := Aside0.mk (blk_below (g := gb112) (o := .cells #[.int .i64 a0_0, .int .i64 a0_1, .int .i64 a0_2] 25 (0, 0)) (by (with_reducible repeat (first | refine blk_drewN ?_ _ | refine blk_drew ?_ | refine blk_alloc ?_ _)); exact BK112.out) hb); have n1_ := Aside0.mk (below_step (by repeat (first | (with_reducible first | exact HB.out | apply below_alloc | apply pw_below_drewN | apply below_drew1 | refine below_set ?_ GE112.out) | exact HB.out)) hb); clear BK112; clear HB; have BK112 := n0_; have HB := n1_; clear n0_ n1_; (try clear hb); (try clear hb2); (try clear hk); (try clear hi)))
                                  go_ret
                                  exact ⟨by first | rfl | (simp [errW_none, errW_some] <;> rfl) | (simp [*, errW_none, errW_some] <;> rfl), by repeat (first | (with_reducible first | exact HB.out | apply below_alloc | apply pw_below_drewN | apply below_drew1 | refine below_set ?_ GE112.out) | exact HB.out)⟩
                                · rw [if_neg c70] at H
                                  exact absurd H (by simp)
                              · rw [if_neg c68] at H
                                exact absurd H (by simp)
                            · rw [if_neg c67] at H
                              have c67b0 : (a0_0 == 21) = false := beq_eq_false_iff_ne.mpr c67
                              have c67b1 : (a0_0 != 21) = true := bne_iff_ne.mpr c67
                              by_cases c73 : a0_0 = 24
                              · rw [if_pos c73] at H
                                have c73b0 : (a0_0 == 24) = true := beq_iff_eq.mpr c73
                                have c73b1 : (a0_0 != 24) = false := bne_eq_false_iff_eq.mpr c73
                                clear c73
                                by_cases c74 : (rdOf ByteArray.empty t114 a0_0).size + 1 ≤ 9223372036854775807
                                · rw [if_pos c74] at H
                                  have c74b0 := eq_true c74
                                  have c74b1 : decide ((rdOf ByteArray.empty t114 a0_0).size + 1 ≤ 9223372036854775807) = true := decide_eq_true c74
                                  try have c74b2 : (9223372036854775807 < (rdOf ByteArray.empty t114 a0_0).size + 1) = False := eq_false (Nat.not_lt.2 c74)
                                  replace H := Option.bind_eq_some_iff.mp H
                                  obtain ⟨t128, A750, H⟩ := H
                                  replace H : (if ((rdOf ByteArray.empty t114 a0_0) ++ (⟨#[32]⟩ : ByteArray)).size + t128.size ≤ 9223372036854775807 then (some (((rdOf ByteArray.empty t114 a0_0) ++ (⟨#[32]⟩ : ByteArray)) ++ t128)) else (none)) = some r := H
                                  have A75 := Aside0.mk A750
                                  clear A750
                                  by_cases c76 : ((rdOf ByteArray.empty t114 a0_0) ++ (⟨#[32]⟩ : ByteArray)).size + t128.size ≤ 9223372036854775807
                                  · rw [if_pos c76] at H
                                    have c76b0 := eq_true c76
                                    try have c76z1 : decide ((rdOf ByteArray.empty t114 a0_0).size + (⟨#[32]⟩ : ByteArray).size + t128.size ≤ 9223372036854775807) = true := decide_eq_true (by have h_ := c76; simp only [ByteArray.size_append] at h_; exact h_)
                                    try have c76z2 : (9223372036854775807 < (rdOf ByteArray.empty t114 a0_0).size + (⟨#[32]⟩ : ByteArray).size + t128.size) = False := eq_false (Nat.not_lt.2 (by have h_ := c76; simp only [ByteArray.size_append] at h_; exact h_))
                                    try have c76z3 : decide ((rdOf ByteArray.empty t114 a0_0).size + 1 + t128.size ≤ 9223372036854775807) = true := decide_eq_true (by have h_ := c76; simp only [ByteArray.size_append] at h_; exact h_)
                                    try have c76z4 : (9223372036854775807 < (rdOf ByteArray.empty t114 a0_0).size + 1 + t128.size) = False := eq_false (Nat.not_lt.2 (by have h_ := c76; simp only [ByteArray.size_append] at h_; exact h_))
                                    have c76b1 : decide (((rdOf ByteArray.empty t114 a0_0) ++ (⟨#[32]⟩ : ByteArray)).size + t128.size ≤ 9223372036854775807) = true := decide_eq_true c76
                                    try have c76b2 : (9223372036854775807 < ((rdOf ByteArray.empty t114 a0_0) ++ (⟨#[32]⟩ : ByteArray)).size + t128.size) = False := eq_false (Nat.not_lt.2 c76)
                                    obtain rfl := Option.some.inj H
                                    have hcz77_0 : wc.cell? ⟨gb112, 0, none⟩ = some (.int .i64 a0_0) := (blk_cell BK112.out 0).trans rfl
                                    have hcz77_1 : wc.cell? ⟨gb112, 1, none⟩ = some (.int .i64 a0_1) := (blk_cell BK112.out 1).trans rfl
                                    have hcz77_2 : wc.cell? ⟨gb112, 2, none⟩ = some (.int .i64 a0_2) := (blk_cell BK112.out 2).trans rfl
                                    have hfz77_0 := blk_frozen BK112.out 0
                                    have hfz77_1 := blk_frozen BK112.out 1
                                    have hfz77_2 := blk_frozen BK112.out 2
                                    go_wp2_with (first | ((with_reducible refine gate_callee (f := 21) rfl ?_); refine goesL_ (some 43) rfl rfl Tryd.func21 (by kernel_rfl) rfl #[.int .i64 a0_1] rfl (by (try simp only [List.map_toArray, List.map_cons, List.map_nil]); first | done | rfl | (simp only [List.length_drop, List.length_take]; rfl)) ?_; (with_reducible refine (spec_l7Digits.calls kj6 a0_1 t128 _ A75.out).mono ?_); rintro e w78 ⟨rfl, hb⟩; refine ⟨_, rfl, ?_⟩; have n0_ := Aside0.mk (blk_below (g := gb112) (o := .cells #[.int .i64 a0_0, .int .i64 a0_1, .int .i64 a0_2] 25 (0, 0)) (by (with_reducible repeat (first | refine blk_drewN ?_ _ | refine blk_drew ?_ | refine blk_alloc ?_ _)); exact BK112.out) hb); have n1_ := Aside0.mk (below_step (by repeat (first | (with_reducible first | exact HB.out | apply below_alloc | apply pw_below_drewN | apply below_drew1 | refine below_set ?_ GE112.out) | exact HB.out)) hb); clear BK112; clear HB; have BK112 := n0_; have HB := n1_; clear n0_ n1_; (try clear hb); (try clear hb2); (try clear hk); (try clear hi)))
                                    go_ret
                                    exact ⟨by first | rfl | (simp [errW_none, errW_some] <;> rfl) | (simp [*, errW_none, errW_some] <;> rfl), by repeat (first | (with_reducible first | exact HB.out | apply below_alloc | apply pw_below_drewN | apply below_drew1 | refine below_set ?_ GE112.out) | exact HB.out)⟩
                                  · rw [if_neg c76] at H
                                    exact absurd H (by simp)
                                · rw [if_neg c74] at H
                                  exact absurd H (by simp)
                              · rw [if_neg c73] at H
                                have c73b0 : (a0_0 == 24) = false := beq_eq_false_iff_ne.mpr c73
                                have c73b1 : (a0_0 != 24) = true := bne_iff_ne.mpr c73
                                obtain rfl := Option.some.inj H
                                go_wp2
                                go_ret
                                exact ⟨by first | rfl | (simp [errW_none, errW_some] <;> rfl) | (simp [*, errW_none, errW_some] <;> rfl), by repeat (first | (with_reducible first | exact HB.out | apply below_alloc | apply pw_below_drewN | apply below_drew1 | refine below_set ?_ GE112.out) | exact HB.out)⟩
      · rw [if_neg c6] at H
        exact absurd H (by simp)
    · rw [if_neg c5] at H
      exact absurd H (by simp)
  · replace c3 := Bool.eq_false_iff.mpr c3
    subst c3
    have H1 : (some (⟨#[]⟩ : ByteArray)) = some r := by rw [if_neg (show ¬ (false = true) by decide)] at H; exact H
    clear H
    have H := H1
    clear H1
    obtain rfl := Option.some.inj H
    go_enter Tryd.func6, Tryd.ntmps6
    go_wp2_with (first | ((with_reducible refine gate_dst (N := 1) rfl ?_); refine box_event ?hg (N := 1) ?hd (cs := #[.int .i64 a0_0, .int .i64 a0_1, .int .i64 a0_2]) (t := 25) ?hr ?_; (case hd => rfl); (case hg => rfl); (case hr => first | (go_simp; done) | (go_simp; rfl)); intro gb112 hg w79 hbox hb; have n0_ := Aside0.mk (below_step (by repeat (first | (with_reducible first | exact HB.out | apply below_alloc | apply pw_below_drewN | apply below_drew1) | exact HB.out)) hb); have n1_ := Aside0.mk (hbox); have n2_ := Aside0.mk ((by rw [hg]; exact (below_size (by repeat (first | (with_reducible first | exact HB.out | apply below_alloc | apply pw_below_drewN | apply below_drew1) | exact HB.out))) : w.heap.size ≤ gb112)); have n3_ := Aside0.mk ((by rw [hg]; exact (below_size (by repeat (first | (with_reducible first | exact HB.out | apply below_alloc | apply pw_below_drewN | apply below_drew1) | exact HB.out))) : w.heap.size ≤ gb112)); clear HB; have HB := n0_; have BK112 := n1_; have GW112 := n2_; have GE112 := n3_; clear n0_ n1_ n2_ n3_; clear hb hbox hg; have hcz80_0 : w79.cell? ⟨gb112, 0, none⟩ = some (.int .i64 a0_0) := (blk_cell BK112.out 0).trans rfl; have hcz80_1 : w79.cell? ⟨gb112, 1, none⟩ = some (.int .i64 a0_1) := (blk_cell BK112.out 1).trans rfl; have hcz80_2 : w79.cell? ⟨gb112, 2, none⟩ = some (.int .i64 a0_2) := (blk_cell BK112.out 2).trans rfl; have hfz80_0 := blk_frozen BK112.out 0; have hfz80_1 := blk_frozen BK112.out 1; have hfz80_2 := blk_frozen BK112.out 2) | ((with_reducible refine gate_callee (f := 19) rfl ?_); refine goesL_ (some 6) rfl rfl Tryd.func19 (by kernel_rfl) rfl #[.int .i64 a0_0, .int .i64 1, .int .i64 25] rfl (by (try simp only [List.map_toArray, List.map_cons, List.map_nil]); first | done | rfl | (simp only [List.length_drop, List.length_take]; rfl)) ?_; (with_reducible refine (spec_l1In.calls a0_0 1 25 false _ A2.out).mono ?_); rintro e w' ⟨rfl, ⟨nd, rfl⟩⟩; refine ⟨_, rfl, ?_⟩))
    go_ret
    exact ⟨by first | rfl | (simp [errW_none, errW_some] <;> rfl) | (simp [*, errW_none, errW_some] <;> rfl), by repeat (first | (with_reducible first | exact HB.out | apply below_alloc | apply pw_below_drewN | apply below_drew1 | refine below_set ?_ GE112.out) | exact HB.out)⟩

end Go.Proofs.YtpmeopkjfhgdlaaDoor.XFnExactCodeText
