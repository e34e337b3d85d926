-- Written by xp.py of this workplace out of Lean's own print of the translation. Not trusted: Lean checks it.
import Derived.Test.YtjlkkappngnbjaaDoorXFnTokens0
import Derived.Test.YtjlkkappngnbjaaDoorXFnTokens3
namespace Go.Proofs.YtjlkkappngnbjaaDoor.XFnTokens
open Go.RowKit Go.Proofs.YtjlkkappngnbjaaDoorW.PrintWords Go.Proofs.YtjlkkappngnbjaaDoorW.PrintLast Go.Proofs.YtjlkkappngnbjaaDoorW.PrintMore
attribute [local go_sem] max2_int min2_int max_two min_two max_three min_three max_four min_four   -- for this text's walks alone
set_option linter.unusedVariables false
set_option linter.unusedSimpArgs false

/-! ### impl_tokenAt: function 16 -/
def impl_tokenAt.f (k : Nat) (a0 : ByteArray) (a1 : Int) : Option (Int × ByteArray × Int × Int × Int × Bool) := if 0 ≤ a1 then (if a1 < (a0.size : Int) then ((impl_letter.f (bt a0 a1)).bind fun t172 => (if t172 = true then ((impl_run_f25.f k a0 a1 ()).bind fun t173 => (if a1 ≤ t173 then (if t173 ≤ (a0.size : Int) then (some (1, a0.extract (a1 : Int).toNat (t173 : Int).toNat, 0, a1, t173, decide ((wrap64 (t173 - a1)) ≤ 12))) else (none)) else (none))) else ((impl_digit.f (bt a0 a1)).bind fun t174 => (if t174 = true then ((impl_run_f26.f k a0 a1 ()).bind fun t175 => (if a1 ≤ t175 then (if t175 ≤ (a0.size : Int) then ((strconv_Atoi.f (a0.extract (a1 : Int).toNat (t175 : Int).toNat)).bind fun bt176 => (if bt176.2.isNone = true then (if bt176.1 ≤ 2147483647 then ((strconv_Itoa.f bt176.1).bind fun t179 => (some (2, (⟨#[]⟩ : ByteArray), bt176.1, a1, t175, (t179.toList == (a0.extract (a1 : Int).toNat (t175 : Int).toNat).toList)))) else (some (2, (⟨#[]⟩ : ByteArray), bt176.1, a1, t175, false))) else (some (2, (⟨#[]⟩ : ByteArray), bt176.1, a1, t175, false)))) else (none)) else (none))) else (if (bt a0 a1) = 34 then ((impl_run_f29.f k a0 (wrap64 (a1 + 1)) ()).bind fun t180 => (if 0 ≤ (wrap64 (a1 + 1)) then (if (wrap64 (a1 + 1)) ≤ t180 then (if t180 ≤ (a0.size : Int) then (if t180 < (a0.size : Int) then (if 0 ≤ t180 then (if (bt a0 t180) = 34 then (some (3, a0.extract ((wrap64 (a1 + 1)) : Int).toNat (t180 : Int).toNat, 0, a1, wrap64 (t180 + 1), decide (((a0.extract ((wrap64 (a1 + 1)) : Int).toNat (t180 : Int).toNat).size : Int) ≤ 30))) else (some (3, a0.extract ((wrap64 (a1 + 1)) : Int).toNat (t180 : Int).toNat, 0, a1, wrap64 (t180 + 1), false))) else (none)) else (some (3, a0.extract ((wrap64 (a1 + 1)) : Int).toNat (t180 : Int).toNat, 0, a1, wrap64 (t180 + 1), false))) else (none)) else (none)) else (none))) else (if a1 ≤ (wrap64 (a1 + 1)) then (if (wrap64 (a1 + 1)) ≤ (a0.size : Int) then (if a1 ≤ (a0.size : Int) then ((strings_HasPrefix.f (a0.extract (a1 : Int).toNat a0.size) (⟨#[61, 61]⟩ : ByteArray)).bind fun t181 => (if t181 = true then (if 0 ≤ 1 then (if 1 ≤ 2 then ((strings_Contains.f (⟨#[40, 41, 123, 125, 44, 59, 58, 46, 61, 43, 45, 42, 60, 33]⟩ : ByteArray) ((⟨#[61, 61]⟩ : ByteArray).extract 0 1)).bind fun t182 => (some (4, (⟨#[61, 61]⟩ : ByteArray), 0, a1, wrap64 (a1 + 2), t182))) else (none)) else (none)) else (if 0 ≤ 1 then (if 1 ≤ ((a0.extract (a1 : Int).toNat ((wrap64 (a1 + 1)) : Int).toNat).size : Int) then ((strings_Contains.f (⟨#[40, 41, 123, 125, 44, 59, 58, 46, 61, 43, 45, 42, 60, 33]⟩ : ByteArray) ((a0.extract (a1 : Int).toNat ((wrap64 (a1 + 1)) : Int).toNat).extract 0 1)).bind fun t183 => (some (4, a0.extract (a1 : Int).toNat ((wrap64 (a1 + 1)) : Int).toNat, 0, a1, wrap64 (a1 + ((a0.extract (a1 : Int).toNat ((wrap64 (a1 + 1)) : Int).toNat).size : Int)), t183))) else (none)) else (none)))) else (none)) else (none)) else (none))))))) else (none)) else (none)
theorem impl_tokenAt.mono : ∀ a0 a1 k, LeO (impl_tokenAt.f k a0 a1) (impl_tokenAt.f (k + 1) a0 a1) := by
 intro a0 a1 k
 unfold impl_tokenAt.f
 repeat' first
   | (with_reducible exact impl_run_f25.mono _ _ _ _)
   | (with_reducible exact impl_run_f26.mono _ _ _ _)
   | (with_reducible exact impl_run_f29.mono _ _ _ _)
   | (with_reducible exact LeO.refl _)
   | (with_reducible exact LeO.none _)
   | (with_reducible refine LeO.ite ?_ ?_)
   | (with_reducible refine LeO.bind ?_ (fun _ => ?_))
   | exact impl_run_f25.mono _ _ _ _
   | exact impl_run_f26.mono _ _ _ _
   | exact impl_run_f29.mono _ _ _ _
   | exact LeO.none _
   | refine LeO.ite ?_ ?_
   | refine LeO.bind ?_ (fun _ => ?_)
def impl_tokenAt.T5 : Bool × List (List Nat × List Nat) := (true, [([], []), ([], []), ([], []), ([0, 1, 2], [0, 1, 2]), ([], []), ([4], [4]), ([0, 1, 2, 3, 4, 5], []), ([6, 3, 5, 0, 1, 2, 3, 4, 5], [3, 6])])
def impl_tokenAt.B5 : List Nat := [0, 0, 0, 7, 0, 16, 63, 127]
theorem impl_tokenAt.tab5 : rtab .any (opsOf Tryd.f16 5) = impl_tokenAt.T5 := by kernel_rfl
theorem impl_tokenAt.bits5 : waitsOk impl_tokenAt.T5.2 impl_tokenAt.B5 = true := by kernel_rfl
def impl_tokenAt.T11 : Bool × List (List Nat × List Nat) := (true, [([], []), ([], []), ([], []), ([2], [2]), ([3], [3]), ([4], [4]), ([5, 4], [4, 5]), ([4, 6], [4, 6]), ([7, 4], [7]), ([8], [8]), ([9, 8, 8], [8, 9]), ([8], [8]), ([8], [8]), ([8], [8]), ([11, 12, 13, 8], [8, 11, 12, 13]), ([10, 14, 8], [8, 10, 14]), ([8, 15], [8, 15]), ([0, 10, 0], [0]), ([1, 17, 0, 1, 17], [1]), ([16, 18, 0, 1, 2, 3, 4, 5, 6, 7, 8, 9, 10, 11, 12, 13, 14, 15, 16, 17, 18], [16])])
def impl_tokenAt.B11 : List Nat := [0, 0, 0, 4, 12, 28, 60, 124, 252, 508, 1020, 508, 508, 508, 14844, 32764, 65532, 2045, 133119, 524287]
theorem impl_tokenAt.tab11 : rtab .any (opsOf Tryd.f16 11) = impl_tokenAt.T11 := by kernel_rfl
theorem impl_tokenAt.bits11 : waitsOk impl_tokenAt.T11.2 impl_tokenAt.B11 = true := by kernel_rfl
def impl_tokenAt.T14 : Bool × List (List Nat × List Nat) := (true, [([], []), ([], []), ([1], [1]), ([], []), ([0, 2, 3], [0, 2, 3]), ([], []), ([5], [5]), ([0, 1, 2, 3, 4, 5, 6], []), ([7, 4, 6, 0, 1, 2, 3, 4, 5, 6], [4, 7])])
def impl_tokenAt.B14 : List Nat := [0, 0, 2, 0, 15, 0, 32, 127, 255]
theorem impl_tokenAt.tab14 : rtab .any (opsOf Tryd.f16 14) = impl_tokenAt.T14 := by kernel_rfl
theorem impl_tokenAt.bits14 : waitsOk impl_tokenAt.T14.2 impl_tokenAt.B14 = true := by kernel_rfl
def impl_tokenAt.T15 : Bool × List (List Nat × List Nat) := (true, [([], []), ([], []), ([1], [1]), ([], []), ([], []), ([4], [4]), ([3, 5], [3, 5]), ([6], [6]), ([7], [7]), ([7], [7]), ([8, 9, 7], [7, 8, 9]), ([10, 7], [7, 10]), ([7, 11], [7, 11]), ([12, 7], [12]), ([13], [13]), ([14, 13], [13, 14]), ([15, 13], [13, 15]), ([16, 13], [13, 16]), ([13, 17], [13, 17]), ([0, 13, 0], [0]), ([2, 19, 0, 1, 2, 19], [2]), ([18, 20, 0, 1, 2, 3, 4, 5, 6, 7, 8, 9, 10, 11, 12, 13, 14, 15, 16, 17, 18, 19, 20], [18])])
def impl_tokenAt.B15 : List Nat := [0, 0, 2, 0, 0, 16, 56, 120, 248, 248, 1016, 2040, 4088, 8184, 16376, 32760, 65528, 131064, 262136, 16377, 540671, 2097151]
theorem impl_tokenAt.tab15 : rtab .any (opsOf Tryd.f16 15) = impl_tokenAt.T15 := by kernel_rfl
theorem impl_tokenAt.bits15 : waitsOk impl_tokenAt.T15.2 impl_tokenAt.B15 = true := by kernel_rfl
def impl_tokenAt.T16 : Bool × List (List Nat × List Nat) := (true, [([], []), ([], []), ([], []), ([2], [2]), ([0, 1, 3], [0, 1, 3]), ([], []), ([5], [5]), ([0, 1, 2, 3, 4, 5, 6], []), ([7, 4, 6, 0, 1, 2, 3, 4, 5, 6], [4, 7])])
def impl_tokenAt.B16 : List Nat := [0, 0, 0, 4, 15, 0, 32, 127, 255]
theorem impl_tokenAt.tab16 : rtab .any (opsOf Tryd.f16 16) = impl_tokenAt.T16 := by kernel_rfl
theorem impl_tokenAt.bits16 : waitsOk impl_tokenAt.T16.2 impl_tokenAt.B16 = true := by kernel_rfl
def impl_tokenAt.T19 : Bool × List (List Nat × List Nat) := (true, [([], []), ([], []), ([], []), ([2], [2]), ([3], [3]), ([1, 4], [1, 4]), ([], []), ([6], [6]), ([7], [7]), ([8], [8]), ([0, 9, 0], [0]), ([5, 10, 0, 1, 2, 3, 4, 5, 10], [5]), ([9, 11, 0, 1, 2, 3, 4, 5, 6, 7, 8, 9, 10, 11], [9])])
def impl_tokenAt.B19 : List Nat := [0, 0, 0, 4, 12, 30, 0, 64, 192, 448, 961, 2047, 4095]
theorem impl_tokenAt.tab19 : rtab .any (opsOf Tryd.f16 19) = impl_tokenAt.T19 := by kernel_rfl
theorem impl_tokenAt.bits19 : waitsOk impl_tokenAt.T19.2 impl_tokenAt.B19 = true := by kernel_rfl
set_option maxHeartbeats 8000000 in
set_option maxRecDepth 100000 in
theorem impl_tokenAt.calls (k : Nat) (a0 : ByteArray) (a1 : Int) (r1 : Int) (r2 : ByteArray) (r3 : Int) (r4 : Int) (r5 : Int) (r6 : Bool) (w : World) (hT : TabX w) (h : impl_tokenAt.f k a0 a1 = some (r1, r2, r3, r4, r5, r6)) :
  Calls Tryd.prog 16 #[.string a0, .int .i64 a1] w fun e w' => e = .returned (.tuple #[.agg #[.int .i64 r1, .string r2, .int .i64 r3, .int .i64 r4], .int .i64 r5, .bool r6]) ∧ Below w.heap.size w w' := by
 have HT := Aside0.mk hT
 clear hT
 have hu29 := Tryd.underlying29
 have hu52 := Tryd.underlying52
 have HB := Aside0.mk (Below.refl w.heap.size w)
 have H : (if 0 ≤ a1 then (if a1 < (a0.size : Int) then ((impl_letter.f (bt a0 a1)).bind fun t172 => (if t172 = true then ((impl_run_f25.f k a0 a1 ()).bind fun t173 => (if a1 ≤ t173 then (if t173 ≤ (a0.size : Int) then (some (1, a0.extract (a1 : Int).toNat (t173 : Int).toNat, 0, a1, t173, decide ((wrap64 (t173 - a1)) ≤ 12))) else (none)) else (none))) else ((impl_digit.f (bt a0 a1)).bind fun t174 => (if t174 = true then ((impl_run_f26.f k a0 a1 ()).bind fun t175 => (if a1 ≤ t175 then (if t175 ≤ (a0.size : Int) then ((strconv_Atoi.f (a0.extract (a1 : Int).toNat (t175 : Int).toNat)).bind fun bt176 => (if bt176.2.isNone = true then (if bt176.1 ≤ 2147483647 then ((strconv_Itoa.f bt176.1).bind fun t179 => (some (2, (⟨#[]⟩ : ByteArray), bt176.1, a1, t175, (t179.toList == (a0.extract (a1 : Int).toNat (t175 : Int).toNat).toList)))) else (some (2, (⟨#[]⟩ : ByteArray), bt176.1, a1, t175, false))) else (some (2, (⟨#[]⟩ : ByteArray), bt176.1, a1, t175, false)))) else (none)) else (none))) else (if (bt a0 a1) = 34 then ((impl_run_f29.f k a0 (wrap64 (a1 + 1)) ()).bind fun t180 => (if 0 ≤ (wrap64 (a1 + 1)) then (if (wrap64 (a1 + 1)) ≤ t180 then (if t180 ≤ (a0.size : Int) then (if t180 < (a0.size : Int) then (if 0 ≤ t180 then (if (bt a0 t180) = 34 then (some (3, a0.extract ((wrap64 (a1 + 1)) : Int).toNat (t180 : Int).toNat, 0, a1, wrap64 (t180 + 1), decide (((a0.extract ((wrap64 (a1 + 1)) : Int).toNat (t180 : Int).toNat).size : Int) ≤ 30))) else (some (3, a0.extract ((wrap64 (a1 + 1)) : Int).toNat (t180 : Int).toNat, 0, a1, wrap64 (t180 + 1), false))) else (none)) else (some (3, a0.extract ((wrap64 (a1 + 1)) : Int).toNat (t180 : Int).toNat, 0, a1, wrap64 (t180 + 1), false))) else (none)) else (none)) else (none))) else (if a1 ≤ (wrap64 (a1 + 1)) then (if (wrap64 (a1 + 1)) ≤ (a0.size : Int) then (if a1 ≤ (a0.size : Int) then ((strings_HasPrefix.f (a0.extract (a1 : Int).toNat a0.size) (⟨#[61, 61]⟩ : ByteArray)).bind fun t181 => (if t181 = true then (if 0 ≤ 1 then (if 1 ≤ 2 then ((strings_Contains.f (⟨#[40, 41, 123, 125, 44, 59, 58, 46, 61, 43, 45, 42, 60, 33]⟩ : ByteArray) ((⟨#[61, 61]⟩ : ByteArray).extract 0 1)).bind fun t182 => (some (4, (⟨#[61, 61]⟩ : ByteArray), 0, a1, wrap64 (a1 + 2), t182))) else (none)) else (none)) else (if 0 ≤ 1 then (if 1 ≤ ((a0.extract (a1 : Int).toNat ((wrap64 (a1 + 1)) : Int).toNat).size : Int) then ((strings_Contains.f (⟨#[40, 41, 123, 125, 44, 59, 58, 46, 61, 43, 45, 42, 60, 33]⟩ : ByteArray) ((a0.extract (a1 : Int).toNat ((wrap64 (a1 + 1)) : Int).toNat).extract 0 1)).bind fun t183 => (some (4, a0.extract (a1 : Int).toNat ((wrap64 (a1 + 1)) : Int).toNat, 0, a1, wrap64 (a1 + ((a0.extract (a1 : Int).toNat ((wrap64 (a1 + 1)) : Int).toNat).size : Int)), t183))) else (none)) else (none)))) else (none)) else (none)) else (none))))))) else (none)) else (none)) = some (r1, r2, r3, r4, r5, r6) := h
 clear h
 by_cases c3 : 0 ≤ a1
 ·
  rw [if_pos c3] at H
  have c3b0 : decide (0 ≤ a1) = true := decide_eq_true c3
  clear c3
  by_cases c4 : a1 < (a0.size : Int)
  ·
   rw [if_pos c4] at H
   have c4b0 : decide (a1 < (a0.size : Int)) = true := decide_eq_true c4
   clear c4
   replace H := Option.bind_eq_some_iff.mp H
   obtain ⟨t172, A60, H⟩ := H
   have A6 := Aside0.mk A60
   clear A60
   by_cases c7 : t172 = true
   ·
    subst c7
    rw [if_pos rfl] at H
    have H1 := H
    clear H
    have H := H1
    clear H1
    replace H := Option.bind_eq_some_iff.mp H
    obtain ⟨t173, A80, H⟩ := H
    have A8 := Aside0.mk A80
    clear A80
    have c9b0 := eq_true (of_decide_eq_true (by first | (with_reducible assumption) | assumption) : 0 ≤ a1)
    by_cases c10 : a1 ≤ t173
    ·
     rw [if_pos c10] at H
     have c10b0 := eq_true c10
     have c10b1 : decide (a1 ≤ t173) = true := decide_eq_true c10
     clear c10
     by_cases c11 : t173 ≤ (a0.size : Int)
     ·
      rw [if_pos c11] at H
      have c11b0 := eq_true c11
      have c11b1 : decide (t173 ≤ (a0.size : Int)) = true := decide_eq_true c11
      clear c11
      simp only [Option.some.injEq, Prod.mk.injEq] at H
      obtain ⟨rfl, rfl, rfl, rfl, rfl, rfl⟩ := H
      go_enter Tryd.func16, Tryd.ntmps16
      try go_wp2_with (first | ((with_reducible refine gate_dst (N := 4) rfl ?_); (try (refine gate_guard (by rfl) ?_; dsimp only)); refine be_ 4 #[.int .i64 0, .string (⟨#[]⟩ : ByteArray), .int .i64 0, .int .i64 0] 29 ?_; intro gb170 hg w12 hbox hb; have n0_ := Aside0.mk (below_step (t0c4_) hb); have n1_ := Aside0.mk (hbox); have n2_ := Aside0.mk ((by rw [hg]; exact (below_size (t0c4_)) : w.heap.size ≤ gb170)); have n3_ := Aside0.mk ((by rw [hg]; exact (below_size (t0c4_)) : w.heap.size ≤ gb170)); clear HB; have HB := n0_; have BK170 := n1_; have GW170 := n2_; have GE170 := n3_; clear n0_ n1_ n2_ n3_; clear hb hbox hg) | ((with_reducible refine gate_dst (N := 7) rfl ?_); (try (refine gate_guard (by rfl) ?_; dsimp only)); refine be_ 7 #[.int .i64 0, .string (⟨#[]⟩ : ByteArray), .int .i64 0, .int .i64 0] 29 ?_; intro gb171 hg w13 hbox hb; have n0_ := Aside0.mk (blk_below (g := gb170) (o := .cells #[.int .i64 0, .string (⟨#[]⟩ : ByteArray), .int .i64 0, .int .i64 0] 29 (0, 0)) (tn_ BK170.out) hb); have n1_ := Aside0.mk (below_step (tf6d_) hb); have n2_ := Aside0.mk (hbox); have n3_ := Aside0.mk ((by rw [hg]; exact (below_size (tf6d_)) : w.heap.size ≤ gb171)); have n4_ := Aside0.mk ((by rw [hg]; exact (below_size (tf6d_)) : w.heap.size ≤ gb171)); have n5_ := Aside0.mk ((by rw [hg]; exact Nat.ne_of_lt (blk_lt (g := gb170) (o := .cells #[.int .i64 0, .string (⟨#[]⟩ : ByteArray), .int .i64 0, .int .i64 0] 29 (0, 0)) (tn_ BK170.out)) : gb170 ≠ gb171)); have n6_ := Aside0.mk ((by rw [hg]; exact Nat.ne_of_gt (blk_lt (g := gb170) (o := .cells #[.int .i64 0, .string (⟨#[]⟩ : ByteArray), .int .i64 0, .int .i64 0] 29 (0, 0)) (tn_ BK170.out)) : gb171 ≠ gb170)); clear BK170; clear HB; have BK170 := n0_; have HB := n1_; have BK171 := n2_; have GW171 := n3_; have GE171 := n4_; have NB170_171 := n5_; have NB171_170 := n6_; clear n0_ n1_ n2_ n3_ n4_ n5_ n6_; clear hb hbox hg; have hnb14 := NB171_170.out; have hnc14 := NB170_171.out; have hcz15_0 : w13.cell? ⟨gb171, 0, none⟩ = some (.int .i64 0) := (blk_cell BK171.out 0).trans rfl; have hcz15_1 : w13.cell? ⟨gb171, 1, none⟩ = some (.string (⟨#[]⟩ : ByteArray)) := (blk_cell BK171.out 1).trans rfl; have hcz15_2 : w13.cell? ⟨gb171, 2, none⟩ = some (.int .i64 0) := (blk_cell BK171.out 2).trans rfl; have hcz15_3 : w13.cell? ⟨gb171, 3, none⟩ = some (.int .i64 0) := (blk_cell BK171.out 3).trans rfl; have hfz15_0 := blk_frozen BK171.out 0; have hfz15_1 := blk_frozen BK171.out 1; have hfz15_2 := blk_frozen BK171.out 2; have hfz15_3 := blk_frozen BK171.out 3; have p5 : 0 ≤ (a1 : Int) := of_decide_eq_true (by first | (with_reducible assumption) | assumption); have q5 : a1 < (a0.size : Int) := of_decide_eq_true (by first | (with_reducible assumption) | assumption); have hx5 := bt_at a0 a1; replace p5 := eq_true p5; replace q5 := eq_true q5) | ((with_reducible refine gate_callee (f := 23) rfl ?_); refine gl_ (some 21) Tryd.func23 #[.int .u8 (bt a0 a1)] ?_; (with_reducible refine (impl_letter.calls (bt a0 a1) true _ A6.out).mono ?_); rintro e w' ⟨rfl, ⟨nd, rfl⟩⟩; refine ⟨_, rfl, ?_⟩) | ((with_reducible refine gate_callee (f := 24) rfl ?_); refine gl_ (some 24) Tryd.func24 #[.string a0, .int .i64 a1, .func (.func 25) #[] #[]] ?_; (with_reducible refine (impl_run_f25.calls k a0 a1 () t173 _ A8.out).mono ?_); rintro e w' ⟨rfl, ⟨nd, rfl⟩⟩; refine ⟨_, rfl, ?_⟩))
      (try simp only [setCell_drewN_])
      have n0_ : Aside0 (((((w13.setCell ⟨gb171, 0, none⟩ (.int .i64 0)).setCell ⟨gb171, 1, none⟩ (.string (⟨#[]⟩ : ByteArray))).setCell ⟨gb171, 2, none⟩ (.int .i64 0)).setCell ⟨gb171, 3, none⟩ (.int .i64 a1)).heap[gb170]? = some (.cells #[.int .i64 0, .string (⟨#[]⟩ : ByteArray), .int .i64 0, .int .i64 0] 29 (0, 0))) := ⟨by refine tf_ NB170_171.out ?_; refine tf_ NB170_171.out ?_; refine tf_ NB170_171.out ?_; refine tf_ NB170_171.out ?_; refine tn_ ?_; exact BK170.out⟩
      have n1_ : Aside0 (((((w13.setCell ⟨gb171, 0, none⟩ (.int .i64 0)).setCell ⟨gb171, 1, none⟩ (.string (⟨#[]⟩ : ByteArray))).setCell ⟨gb171, 2, none⟩ (.int .i64 0)).setCell ⟨gb171, 3, none⟩ (.int .i64 a1)).heap[gb171]? = some (.cells #[.int .i64 0, .string (⟨#[]⟩ : ByteArray), .int .i64 0, .int .i64 a1] 29 (0, 0))) := ⟨by refine tp_ #[.int .i64 0, .string (⟨#[]⟩ : ByteArray), .int .i64 0, .int .i64 0] 3 ?_; refine tp_ #[.int .i64 0, .string (⟨#[]⟩ : ByteArray), .int .i64 0, .int .i64 0] 2 ?_; refine tp_ #[.int .i64 0, .string (⟨#[]⟩ : ByteArray), .int .i64 0, .int .i64 0] 1 ?_; refine tp_ #[.int .i64 0, .string (⟨#[]⟩ : ByteArray), .int .i64 0, .int .i64 0] 0 ?_; refine tn_ ?_; exact BK171.out⟩
      have n2_ : Aside0 (Below w.heap.size w ((((w13.setCell ⟨gb171, 0, none⟩ (.int .i64 0)).setCell ⟨gb171, 1, none⟩ (.string (⟨#[]⟩ : ByteArray))).setCell ⟨gb171, 2, none⟩ (.int .i64 0)).setCell ⟨gb171, 3, none⟩ (.int .i64 a1))) := ⟨tf6d_⟩
      (try clear BK170)
      (try clear BK171)
      (try clear HB)
      generalize ((((w13.setCell ⟨gb171, 0, none⟩ (.int .i64 0)).setCell ⟨gb171, 1, none⟩ (.string (⟨#[]⟩ : ByteArray))).setCell ⟨gb171, 2, none⟩ (.int .i64 0)).setCell ⟨gb171, 3, none⟩ (.int .i64 a1)) = w16 at n0_ n1_ n2_ ⊢
      have BK170 := n0_
      have BK171 := n1_
      have HB := n2_
      clear n0_ n1_ n2_
      (try (rw [drewN_self w16]; generalize hq_ : World.drewN w16 _ = w16; have n0_ : Aside0 (w16.heap[gb170]? = some (.cells #[.int .i64 0, .string (⟨#[]⟩ : ByteArray), .int .i64 0, .int .i64 0] 29 (0, 0))) := ⟨by rw [← hq_]; exact (tn_ BK170.out)⟩; have n1_ : Aside0 (w16.heap[gb171]? = some (.cells #[.int .i64 0, .string (⟨#[]⟩ : ByteArray), .int .i64 0, .int .i64 a1] 29 (0, 0))) := ⟨by rw [← hq_]; exact (tn_ BK171.out)⟩; have n2_ : Aside0 (Below w.heap.size w w16) := ⟨by rw [← hq_]; exact (tf6d_)⟩; clear BK170 BK171 HB hq_; have BK170 := n0_; have BK171 := n1_; have HB := n2_; clear n0_ n1_ n2_))
      have n0_ := Aside0.mk (blk_drew BK170.out)
      have n1_ := Aside0.mk (blk_drew BK171.out)
      have n2_ := Aside0.mk (below_drew1 HB.out)
      clear BK170
      clear BK171
      clear HB
      have BK170 := n0_
      have BK171 := n1_
      have HB := n2_
      clear n0_ n1_ n2_
      refine start_ (n := 8) (S := fun w' => True) (ds := []) (Array.replicate 8 false) (by kernel_rfl) rfl rfl trivial (fun hHeld => ?_); refine with_tabW impl_tokenAt.tab5 impl_tokenAt.bits5 (fun HT_ HW_ => ?_)
      generalize w16.drew = w17 at BK170 BK171 HB hHeld ⊢
      refine pv_ 0 (some 25) (bm 8 1) ?_
      refine pv_ 1 (some 26) (bm 8 3) ?_
      refine pv_ 2 (some 27) (bm 8 7) ?_
      refine pv_ 3 (some 28) (bm 8 15) ?_
      refine pv_ 4 (some 29) (bm 8 31) ?_
      refine one_ (i := 5) (N := none) (bm 8 63) rfl rfl (one_of HT_.out (by kernel_rfl)) (by decide) (fun K hK => ?_)
      have hs18 : w17.cell? ⟨gb171, 0, none⟩ = some (.int .i64 0) := (blk_cell BK171.out 0).trans rfl
      have hfs18 := blk_frozen BK171.out 0
      have hns18_0 := NB170_171.out
      have hms18_0 := NB171_170.out
      refine skip_ (w1 := ?_) (by rfl) rfl ?_ ?_
      rotate_left; (go_simp; rfl)
      refine hK.out _ _ trivial (fun hHeld => ?_)
      clear hK K
      refine pv_ 6 (some 30) (bm 8 127) ?_
      refine one_ (i := 7) (N := none) (bm 8 255) rfl rfl (one_of HT_.out (by kernel_rfl)) (by decide) (fun K hK => ?_)
      have hs19 : w17.cell? ⟨gb171, 1, none⟩ = some (.string (⟨#[]⟩ : ByteArray)) := (blk_cell BK171.out 1).trans rfl
      have hfs19 := blk_frozen BK171.out 1
      have hns19_0 := NB170_171.out
      have hms19_0 := NB171_170.out
      refine skip_ (w1 := ?_) (by rfl) rfl ?_ ?_
      rotate_left; (go_simp; rfl)
      refine hK.out _ _ trivial (fun hHeld => ?_)
      clear hK K
      refine done_ (done_of HT_.out (by kernel_rfl)) ?_
      have hcz20_0 : w17.cell? ⟨gb171, 0, none⟩ = some (.int .i64 0) := (blk_cell BK171.out 0).trans rfl
      have hcz20_1 : w17.cell? ⟨gb171, 1, none⟩ = some (.string (⟨#[]⟩ : ByteArray)) := (blk_cell BK171.out 1).trans rfl
      have hcz20_2 : w17.cell? ⟨gb171, 2, none⟩ = some (.int .i64 0) := (blk_cell BK171.out 2).trans rfl
      have hcz20_3 : w17.cell? ⟨gb171, 3, none⟩ = some (.int .i64 a1) := (blk_cell BK171.out 3).trans rfl
      have hfz20_0 := blk_frozen BK171.out 0
      have hfz20_1 := blk_frozen BK171.out 1
      have hfz20_2 := blk_frozen BK171.out 2
      have hfz20_3 := blk_frozen BK171.out 3
      have hcz21_0 : w17.cell? ⟨gb170, 0, none⟩ = some (.int .i64 0) := (blk_cell BK170.out 0).trans rfl
      have hcz21_1 : w17.cell? ⟨gb170, 1, none⟩ = some (.string (⟨#[]⟩ : ByteArray)) := (blk_cell BK170.out 1).trans rfl
      have hcz21_2 : w17.cell? ⟨gb170, 2, none⟩ = some (.int .i64 0) := (blk_cell BK170.out 2).trans rfl
      have hcz21_3 : w17.cell? ⟨gb170, 3, none⟩ = some (.int .i64 0) := (blk_cell BK170.out 3).trans rfl
      have hfz21_0 := blk_frozen BK170.out 0
      have hfz21_1 := blk_frozen BK170.out 1
      have hfz21_2 := blk_frozen BK170.out 2
      have hfz21_3 := blk_frozen BK170.out 3
      try go_wp2
      refine bodyPost_ret (results_ctt rfl _ _ gb170 29 #[.int .i64 1, .string (a0.extract (a1 : Int).toNat (t173 : Int).toNat), .int .i64 0, .int .i64 a1] (0, 0) _ rfl (by refine tp_ #[.int .i64 1, .string (a0.extract (a1 : Int).toNat (t173 : Int).toNat), .int .i64 0, .int .i64 0] 3 ?_; refine tp_ #[.int .i64 1, .string (a0.extract (a1 : Int).toNat (t173 : Int).toNat), .int .i64 0, .int .i64 0] 2 ?_; refine tp_ #[.int .i64 1, .string (⟨#[]⟩ : ByteArray), .int .i64 0, .int .i64 0] 1 ?_; refine tp_ #[.int .i64 0, .string (⟨#[]⟩ : ByteArray), .int .i64 0, .int .i64 0] 0 ?_; refine tf_ NB170_171.out ?_; refine tf_ NB170_171.out ?_; refine tn_ ?_; exact BK170.out) Tryd.underlying29 rfl (by kernel_rfl)) rfl ?_
      exact ⟨by first | rfl | (simp [errW_none, errW_some] <;> rfl) | (simp [*, errW_none, errW_some] <;> rfl), tf6d_⟩
     ·
      rw [if_neg c11] at H
      exact absurd H (by simp)
    ·
     rw [if_neg c10] at H
     exact absurd H (by simp)
   ·
    replace c7 := Bool.eq_false_iff.mpr c7
    subst c7
    rw [if_neg (show ¬ (false = true) by decide)] at H
    have H1 := H
    clear H
    have H := H1
    clear H1
    replace H := Option.bind_eq_some_iff.mp H
    obtain ⟨t174, A220, H⟩ := H
    have A22 := Aside0.mk A220
    clear A220
    by_cases c23 : t174 = true
    ·
     subst c23
     rw [if_pos rfl] at H
     have H1 := H
     clear H
     have H := H1
     clear H1
     replace H := Option.bind_eq_some_iff.mp H
     obtain ⟨t175, A240, H⟩ := H
     have A24 := Aside0.mk A240
     clear A240
     have c25b0 := eq_true (of_decide_eq_true (by first | (with_reducible assumption) | assumption) : 0 ≤ a1)
     by_cases c26 : a1 ≤ t175
     ·
      rw [if_pos c26] at H
      have c26b0 := eq_true c26
      have c26b1 : decide (a1 ≤ t175) = true := decide_eq_true c26
      clear c26
      by_cases c27 : t175 ≤ (a0.size : Int)
      ·
       rw [if_pos c27] at H
       have c27b0 := eq_true c27
       have c27b1 : decide (t175 ≤ (a0.size : Int)) = true := decide_eq_true c27
       clear c27
       replace H := Option.bind_eq_some_iff.mp H
       obtain ⟨⟨t176, t177⟩, A280, H⟩ := H
       replace H : (if t177.isNone = true then (if t176 ≤ 2147483647 then ((strconv_Itoa.f t176).bind fun t179 => (some (2, (⟨#[]⟩ : ByteArray), t176, a1, t175, (t179.toList == (a0.extract (a1 : Int).toNat (t175 : Int).toNat).toList)))) else (some (2, (⟨#[]⟩ : ByteArray), t176, a1, t175, false))) else (some (2, (⟨#[]⟩ : ByteArray), t176, a1, t175, false))) = some (r1, r2, r3, r4, r5, r6) := H
       have A28 := Aside0.mk A280
       clear A280
       rcases t177 with _ | q178
       ·
        rw [if_pos (show (none : Option Int).isNone = true by rfl)] at H
        have H1 := H
        clear H
        have H := H1
        clear H1
        try simp only [errW_none, errW_some]
        by_cases c29 : t176 ≤ 2147483647
        ·
         rw [if_pos c29] at H
         have c29b0 : decide (t176 ≤ 2147483647) = true := decide_eq_true c29
         clear c29
         replace H := Option.bind_eq_some_iff.mp H
         obtain ⟨t179, A300, H⟩ := H
         have A30 := Aside0.mk A300
         clear A300
         have c31b0 := eq_true (of_decide_eq_true (by first | (with_reducible assumption) | assumption) : 0 ≤ a1)
         have c32b0 := eq_true (of_decide_eq_true (by first | (with_reducible assumption) | assumption) : a1 ≤ t175)
         have c33b0 := eq_true (of_decide_eq_true (by first | (with_reducible assumption) | assumption) : t175 ≤ (a0.size : Int))
         simp only [Option.some.injEq, Prod.mk.injEq] at H
         obtain ⟨rfl, rfl, rfl, rfl, rfl, rfl⟩ := H
         go_enter Tryd.func16, Tryd.ntmps16
         try go_wp2_with (first | ((with_reducible refine gate_dst (N := 4) rfl ?_); (try (refine gate_guard (by rfl) ?_; dsimp only)); refine be_ 4 #[.int .i64 0, .string (⟨#[]⟩ : ByteArray), .int .i64 0, .int .i64 0] 29 ?_; intro gb170 hg w34 hbox hb; have n0_ := Aside0.mk (below_step (t0c4_) hb); have n1_ := Aside0.mk (hbox); have n2_ := Aside0.mk ((by rw [hg]; exact (below_size (t0c4_)) : w.heap.size ≤ gb170)); have n3_ := Aside0.mk ((by rw [hg]; exact (below_size (t0c4_)) : w.heap.size ≤ gb170)); clear HB; have HB := n0_; have BK170 := n1_; have GW170 := n2_; have GE170 := n3_; clear n0_ n1_ n2_ n3_; clear hb hbox hg) | ((with_reducible refine gate_dst (N := 7) rfl ?_); (try (refine gate_guard (by rfl) ?_; dsimp only)); refine be_ 7 #[.int .i64 0, .string (⟨#[]⟩ : ByteArray), .int .i64 0, .int .i64 0] 29 ?_; intro gb171 hg w35 hbox hb; have n0_ := Aside0.mk (blk_below (g := gb170) (o := .cells #[.int .i64 0, .string (⟨#[]⟩ : ByteArray), .int .i64 0, .int .i64 0] 29 (0, 0)) (tn_ BK170.out) hb); have n1_ := Aside0.mk (below_step (tf6d_) hb); have n2_ := Aside0.mk (hbox); have n3_ := Aside0.mk ((by rw [hg]; exact (below_size (tf6d_)) : w.heap.size ≤ gb171)); have n4_ := Aside0.mk ((by rw [hg]; exact (below_size (tf6d_)) : w.heap.size ≤ gb171)); have n5_ := Aside0.mk ((by rw [hg]; exact Nat.ne_of_lt (blk_lt (g := gb170) (o := .cells #[.int .i64 0, .string (⟨#[]⟩ : ByteArray), .int .i64 0, .int .i64 0] 29 (0, 0)) (tn_ BK170.out)) : gb170 ≠ gb171)); have n6_ := Aside0.mk ((by rw [hg]; exact Nat.ne_of_gt (blk_lt (g := gb170) (o := .cells #[.int .i64 0, .string (⟨#[]⟩ : ByteArray), .int .i64 0, .int .i64 0] 29 (0, 0)) (tn_ BK170.out)) : gb171 ≠ gb170)); clear BK170; clear HB; have BK170 := n0_; have HB := n1_; have BK171 := n2_; have GW171 := n3_; have GE171 := n4_; have NB170_171 := n5_; have NB171_170 := n6_; clear n0_ n1_ n2_ n3_ n4_ n5_ n6_; clear hb hbox hg; have hnb36 := NB171_170.out; have hnc36 := NB170_171.out; have hcz37_0 : w35.cell? ⟨gb171, 0, none⟩ = some (.int .i64 0) := (blk_cell BK171.out 0).trans rfl; have hcz37_1 : w35.cell? ⟨gb171, 1, none⟩ = some (.string (⟨#[]⟩ : ByteArray)) := (blk_cell BK171.out 1).trans rfl; have hcz37_2 : w35.cell? ⟨gb171, 2, none⟩ = some (.int .i64 0) := (blk_cell BK171.out 2).trans rfl; have hcz37_3 : w35.cell? ⟨gb171, 3, none⟩ = some (.int .i64 0) := (blk_cell BK171.out 3).trans rfl; have hfz37_0 := blk_frozen BK171.out 0; have hfz37_1 := blk_frozen BK171.out 1; have hfz37_2 := blk_frozen BK171.out 2; have hfz37_3 := blk_frozen BK171.out 3; have p5 : 0 ≤ (a1 : Int) := of_decide_eq_true (by first | (with_reducible assumption) | assumption); have q5 : a1 < (a0.size : Int) := of_decide_eq_true (by first | (with_reducible assumption) | assumption); have hx5 := bt_at a0 a1; replace p5 := eq_true p5; replace q5 := eq_true q5) | ((with_reducible refine gate_callee (f := 23) rfl ?_); refine gl_ (some 21) Tryd.func23 #[.int .u8 (bt a0 a1)] ?_; (with_reducible refine (impl_letter.calls (bt a0 a1) false _ A6.out).mono ?_); rintro e w' ⟨rfl, ⟨nd, rfl⟩⟩; refine ⟨_, rfl, ?_⟩) | ((with_reducible refine gate_callee (f := 26) rfl ?_); refine gl_ (some 39) Tryd.func26 #[.int .u8 (bt a0 a1)] ?_; (with_reducible refine (impl_digit.calls (bt a0 a1) true _ A22.out).mono ?_); rintro e w' ⟨rfl, ⟨nd, rfl⟩⟩; refine ⟨_, rfl, ?_⟩) | ((with_reducible refine gate_callee (f := 24) rfl ?_); refine gl_ (some 42) Tryd.func24 #[.string a0, .int .i64 a1, .func (.func 26) #[] #[]] ?_; (with_reducible refine (impl_run_f26.calls k a0 a1 () t175 _ A24.out).mono ?_); rintro e w' ⟨rfl, ⟨nd, rfl⟩⟩; refine ⟨_, rfl, ?_⟩) | ((with_reducible refine gate_callee (f := 27) rfl ?_); refine gl_ (some 48) Tryd.func27 #[.string (a0.extract (a1 : Int).toNat (t175 : Int).toNat)] ?_; (with_reducible refine (strconv_Atoi.calls (a0.extract (a1 : Int).toNat (t175 : Int).toNat) t176 none _ ?sideT A28.out).mono ?_); (case sideT => exact tabBelow HT.out (tf6d_)); rintro e w38 ⟨NA_, rfl, hb⟩; simp only [Option.map_none, Option.map_some, errW_none, errW_some]; refine ⟨_, rfl, ?_⟩; have n0_ := Aside0.mk (blk_below (g := gb170) (o := .cells #[.int .i64 0, .string (⟨#[]⟩ : ByteArray), .int .i64 0, .int .i64 0] 29 (0, 0)) (by refine tf_ NB170_171.out ?_; refine tf_ NB170_171.out ?_; refine tf_ NB170_171.out ?_; refine tf_ NB170_171.out ?_; refine tn_ ?_; exact BK170.out) hb); have n1_ := Aside0.mk (blk_below (g := gb171) (o := .cells #[.int .i64 0, .string (⟨#[]⟩ : ByteArray), .int .i64 0, .int .i64 a1] 29 (0, 0)) (by refine tp_ #[.int .i64 0, .string (⟨#[]⟩ : ByteArray), .int .i64 0, .int .i64 0] 3 ?_; refine tp_ #[.int .i64 0, .string (⟨#[]⟩ : ByteArray), .int .i64 0, .int .i64 0] 2 ?_; refine tp_ #[.int .i64 0, .string (⟨#[]⟩ : ByteArray), .int .i64 0, .int .i64 0] 1 ?_; refine tp_ #[.int .i64 0, .string (⟨#[]⟩ : ByteArray), .int .i64 0, .int .i64 0] 0 ?_; refine tn_ ?_; exact BK171.out) hb); have n2_ := Aside0.mk (below_step (tf6d_) hb); clear BK170; clear BK171; clear HB; have BK170 := n0_; have BK171 := n1_; have HB := n2_; clear n0_ n1_ n2_; (try clear hb); (try clear hb2); (try clear hk); (try clear hi); (try simp only [errW_none, errW_some]); have hcz39_0 : w38.cell? ⟨gb171, 0, none⟩ = some (.int .i64 0) := (blk_cell BK171.out 0).trans rfl; have hcz39_1 : w38.cell? ⟨gb171, 1, none⟩ = some (.string (⟨#[]⟩ : ByteArray)) := (blk_cell BK171.out 1).trans rfl; have hcz39_2 : w38.cell? ⟨gb171, 2, none⟩ = some (.int .i64 0) := (blk_cell BK171.out 2).trans rfl; have hcz39_3 : w38.cell? ⟨gb171, 3, none⟩ = some (.int .i64 a1) := (blk_cell BK171.out 3).trans rfl; have hfz39_0 := blk_frozen BK171.out 0; have hfz39_1 := blk_frozen BK171.out 1; have hfz39_2 := blk_frozen BK171.out 2; have hfz39_3 := blk_frozen BK171.out 3))
         (try simp only [setCell_drewN_])
         have n0_ : Aside0 (((w38.setCell ⟨gb171, 0, none⟩ (.int .i64 2)).setCell ⟨gb171, 2, none⟩ (.int .i64 t176)).heap[gb170]? = some (.cells #[.int .i64 0, .string (⟨#[]⟩ : ByteArray), .int .i64 0, .int .i64 0] 29 (0, 0))) := ⟨by refine tf_ NB170_171.out ?_; refine tf_ NB170_171.out ?_; refine tn_ ?_; exact BK170.out⟩
         have n1_ : Aside0 (((w38.setCell ⟨gb171, 0, none⟩ (.int .i64 2)).setCell ⟨gb171, 2, none⟩ (.int .i64 t176)).heap[gb171]? = some (.cells #[.int .i64 2, .string (⟨#[]⟩ : ByteArray), .int .i64 t176, .int .i64 a1] 29 (0, 0))) := ⟨by refine tp_ #[.int .i64 2, .string (⟨#[]⟩ : ByteArray), .int .i64 0, .int .i64 a1] 2 ?_; refine tp_ #[.int .i64 0, .string (⟨#[]⟩ : ByteArray), .int .i64 0, .int .i64 a1] 0 ?_; refine tn_ ?_; exact BK171.out⟩
         have n2_ : Aside0 (Below w.heap.size w ((w38.setCell ⟨gb171, 0, none⟩ (.int .i64 2)).setCell ⟨gb171, 2, none⟩ (.int .i64 t176))) := ⟨tf6d_⟩
         (try clear BK170)
         (try clear BK171)
         (try clear HB)
         generalize ((w38.setCell ⟨gb171, 0, none⟩ (.int .i64 2)).setCell ⟨gb171, 2, none⟩ (.int .i64 t176)) = w40 at n0_ n1_ n2_ ⊢
         have BK170 := n0_
         have BK171 := n1_
         have HB := n2_
         clear n0_ n1_ n2_
         have n0_ := Aside0.mk (blk_drew BK170.out)
         have n1_ := Aside0.mk (blk_drew BK171.out)
         have n2_ := Aside0.mk (below_drew1 HB.out)
         clear BK170
         clear BK171
         clear HB
         have BK170 := n0_
         have BK171 := n1_
         have HB := n2_
         clear n0_ n1_ n2_
         refine start_ (n := 20) (S := fun w' => w'.cell? ⟨gb171, 0, none⟩ = some (.int .i64 2) ∧ w'.cell? ⟨gb171, 1, none⟩ = some (.string (⟨#[]⟩ : ByteArray)) ∧ w'.cell? ⟨gb171, 2, none⟩ = some (.int .i64 t176) ∧ w'.cell? ⟨gb171, 3, none⟩ = some (.int .i64 a1)) (ds := []) (Array.replicate 20 false) (by kernel_rfl) rfl rfl ⟨(blk_cell BK171.out 0).trans rfl, (blk_cell BK171.out 1).trans rfl, (blk_cell BK171.out 2).trans rfl, (blk_cell BK171.out 3).trans rfl⟩ (fun hHeld => ?_); refine with_tabW impl_tokenAt.tab11 impl_tokenAt.bits11 (fun HT_ HW_ => ?_)
         generalize w40.drew = w41 at BK170 BK171 HB hHeld ⊢
         refine pv_ 1 (some 55) (bm 20 2) ?_
         refine pv_ 2 (some 56) (bm 20 6) ?_
         refine pv_ 3 (some 57) (bm 20 14) ?_
         refine pv_ 4 (some 58) (bm 20 30) ?_
         refine pv_ 5 (some 59) (bm 20 62) ?_
         refine pv_ 6 (some 60) (bm 20 126) ?_
         refine pv_ 7 (some 61) (bm 20 254) ?_
         refine pv_ 8 (some 62) (bm 20 510) ?_
         refine pv_ 9 (some 63) (bm 20 1022) ?_
         refine pv_ 11 (some 65) (bm 20 3070) ?_
         refine pv_ 12 (some 66) (bm 20 7166) ?_
         refine pv_ 13 (some 67) (bm 20 15358) ?_
         refine pv_ 14 (some 68) (bm 20 31742) ?_
         refine tv_ 0 (some 54) (bm 20 31743) hHeld ?_
         refine one_ (i := 10) (N := some 64) (bm 20 32767) rfl rfl (one_of HT_.out (by kernel_rfl)) (by decide) (fun K hK => ?_)
         refine goes_ Tryd.func28 (by kernel_rfl) rfl #[.int .i64 t176] (by rfl) rfl rfl (by (try simp only [List.map_toArray, List.map_cons, List.map_nil]); first | done | rfl | (simp only [List.length_drop, List.length_take]; rfl)) ?_
         (with_reducible refine (strconv_Itoa.calls t176 t179 _ ?sideT A30.out).mono ?_); (case sideT => exact tabBelow HT.out (tf6d_))
         rintro e w42 ⟨rfl, hb⟩
         refine ⟨_, rfl, ?_⟩
         have n0_ := Aside0.mk (blk_below (g := gb170) (o := .cells #[.int .i64 0, .string (⟨#[]⟩ : ByteArray), .int .i64 0, .int .i64 0] 29 (0, 0)) (tn_ BK170.out) hb)
         have n1_ := Aside0.mk (blk_below (g := gb171) (o := .cells #[.int .i64 2, .string (⟨#[]⟩ : ByteArray), .int .i64 t176, .int .i64 a1] 29 (0, 0)) (tn_ BK171.out) hb)
         have n2_ := Aside0.mk (below_step (tf6d_) hb)
         clear BK170
         clear BK171
         clear HB
         have BK170 := n0_
         have BK171 := n1_
         have HB := n2_
         clear n0_ n1_ n2_
         (try clear hb)
         (try clear hb2)
         (try clear hk)
         (try clear hi)
         refine hK.out _ _ ⟨(blk_cell BK171.out 0).trans rfl, (blk_cell BK171.out 1).trans rfl, (blk_cell BK171.out 2).trans rfl, (blk_cell BK171.out 3).trans rfl⟩ (fun hHeld => ?_)
         clear hK K
         refine norm_ (a' := ?_) ?_ ?_
         rotate_left
         ·
          show Act.put _ (some 64) _ = _
          simp only [Act.put, List.setIfInBounds_toArray, List.set_cons_zero, List.set_cons_succ, i64_w, i32_w]
          rfl
         refine pv_ 15 (some 69) (bm 20 65535) ?_
         refine pv_ 16 (some 70) (bm 20 131071) ?_
         refine one_ (i := 17) (N := none) (bm 20 262143) rfl rfl (one_of HT_.out (by kernel_rfl)) (by decide) (fun K hK => ?_)
         have hs43 : w42.cell? ⟨gb170, 0, none⟩ = some (.int .i64 0) := (blk_cell BK170.out 0).trans rfl
         have hfs43 := blk_frozen BK170.out 0
         have hns43_1 := NB171_170.out
         have hms43_1 := NB170_171.out
         have hs44 : w42.cell? ⟨gb170, 1, none⟩ = some (.string (⟨#[]⟩ : ByteArray)) := (blk_cell BK170.out 1).trans rfl
         have hfs44 := blk_frozen BK170.out 1
         have hns44_1 := NB171_170.out
         have hms44_1 := NB170_171.out
         have hs45 : w42.cell? ⟨gb170, 2, none⟩ = some (.int .i64 0) := (blk_cell BK170.out 2).trans rfl
         have hfs45 := blk_frozen BK170.out 2
         have hns45_1 := NB171_170.out
         have hms45_1 := NB170_171.out
         have hs46 : w42.cell? ⟨gb170, 3, none⟩ = some (.int .i64 0) := (blk_cell BK170.out 3).trans rfl
         have hfs46 := blk_frozen BK170.out 3
         have hns46_1 := NB171_170.out
         have hms46_1 := NB170_171.out
         refine skip_ (w1 := ?_) (by rfl) rfl ?_ ?_
         rotate_left; (go_simp; rfl)
         refine hK.out _ _ ⟨((cell_far (p := ⟨gb170, _, none⟩) NB171_170.out _).trans (((cell_far (p := ⟨gb170, _, none⟩) NB171_170.out _).trans (((cell_far (p := ⟨gb170, _, none⟩) NB171_170.out _).trans (((cell_far (p := ⟨gb170, _, none⟩) NB171_170.out _).trans (hHeld.1)))))))), ((cell_far (p := ⟨gb170, _, none⟩) NB171_170.out _).trans (((cell_far (p := ⟨gb170, _, none⟩) NB171_170.out _).trans (((cell_far (p := ⟨gb170, _, none⟩) NB171_170.out _).trans (((cell_far (p := ⟨gb170, _, none⟩) NB171_170.out _).trans (hHeld.2.1)))))))), ((cell_far (p := ⟨gb170, _, none⟩) NB171_170.out _).trans (((cell_far (p := ⟨gb170, _, none⟩) NB171_170.out _).trans (((cell_far (p := ⟨gb170, _, none⟩) NB171_170.out _).trans (((cell_far (p := ⟨gb170, _, none⟩) NB171_170.out _).trans (hHeld.2.2.1)))))))), ((cell_far (p := ⟨gb170, _, none⟩) NB171_170.out _).trans (((cell_far (p := ⟨gb170, _, none⟩) NB171_170.out _).trans (((cell_far (p := ⟨gb170, _, none⟩) NB171_170.out _).trans (((cell_far (p := ⟨gb170, _, none⟩) NB171_170.out _).trans (hHeld.2.2.2))))))))⟩ (fun hHeld => ?_)
         clear hK K
         refine pv_ 18 (some 5) (bm 20 524287) ?_
         refine pv_ 19 (some 6) (bm 20 1048575) ?_
         refine done_ (done_of HT_.out (by kernel_rfl)) ?_
         try go_wp2
         refine bodyPost_ret (results_ctt rfl _ _ gb170 29 #[.int .i64 2, .string (⟨#[]⟩ : ByteArray), .int .i64 t176, .int .i64 a1] (0, 0) _ rfl (by refine tp_ #[.int .i64 2, .string (⟨#[]⟩ : ByteArray), .int .i64 t176, .int .i64 0] 3 ?_; refine tp_ #[.int .i64 2, .string (⟨#[]⟩ : ByteArray), .int .i64 0, .int .i64 0] 2 ?_; refine tp_ #[.int .i64 2, .string (⟨#[]⟩ : ByteArray), .int .i64 0, .int .i64 0] 1 ?_; refine tp_ #[.int .i64 0, .string (⟨#[]⟩ : ByteArray), .int .i64 0, .int .i64 0] 0 ?_; refine tn_ ?_; exact BK170.out) Tryd.underlying29 rfl (by kernel_rfl)) rfl ?_
         exact ⟨by first | rfl | (simp [errW_none, errW_some] <;> rfl) | (simp [*, errW_none, errW_some] <;> rfl), tf6d_⟩
        ·
         rw [if_neg c29] at H
         have c29b0 : decide (t176 ≤ 2147483647) = false := decide_eq_false c29
         clear c29
         simp only [Option.some.injEq, Prod.mk.injEq] at H
         obtain ⟨rfl, rfl, rfl, rfl, rfl, rfl⟩ := H
         go_enter Tryd.func16, Tryd.ntmps16
         try go_wp2_with (first | ((with_reducible refine gate_dst (N := 4) rfl ?_); (try (refine gate_guard (by rfl) ?_; dsimp only)); refine be_ 4 #[.int .i64 0, .string (⟨#[]⟩ : ByteArray), .int .i64 0, .int .i64 0] 29 ?_; intro gb170 hg w47 hbox hb; have n0_ := Aside0.mk (below_step (t0c4_) hb); have n1_ := Aside0.mk (hbox); have n2_ := Aside0.mk ((by rw [hg]; exact (below_size (t0c4_)) : w.heap.size ≤ gb170)); have n3_ := Aside0.mk ((by rw [hg]; exact (below_size (t0c4_)) : w.heap.size ≤ gb170)); clear HB; have HB := n0_; have BK170 := n1_; have GW170 := n2_; have GE170 := n3_; clear n0_ n1_ n2_ n3_; clear hb hbox hg) | ((with_reducible refine gate_dst (N := 7) rfl ?_); (try (refine gate_guard (by rfl) ?_; dsimp only)); refine be_ 7 #[.int .i64 0, .string (⟨#[]⟩ : ByteArray), .int .i64 0, .int .i64 0] 29 ?_; intro gb171 hg w48 hbox hb; have n0_ := Aside0.mk (blk_below (g := gb170) (o := .cells #[.int .i64 0, .string (⟨#[]⟩ : ByteArray), .int .i64 0, .int .i64 0] 29 (0, 0)) (tn_ BK170.out) hb); have n1_ := Aside0.mk (below_step (tf6d_) hb); have n2_ := Aside0.mk (hbox); have n3_ := Aside0.mk ((by rw [hg]; exact (below_size (tf6d_)) : w.heap.size ≤ gb171)); have n4_ := Aside0.mk ((by rw [hg]; exact (below_size (tf6d_)) : w.heap.size ≤ gb171)); have n5_ := Aside0.mk ((by rw [hg]; exact Nat.ne_of_lt (blk_lt (g := gb170) (o := .cells #[.int .i64 0, .string (⟨#[]⟩ : ByteArray), .int .i64 0, .int .i64 0] 29 (0, 0)) (tn_ BK170.out)) : gb170 ≠ gb171)); have n6_ := Aside0.mk ((by rw [hg]; exact Nat.ne_of_gt (blk_lt (g := gb170) (o := .cells #[.int .i64 0, .string (⟨#[]⟩ : ByteArray), .int .i64 0, .int .i64 0] 29 (0, 0)) (tn_ BK170.out)) : gb171 ≠ gb170)); clear BK170; clear HB; have BK170 := n0_; have HB := n1_; have BK171 := n2_; have GW171 := n3_; have GE171 := n4_; have NB170_171 := n5_; have NB171_170 := n6_; clear n0_ n1_ n2_ n3_ n4_ n5_ n6_; clear hb hbox hg; have hnb49 := NB171_170.out; have hnc49 := NB170_171.out; have hcz50_0 : w48.cell? ⟨gb171, 0, none⟩ = some (.int .i64 0) := (blk_cell BK171.out 0).trans rfl; have hcz50_1 : w48.cell? ⟨gb171, 1, none⟩ = some (.string (⟨#[]⟩ : ByteArray)) := (blk_cell BK171.out 1).trans rfl; have hcz50_2 : w48.cell? ⟨gb171, 2, none⟩ = some (.int .i64 0) := (blk_cell BK171.out 2).trans rfl; have hcz50_3 : w48.cell? ⟨gb171, 3, none⟩ = some (.int .i64 0) := (blk_cell BK171.out 3).trans rfl; have hfz50_0 := blk_frozen BK171.out 0; have hfz50_1 := blk_frozen BK171.out 1; have hfz50_2 := blk_frozen BK171.out 2; have hfz50_3 := blk_frozen BK171.out 3; have p5 : 0 ≤ (a1 : Int) := of_decide_eq_true (by first | (with_reducible assumption) | assumption); have q5 : a1 < (a0.size : Int) := of_decide_eq_true (by first | (with_reducible assumption) | assumption); have hx5 := bt_at a0 a1; replace p5 := eq_true p5; replace q5 := eq_true q5) | ((with_reducible refine gate_callee (f := 23) rfl ?_); refine gl_ (some 21) Tryd.func23 #[.int .u8 (bt a0 a1)] ?_; (with_reducible refine (impl_letter.calls (bt a0 a1) false _ A6.out).mono ?_); rintro e w' ⟨rfl, ⟨nd, rfl⟩⟩; refine ⟨_, rfl, ?_⟩) | ((with_reducible refine gate_callee (f := 26) rfl ?_); refine gl_ (some 39) Tryd.func26 #[.int .u8 (bt a0 a1)] ?_; (with_reducible refine (impl_digit.calls (bt a0 a1) true _ A22.out).mono ?_); rintro e w' ⟨rfl, ⟨nd, rfl⟩⟩; refine ⟨_, rfl, ?_⟩) | ((with_reducible refine gate_callee (f := 24) rfl ?_); refine gl_ (some 42) Tryd.func24 #[.string a0, .int .i64 a1, .func (.func 26) #[] #[]] ?_; (with_reducible refine (impl_run_f26.calls k a0 a1 () t175 _ A24.out).mono ?_); rintro e w' ⟨rfl, ⟨nd, rfl⟩⟩; refine ⟨_, rfl, ?_⟩) | ((with_reducible refine gate_callee (f := 27) rfl ?_); refine gl_ (some 48) Tryd.func27 #[.string (a0.extract (a1 : Int).toNat (t175 : Int).toNat)] ?_; (with_reducible refine (strconv_Atoi.calls (a0.extract (a1 : Int).toNat (t175 : Int).toNat) t176 none _ ?sideT A28.out).mono ?_); (case sideT => exact tabBelow HT.out (tf6d_)); rintro e w51 ⟨NA_, rfl, hb⟩; simp only [Option.map_none, Option.map_some, errW_none, errW_some]; refine ⟨_, rfl, ?_⟩; have n0_ := Aside0.mk (blk_below (g := gb170) (o := .cells #[.int .i64 0, .string (⟨#[]⟩ : ByteArray), .int .i64 0, .int .i64 0] 29 (0, 0)) (by refine tf_ NB170_171.out ?_; refine tf_ NB170_171.out ?_; refine tf_ NB170_171.out ?_; refine tf_ NB170_171.out ?_; refine tn_ ?_; exact BK170.out) hb); have n1_ := Aside0.mk (blk_below (g := gb171) (o := .cells #[.int .i64 0, .string (⟨#[]⟩ : ByteArray), .int .i64 0, .int .i64 a1] 29 (0, 0)) (by refine tp_ #[.int .i64 0, .string (⟨#[]⟩ : ByteArray), .int .i64 0, .int .i64 0] 3 ?_; refine tp_ #[.int .i64 0, .string (⟨#[]⟩ : ByteArray), .int .i64 0, .int .i64 0] 2 ?_; refine tp_ #[.int .i64 0, .string (⟨#[]⟩ : ByteArray), .int .i64 0, .int .i64 0] 1 ?_; refine tp_ #[.int .i64 0, .string (⟨#[]⟩ : ByteArray), .int .i64 0, .int .i64 0] 0 ?_; refine tn_ ?_; exact BK171.out) hb); have n2_ := Aside0.mk (below_step (tf6d_) hb); clear BK170; clear BK171; clear HB; have BK170 := n0_; have BK171 := n1_; have HB := n2_; clear n0_ n1_ n2_; (try clear hb); (try clear hb2); (try clear hk); (try clear hi); (try simp only [errW_none, errW_some]); have hcz52_0 : w51.cell? ⟨gb171, 0, none⟩ = some (.int .i64 0) := (blk_cell BK171.out 0).trans rfl; have hcz52_1 : w51.cell? ⟨gb171, 1, none⟩ = some (.string (⟨#[]⟩ : ByteArray)) := (blk_cell BK171.out 1).trans rfl; have hcz52_2 : w51.cell? ⟨gb171, 2, none⟩ = some (.int .i64 0) := (blk_cell BK171.out 2).trans rfl; have hcz52_3 : w51.cell? ⟨gb171, 3, none⟩ = some (.int .i64 a1) := (blk_cell BK171.out 3).trans rfl; have hfz52_0 := blk_frozen BK171.out 0; have hfz52_1 := blk_frozen BK171.out 1; have hfz52_2 := blk_frozen BK171.out 2; have hfz52_3 := blk_frozen BK171.out 3))
         (try simp only [setCell_drewN_])
         have n0_ : Aside0 (((w51.setCell ⟨gb171, 0, none⟩ (.int .i64 2)).setCell ⟨gb171, 2, none⟩ (.int .i64 t176)).heap[gb170]? = some (.cells #[.int .i64 0, .string (⟨#[]⟩ : ByteArray), .int .i64 0, .int .i64 0] 29 (0, 0))) := ⟨by refine tf_ NB170_171.out ?_; refine tf_ NB170_171.out ?_; refine tn_ ?_; exact BK170.out⟩
         have n1_ : Aside0 (((w51.setCell ⟨gb171, 0, none⟩ (.int .i64 2)).setCell ⟨gb171, 2, none⟩ (.int .i64 t176)).heap[gb171]? = some (.cells #[.int .i64 2, .string (⟨#[]⟩ : ByteArray), .int .i64 t176, .int .i64 a1] 29 (0, 0))) := ⟨by refine tp_ #[.int .i64 2, .string (⟨#[]⟩ : ByteArray), .int .i64 0, .int .i64 a1] 2 ?_; refine tp_ #[.int .i64 0, .string (⟨#[]⟩ : ByteArray), .int .i64 0, .int .i64 a1] 0 ?_; refine tn_ ?_; exact BK171.out⟩
         have n2_ : Aside0 (Below w.heap.size w ((w51.setCell ⟨gb171, 0, none⟩ (.int .i64 2)).setCell ⟨gb171, 2, none⟩ (.int .i64 t176))) := ⟨tf6d_⟩
         (try clear BK170)
         (try clear BK171)
         (try clear HB)
         generalize ((w51.setCell ⟨gb171, 0, none⟩ (.int .i64 2)).setCell ⟨gb171, 2, none⟩ (.int .i64 t176)) = w53 at n0_ n1_ n2_ ⊢
         have BK170 := n0_
         have BK171 := n1_
         have HB := n2_
         clear n0_ n1_ n2_
         have n0_ := Aside0.mk (blk_drew BK170.out)
         have n1_ := Aside0.mk (blk_drew BK171.out)
         have n2_ := Aside0.mk (below_drew1 HB.out)
         clear BK170
         clear BK171
         clear HB
         have BK170 := n0_
         have BK171 := n1_
         have HB := n2_
         clear n0_ n1_ n2_
         refine start_ (n := 20) (S := fun w' => w'.cell? ⟨gb171, 0, none⟩ = some (.int .i64 2) ∧ w'.cell? ⟨gb171, 1, none⟩ = some (.string (⟨#[]⟩ : ByteArray)) ∧ w'.cell? ⟨gb171, 2, none⟩ = some (.int .i64 t176) ∧ w'.cell? ⟨gb171, 3, none⟩ = some (.int .i64 a1)) (ds := []) (Array.replicate 20 false) (by kernel_rfl) rfl rfl ⟨(blk_cell BK171.out 0).trans rfl, (blk_cell BK171.out 1).trans rfl, (blk_cell BK171.out 2).trans rfl, (blk_cell BK171.out 3).trans rfl⟩ (fun hHeld => ?_); refine with_tabW impl_tokenAt.tab11 impl_tokenAt.bits11 (fun HT_ HW_ => ?_)
         generalize w53.drew = w54 at BK170 BK171 HB hHeld ⊢
         refine pv_ 1 (some 55) (bm 20 2) ?_
         refine pv_ 2 (some 56) (bm 20 6) ?_
         refine pv_ 3 (some 57) (bm 20 14) ?_
         refine pv_ 4 (some 58) (bm 20 30) ?_
         refine pv_ 5 (some 59) (bm 20 62) ?_
         refine pv_ 6 (some 60) (bm 20 126) ?_
         refine pv_ 7 (some 61) (bm 20 254) ?_
         refine pv_ 8 (some 62) (bm 20 510) ?_
         refine pure_ (i := 9) (N := some 63) (v := undef) (a' := ?_) (bm 20 1022) rfl rfl (any_of HT_.out (by kernel_rfl)) (fun _ _ _ h => h) (Or.inr ⟨by rfl, rfl⟩) ?_ ?_
         rotate_left; (simp only [Act.put, List.setIfInBounds_toArray, List.set_cons_zero, List.set_cons_succ, i64_w, i32_w]; rfl)
         refine pure_ (i := 10) (N := some 64) (v := undef) (a' := ?_) (bm 20 2046) rfl rfl (any_of HT_.out (by kernel_rfl)) (fun _ _ _ h => h) (Or.inr ⟨by rfl, rfl⟩) ?_ ?_
         rotate_left; (simp only [Act.put, List.setIfInBounds_toArray, List.set_cons_zero, List.set_cons_succ, i64_w, i32_w]; rfl)
         refine pure_ (i := 11) (N := some 65) (v := undef) (a' := ?_) (bm 20 4094) rfl rfl (any_of HT_.out (by kernel_rfl)) (fun _ _ _ h => h) (Or.inr ⟨by rfl, rfl⟩) ?_ ?_
         rotate_left; (simp only [Act.put, List.setIfInBounds_toArray, List.set_cons_zero, List.set_cons_succ, i64_w, i32_w]; rfl)
         refine pure_ (i := 12) (N := some 66) (v := undef) (a' := ?_) (bm 20 8190) rfl rfl (any_of HT_.out (by kernel_rfl)) (fun _ _ _ h => h) (Or.inr ⟨by rfl, rfl⟩) ?_ ?_
         rotate_left; (simp only [Act.put, List.setIfInBounds_toArray, List.set_cons_zero, List.set_cons_succ, i64_w, i32_w]; rfl)
         refine pure_ (i := 13) (N := some 67) (v := undef) (a' := ?_) (bm 20 16382) rfl rfl (any_of HT_.out (by kernel_rfl)) (fun _ _ _ h => h) (Or.inr ⟨by rfl, rfl⟩) ?_ ?_
         rotate_left; (simp only [Act.put, List.setIfInBounds_toArray, List.set_cons_zero, List.set_cons_succ, i64_w, i32_w]; rfl)
         refine pure_ (i := 14) (N := some 68) (v := undef) (a' := ?_) (bm 20 32766) rfl rfl (any_of HT_.out (by kernel_rfl)) (fun _ _ _ h => h) (Or.inr ⟨by rfl, rfl⟩) ?_ ?_
         rotate_left; (simp only [Act.put, List.setIfInBounds_toArray, List.set_cons_zero, List.set_cons_succ, i64_w, i32_w]; rfl)
         refine pure_ (i := 15) (N := some 69) (v := undef) (a' := ?_) (bm 20 65534) rfl rfl (any_of HT_.out (by kernel_rfl)) (fun _ _ _ h => h) (Or.inr ⟨by rfl, rfl⟩) ?_ ?_
         rotate_left; (simp only [Act.put, List.setIfInBounds_toArray, List.set_cons_zero, List.set_cons_succ, i64_w, i32_w]; rfl)
         refine pv_ 16 (some 70) (bm 20 131070) ?_
         refine tv_ 0 (some 54) (bm 20 131071) hHeld ?_
         refine one_ (i := 17) (N := none) (bm 20 262143) rfl rfl (one_of HT_.out (by kernel_rfl)) (by decide) (fun K hK => ?_)
         have hs55 : w54.cell? ⟨gb170, 0, none⟩ = some (.int .i64 0) := (blk_cell BK170.out 0).trans rfl
         have hfs55 := blk_frozen BK170.out 0
         have hns55_1 := NB171_170.out
         have hms55_1 := NB170_171.out
         have hs56 : w54.cell? ⟨gb170, 1, none⟩ = some (.string (⟨#[]⟩ : ByteArray)) := (blk_cell BK170.out 1).trans rfl
         have hfs56 := blk_frozen BK170.out 1
         have hns56_1 := NB171_170.out
         have hms56_1 := NB170_171.out
         have hs57 : w54.cell? ⟨gb170, 2, none⟩ = some (.int .i64 0) := (blk_cell BK170.out 2).trans rfl
         have hfs57 := blk_frozen BK170.out 2
         have hns57_1 := NB171_170.out
         have hms57_1 := NB170_171.out
         have hs58 : w54.cell? ⟨gb170, 3, none⟩ = some (.int .i64 0) := (blk_cell BK170.out 3).trans rfl
         have hfs58 := blk_frozen BK170.out 3
         have hns58_1 := NB171_170.out
         have hms58_1 := NB170_171.out
         refine skip_ (w1 := ?_) (by rfl) rfl ?_ ?_
         rotate_left; (go_simp; rfl)
         refine hK.out _ _ ⟨((cell_far (p := ⟨gb170, _, none⟩) NB171_170.out _).trans (((cell_far (p := ⟨gb170, _, none⟩) NB171_170.out _).trans (((cell_far (p := ⟨gb170, _, none⟩) NB171_170.out _).trans (((cell_far (p := ⟨gb170, _, none⟩) NB171_170.out _).trans (hHeld.1)))))))), ((cell_far (p := ⟨gb170, _, none⟩) NB171_170.out _).trans (((cell_far (p := ⟨gb170, _, none⟩) NB171_170.out _).trans (((cell_far (p := ⟨gb170, _, none⟩) NB171_170.out _).trans (((cell_far (p := ⟨gb170, _, none⟩) NB171_170.out _).trans (hHeld.2.1)))))))), ((cell_far (p := ⟨gb170, _, none⟩) NB171_170.out _).trans (((cell_far (p := ⟨gb170, _, none⟩) NB171_170.out _).trans (((cell_far (p := ⟨gb170, _, none⟩) NB171_170.out _).trans (((cell_far (p := ⟨gb170, _, none⟩) NB171_170.out _).trans (hHeld.2.2.1)))))))), ((cell_far (p := ⟨gb170, _, none⟩) NB171_170.out _).trans (((cell_far (p := ⟨gb170, _, none⟩) NB171_170.out _).trans (((cell_far (p := ⟨gb170, _, none⟩) NB171_170.out _).trans (((cell_far (p := ⟨gb170, _, none⟩) NB171_170.out _).trans (hHeld.2.2.2))))))))⟩ (fun hHeld => ?_)
         clear hK K
         refine pv_ 18 (some 5) (bm 20 524287) ?_
         refine pv_ 19 (some 6) (bm 20 1048575) ?_
         refine done_ (done_of HT_.out (by kernel_rfl)) ?_
         try go_wp2
         refine bodyPost_ret (results_ctt rfl _ _ gb170 29 #[.int .i64 2, .string (⟨#[]⟩ : ByteArray), .int .i64 t176, .int .i64 a1] (0, 0) _ rfl (by refine tp_ #[.int .i64 2, .string (⟨#[]⟩ : ByteArray), .int .i64 t176, .int .i64 0] 3 ?_; refine tp_ #[.int .i64 2, .string (⟨#[]⟩ : ByteArray), .int .i64 0, .int .i64 0] 2 ?_; refine tp_ #[.int .i64 2, .string (⟨#[]⟩ : ByteArray), .int .i64 0, .int .i64 0] 1 ?_; refine tp_ #[.int .i64 0, .string (⟨#[]⟩ : ByteArray), .int .i64 0, .int .i64 0] 0 ?_; refine tn_ ?_; exact BK170.out) Tryd.underlying29 rfl (by kernel_rfl)) rfl ?_
         exact ⟨by first | rfl | (simp [errW_none, errW_some] <;> rfl) | (simp [*, errW_none, errW_some] <;> rfl), tf6d_⟩
       ·
        rw [if_neg (show ¬ (some q178).isNone = true by simp)] at H
        have H1 := H
        clear H
        have H := H1
        clear H1
        try simp only [errW_none, errW_some]
        simp only [Option.some.injEq, Prod.mk.injEq] at H
        obtain ⟨rfl, rfl, rfl, rfl, rfl, rfl⟩ := H
        go_enter Tryd.func16, Tryd.ntmps16
        try go_wp2_with (first | ((with_reducible refine gate_dst (N := 4) rfl ?_); (try (refine gate_guard (by rfl) ?_; dsimp only)); refine be_ 4 #[.int .i64 0, .string (⟨#[]⟩ : ByteArray), .int .i64 0, .int .i64 0] 29 ?_; intro gb170 hg w59 hbox hb; have n0_ := Aside0.mk (below_step (t0c4_) hb); have n1_ := Aside0.mk (hbox); have n2_ := Aside0.mk ((by rw [hg]; exact (below_size (t0c4_)) : w.heap.size ≤ gb170)); have n3_ := Aside0.mk ((by rw [hg]; exact (below_size (t0c4_)) : w.heap.size ≤ gb170)); clear HB; have HB := n0_; have BK170 := n1_; have GW170 := n2_; have GE170 := n3_; clear n0_ n1_ n2_ n3_; clear hb hbox hg) | ((with_reducible refine gate_dst (N := 7) rfl ?_); (try (refine gate_guard (by rfl) ?_; dsimp only)); refine be_ 7 #[.int .i64 0, .string (⟨#[]⟩ : ByteArray), .int .i64 0, .int .i64 0] 29 ?_; intro gb171 hg w60 hbox hb; have n0_ := Aside0.mk (blk_below (g := gb170) (o := .cells #[.int .i64 0, .string (⟨#[]⟩ : ByteArray), .int .i64 0, .int .i64 0] 29 (0, 0)) (tn_ BK170.out) hb); have n1_ := Aside0.mk (below_step (tf6d_) hb); have n2_ := Aside0.mk (hbox); have n3_ := Aside0.mk ((by rw [hg]; exact (below_size (tf6d_)) : w.heap.size ≤ gb171)); have n4_ := Aside0.mk ((by rw [hg]; exact (below_size (tf6d_)) : w.heap.size ≤ gb171)); have n5_ := Aside0.mk ((by rw [hg]; exact Nat.ne_of_lt (blk_lt (g := gb170) (o := .cells #[.int .i64 0, .string (⟨#[]⟩ : ByteArray), .int .i64 0, .int .i64 0] 29 (0, 0)) (tn_ BK170.out)) : gb170 ≠ gb171)); have n6_ := Aside0.mk ((by rw [hg]; exact Nat.ne_of_gt (blk_lt (g := gb170) (o := .cells #[.int .i64 0, .string (⟨#[]⟩ : ByteArray), .int .i64 0, .int .i64 0] 29 (0, 0)) (tn_ BK170.out)) : gb171 ≠ gb170)); clear BK170; clear HB; have BK170 := n0_; have HB := n1_; have BK171 := n2_; have GW171 := n3_; have GE171 := n4_; have NB170_171 := n5_; have NB171_170 := n6_; clear n0_ n1_ n2_ n3_ n4_ n5_ n6_; clear hb hbox hg; have hnb61 := NB171_170.out; have hnc61 := NB170_171.out; have hcz62_0 : w60.cell? ⟨gb171, 0, none⟩ = some (.int .i64 0) := (blk_cell BK171.out 0).trans rfl; have hcz62_1 : w60.cell? ⟨gb171, 1, none⟩ = some (.string (⟨#[]⟩ : ByteArray)) := (blk_cell BK171.out 1).trans rfl; have hcz62_2 : w60.cell? ⟨gb171, 2, none⟩ = some (.int .i64 0) := (blk_cell BK171.out 2).trans rfl; have hcz62_3 : w60.cell? ⟨gb171, 3, none⟩ = some (.int .i64 0) := (blk_cell BK171.out 3).trans rfl; have hfz62_0 := blk_frozen BK171.out 0; have hfz62_1 := blk_frozen BK171.out 1; have hfz62_2 := blk_frozen BK171.out 2; have hfz62_3 := blk_frozen BK171.out 3; have p5 : 0 ≤ (a1 : Int) := of_decide_eq_true (by first | (with_reducible assumption) | assumption); have q5 : a1 < (a0.size : Int) := of_decide_eq_true (by first | (with_reducible assumption) | assumption); have hx5 := bt_at a0 a1; replace p5 := eq_true p5; replace q5 := eq_true q5) | ((with_reducible refine gate_callee (f := 23) rfl ?_); refine gl_ (some 21) Tryd.func23 #[.int .u8 (bt a0 a1)] ?_; (with_reducible refine (impl_letter.calls (bt a0 a1) false _ A6.out).mono ?_); rintro e w' ⟨rfl, ⟨nd, rfl⟩⟩; refine ⟨_, rfl, ?_⟩) | ((with_reducible refine gate_callee (f := 26) rfl ?_); refine gl_ (some 39) Tryd.func26 #[.int .u8 (bt a0 a1)] ?_; (with_reducible refine (impl_digit.calls (bt a0 a1) true _ A22.out).mono ?_); rintro e w' ⟨rfl, ⟨nd, rfl⟩⟩; refine ⟨_, rfl, ?_⟩) | ((with_reducible refine gate_callee (f := 24) rfl ?_); refine gl_ (some 42) Tryd.func24 #[.string a0, .int .i64 a1, .func (.func 26) #[] #[]] ?_; (with_reducible refine (impl_run_f26.calls k a0 a1 () t175 _ A24.out).mono ?_); rintro e w' ⟨rfl, ⟨nd, rfl⟩⟩; refine ⟨_, rfl, ?_⟩) | ((with_reducible refine gate_callee (f := 27) rfl ?_); refine gl_ (some 48) Tryd.func27 #[.string (a0.extract (a1 : Int).toNat (t175 : Int).toNat)] ?_; (with_reducible refine (strconv_Atoi.calls (a0.extract (a1 : Int).toNat (t175 : Int).toNat) t176 (some q178) _ ?sideT A28.out).mono ?_); (case sideT => exact tabBelow HT.out (tf6d_)); rintro e w63 ⟨NA_, rfl, hb⟩; simp only [Option.map_none, Option.map_some, errW_none, errW_some]; refine ⟨_, rfl, ?_⟩; have n0_ := Aside0.mk (blk_below (g := gb170) (o := .cells #[.int .i64 0, .string (⟨#[]⟩ : ByteArray), .int .i64 0, .int .i64 0] 29 (0, 0)) (by refine tf_ NB170_171.out ?_; refine tf_ NB170_171.out ?_; refine tf_ NB170_171.out ?_; refine tf_ NB170_171.out ?_; refine tn_ ?_; exact BK170.out) hb); have n1_ := Aside0.mk (blk_below (g := gb171) (o := .cells #[.int .i64 0, .string (⟨#[]⟩ : ByteArray), .int .i64 0, .int .i64 a1] 29 (0, 0)) (by refine tp_ #[.int .i64 0, .string (⟨#[]⟩ : ByteArray), .int .i64 0, .int .i64 0] 3 ?_; refine tp_ #[.int .i64 0, .string (⟨#[]⟩ : ByteArray), .int .i64 0, .int .i64 0] 2 ?_; refine tp_ #[.int .i64 0, .string (⟨#[]⟩ : ByteArray), .int .i64 0, .int .i64 0] 1 ?_; refine tp_ #[.int .i64 0, .string (⟨#[]⟩ : ByteArray), .int .i64 0, .int .i64 0] 0 ?_; refine tn_ ?_; exact BK171.out) hb); have n2_ := Aside0.mk (below_step (tf6d_) hb); clear BK170; clear BK171; clear HB; have BK170 := n0_; have BK171 := n1_; have HB := n2_; clear n0_ n1_ n2_; (try clear hb); (try clear hb2); (try clear hk); (try clear hi); (try simp only [errW_none, errW_some]); have hcz64_0 : w63.cell? ⟨gb171, 0, none⟩ = some (.int .i64 0) := (blk_cell BK171.out 0).trans rfl; have hcz64_1 : w63.cell? ⟨gb171, 1, none⟩ = some (.string (⟨#[]⟩ : ByteArray)) := (blk_cell BK171.out 1).trans rfl; have hcz64_2 : w63.cell? ⟨gb171, 2, none⟩ = some (.int .i64 0) := (blk_cell BK171.out 2).trans rfl; have hcz64_3 : w63.cell? ⟨gb171, 3, none⟩ = some (.int .i64 a1) := (blk_cell BK171.out 3).trans rfl; have hfz64_0 := blk_frozen BK171.out 0; have hfz64_1 := blk_frozen BK171.out 1; have hfz64_2 := blk_frozen BK171.out 2; have hfz64_3 := blk_frozen BK171.out 3))
        (try simp only [setCell_drewN_])
        have n0_ : Aside0 (((w63.setCell ⟨gb171, 0, none⟩ (.int .i64 2)).setCell ⟨gb171, 2, none⟩ (.int .i64 t176)).heap[gb170]? = some (.cells #[.int .i64 0, .string (⟨#[]⟩ : ByteArray), .int .i64 0, .int .i64 0] 29 (0, 0))) := ⟨by refine tf_ NB170_171.out ?_; refine tf_ NB170_171.out ?_; refine tn_ ?_; exact BK170.out⟩
        have n1_ : Aside0 (((w63.setCell ⟨gb171, 0, none⟩ (.int .i64 2)).setCell ⟨gb171, 2, none⟩ (.int .i64 t176)).heap[gb171]? = some (.cells #[.int .i64 2, .string (⟨#[]⟩ : ByteArray), .int .i64 t176, .int .i64 a1] 29 (0, 0))) := ⟨by refine tp_ #[.int .i64 2, .string (⟨#[]⟩ : ByteArray), .int .i64 0, .int .i64 a1] 2 ?_; refine tp_ #[.int .i64 0, .string (⟨#[]⟩ : ByteArray), .int .i64 0, .int .i64 a1] 0 ?_; refine tn_ ?_; exact BK171.out⟩
        have n2_ : Aside0 (Below w.heap.size w ((w63.setCell ⟨gb171, 0, none⟩ (.int .i64 2)).setCell ⟨gb171, 2, none⟩ (.int .i64 t176))) := ⟨tf6d_⟩
        (try clear BK170)
        (try clear BK171)
        (try clear HB)
        generalize ((w63.setCell ⟨gb171, 0, none⟩ (.int .i64 2)).setCell ⟨gb171, 2, none⟩ (.int .i64 t176)) = w65 at n0_ n1_ n2_ ⊢
        have BK170 := n0_
        have BK171 := n1_
        have HB := n2_
        clear n0_ n1_ n2_
        have n0_ := Aside0.mk (blk_drew BK170.out)
        have n1_ := Aside0.mk (blk_drew BK171.out)
        have n2_ := Aside0.mk (below_drew1 HB.out)
        clear BK170
        clear BK171
        clear HB
        have BK170 := n0_
        have BK171 := n1_
        have HB := n2_
        clear n0_ n1_ n2_
        refine start_ (n := 20) (S := fun w' => w'.cell? ⟨gb171, 0, none⟩ = some (.int .i64 2) ∧ w'.cell? ⟨gb171, 1, none⟩ = some (.string (⟨#[]⟩ : ByteArray)) ∧ w'.cell? ⟨gb171, 2, none⟩ = some (.int .i64 t176) ∧ w'.cell? ⟨gb171, 3, none⟩ = some (.int .i64 a1)) (ds := []) (Array.replicate 20 false) (by kernel_rfl) rfl rfl ⟨(blk_cell BK171.out 0).trans rfl, (blk_cell BK171.out 1).trans rfl, (blk_cell BK171.out 2).trans rfl, (blk_cell BK171.out 3).trans rfl⟩ (fun hHeld => ?_); refine with_tabW impl_tokenAt.tab11 impl_tokenAt.bits11 (fun HT_ HW_ => ?_)
        generalize w65.drew = w66 at BK170 BK171 HB hHeld ⊢
        refine pv_ 1 (some 55) (bm 20 2) ?_
        refine pv_ 2 (some 56) (bm 20 6) ?_
        refine pv_ 3 (some 57) (bm 20 14) ?_
        refine pv_ 4 (some 58) (bm 20 30) ?_
        refine pure_ (i := 5) (N := some 59) (v := undef) (a' := ?_) (bm 20 62) rfl rfl (any_of HT_.out (by kernel_rfl)) (fun _ _ _ h => h) (Or.inr ⟨by rfl, rfl⟩) ?_ ?_
        rotate_left; (simp only [Act.put, List.setIfInBounds_toArray, List.set_cons_zero, List.set_cons_succ, i64_w, i32_w]; rfl)
        refine pure_ (i := 6) (N := some 60) (v := undef) (a' := ?_) (bm 20 126) rfl rfl (any_of HT_.out (by kernel_rfl)) (fun _ _ _ h => h) (Or.inr ⟨by rfl, rfl⟩) ?_ ?_
        rotate_left; (simp only [Act.put, List.setIfInBounds_toArray, List.set_cons_zero, List.set_cons_succ, i64_w, i32_w]; rfl)
        refine pv_ 7 (some 61) (bm 20 254) ?_
        refine pv_ 8 (some 62) (bm 20 510) ?_
        refine pure_ (i := 9) (N := some 63) (v := undef) (a' := ?_) (bm 20 1022) rfl rfl (any_of HT_.out (by kernel_rfl)) (fun _ _ _ h => h) (Or.inr ⟨by rfl, rfl⟩) ?_ ?_
        rotate_left; (simp only [Act.put, List.setIfInBounds_toArray, List.set_cons_zero, List.set_cons_succ, i64_w, i32_w]; rfl)
        refine pure_ (i := 10) (N := some 64) (v := undef) (a' := ?_) (bm 20 2046) rfl rfl (any_of HT_.out (by kernel_rfl)) (fun _ _ _ h => h) (Or.inr ⟨by rfl, rfl⟩) ?_ ?_
        rotate_left; (simp only [Act.put, List.setIfInBounds_toArray, List.set_cons_zero, List.set_cons_succ, i64_w, i32_w]; rfl)
        refine pure_ (i := 11) (N := some 65) (v := undef) (a' := ?_) (bm 20 4094) rfl rfl (any_of HT_.out (by kernel_rfl)) (fun _ _ _ h => h) (Or.inr ⟨by rfl, rfl⟩) ?_ ?_
        rotate_left; (simp only [Act.put, List.setIfInBounds_toArray, List.set_cons_zero, List.set_cons_succ, i64_w, i32_w]; rfl)
        refine pure_ (i := 12) (N := some 66) (v := undef) (a' := ?_) (bm 20 8190) rfl rfl (any_of HT_.out (by kernel_rfl)) (fun _ _ _ h => h) (Or.inr ⟨by rfl, rfl⟩) ?_ ?_
        rotate_left; (simp only [Act.put, List.setIfInBounds_toArray, List.set_cons_zero, List.set_cons_succ, i64_w, i32_w]; rfl)
        refine pure_ (i := 13) (N := some 67) (v := undef) (a' := ?_) (bm 20 16382) rfl rfl (any_of HT_.out (by kernel_rfl)) (fun _ _ _ h => h) (Or.inr ⟨by rfl, rfl⟩) ?_ ?_
        rotate_left; (simp only [Act.put, List.setIfInBounds_toArray, List.set_cons_zero, List.set_cons_succ, i64_w, i32_w]; rfl)
        refine pure_ (i := 14) (N := some 68) (v := undef) (a' := ?_) (bm 20 32766) rfl rfl (any_of HT_.out (by kernel_rfl)) (fun _ _ _ h => h) (Or.inr ⟨by rfl, rfl⟩) ?_ ?_
        rotate_left; (simp only [Act.put, List.setIfInBounds_toArray, List.set_cons_zero, List.set_cons_succ, i64_w, i32_w]; rfl)
        refine pure_ (i := 15) (N := some 69) (v := undef) (a' := ?_) (bm 20 65534) rfl rfl (any_of HT_.out (by kernel_rfl)) (fun _ _ _ h => h) (Or.inr ⟨by rfl, rfl⟩) ?_ ?_
        rotate_left; (simp only [Act.put, List.setIfInBounds_toArray, List.set_cons_zero, List.set_cons_succ, i64_w, i32_w]; rfl)
        refine pv_ 16 (some 70) (bm 20 131070) ?_
        refine tv_ 0 (some 54) (bm 20 131071) hHeld ?_
        refine one_ (i := 17) (N := none) (bm 20 262143) rfl rfl (one_of HT_.out (by kernel_rfl)) (by decide) (fun K hK => ?_)
        have hs67 : w66.cell? ⟨gb170, 0, none⟩ = some (.int .i64 0) := (blk_cell BK170.out 0).trans rfl
        have hfs67 := blk_frozen BK170.out 0
        have hns67_1 := NB171_170.out
        have hms67_1 := NB170_171.out
        have hs68 : w66.cell? ⟨gb170, 1, none⟩ = some (.string (⟨#[]⟩ : ByteArray)) := (blk_cell BK170.out 1).trans rfl
        have hfs68 := blk_frozen BK170.out 1
        have hns68_1 := NB171_170.out
        have hms68_1 := NB170_171.out
        have hs69 : w66.cell? ⟨gb170, 2, none⟩ = some (.int .i64 0) := (blk_cell BK170.out 2).trans rfl
        have hfs69 := blk_frozen BK170.out 2
        have hns69_1 := NB171_170.out
        have hms69_1 := NB170_171.out
        have hs70 : w66.cell? ⟨gb170, 3, none⟩ = some (.int .i64 0) := (blk_cell BK170.out 3).trans rfl
        have hfs70 := blk_frozen BK170.out 3
        have hns70_1 := NB171_170.out
        have hms70_1 := NB170_171.out
        refine skip_ (w1 := ?_) (by rfl) rfl ?_ ?_
        rotate_left; (go_simp; rfl)
        refine hK.out _ _ ⟨((cell_far (p := ⟨gb170, _, none⟩) NB171_170.out _).trans (((cell_far (p := ⟨gb170, _, none⟩) NB171_170.out _).trans (((cell_far (p := ⟨gb170, _, none⟩) NB171_170.out _).trans (((cell_far (p := ⟨gb170, _, none⟩) NB171_170.out _).trans (hHeld.1)))))))), ((cell_far (p := ⟨gb170, _, none⟩) NB171_170.out _).trans (((cell_far (p := ⟨gb170, _, none⟩) NB171_170.out _).trans (((cell_far (p := ⟨gb170, _, none⟩) NB171_170.out _).trans (((cell_far (p := ⟨gb170, _, none⟩) NB171_170.out _).trans (hHeld.2.1)))))))), ((cell_far (p := ⟨gb170, _, none⟩) NB171_170.out _).trans (((cell_far (p := ⟨gb170, _, none⟩) NB171_170.out _).trans (((cell_far (p := ⟨gb170, _, none⟩) NB171_170.out _).trans (((cell_far (p := ⟨gb170, _, none⟩) NB171_170.out _).trans (hHeld.2.2.1)))))))), ((cell_far (p := ⟨gb170, _, none⟩) NB171_170.out _).trans (((cell_far (p := ⟨gb170, _, none⟩) NB171_170.out _).trans (((cell_far (p := ⟨gb170, _, none⟩) NB171_170.out _).trans (((cell_far (p := ⟨gb170, _, none⟩) NB171_170.out _).trans (hHeld.2.2.2))))))))⟩ (fun hHeld => ?_)
        clear hK K
        refine pv_ 18 (some 5) (bm 20 524287) ?_
        refine pv_ 19 (some 6) (bm 20 1048575) ?_
        refine done_ (done_of HT_.out (by kernel_rfl)) ?_
        try go_wp2
        refine bodyPost_ret (results_ctt rfl _ _ gb170 29 #[.int .i64 2, .string (⟨#[]⟩ : ByteArray), .int .i64 t176, .int .i64 a1] (0, 0) _ rfl (by refine tp_ #[.int .i64 2, .string (⟨#[]⟩ : ByteArray), .int .i64 t176, .int .i64 0] 3 ?_; refine tp_ #[.int .i64 2, .string (⟨#[]⟩ : ByteArray), .int .i64 0, .int .i64 0] 2 ?_; refine tp_ #[.int .i64 2, .string (⟨#[]⟩ : ByteArray), .int .i64 0, .int .i64 0] 1 ?_; refine tp_ #[.int .i64 0, .string (⟨#[]⟩ : ByteArray), .int .i64 0, .int .i64 0] 0 ?_; refine tn_ ?_; exact BK170.out) Tryd.underlying29 rfl (by kernel_rfl)) rfl ?_
        exact ⟨by first | rfl | (simp [errW_none, errW_some] <;> rfl) | (simp [*, errW_none, errW_some] <;> rfl), tf6d_⟩
      ·
       rw [if_neg c27] at H
       exact absurd H (by simp)
     ·
      rw [if_neg c26] at H
      exact absurd H (by simp)
    ·
     replace c23 := Bool.eq_false_iff.mpr c23
     subst c23
     rw [if_neg (show ¬ (false = true) by decide)] at H
     have H1 := H
     clear H
     have H := H1
     clear H1
     by_cases c71 : (bt a0 a1) = 34
     ·
      rw [if_pos c71] at H
      have c71b0 : ((bt a0 a1) == 34) = true := beq_iff_eq.mpr c71
      have c71b1 : ((bt a0 a1) != 34) = false := bne_eq_false_iff_eq.mpr c71
      clear c71
      replace H := Option.bind_eq_some_iff.mp H
      obtain ⟨t180, A720, H⟩ := H
      have A72 := Aside0.mk A720
      clear A720
      obtain ⟨ji73, hji73⟩ : ∃ j_ : Int, (wrap64 (a1 + 1)) = j_ := ⟨_, rfl⟩
      replace H : (if 0 ≤ (ji73) then (if (ji73) ≤ t180 then (if t180 ≤ (a0.size : Int) then (if t180 < (a0.size : Int) then (if 0 ≤ t180 then (if (bt a0 t180) = 34 then (some (3, a0.extract ((ji73) : Int).toNat (t180 : Int).toNat, 0, a1, wrap64 (t180 + 1), decide (((a0.extract ((ji73) : Int).toNat (t180 : Int).toNat).size : Int) ≤ 30))) else (some (3, a0.extract ((ji73) : Int).toNat (t180 : Int).toNat, 0, a1, wrap64 (t180 + 1), false))) else (none)) else (some (3, a0.extract ((ji73) : Int).toNat (t180 : Int).toNat, 0, a1, wrap64 (t180 + 1), false))) else (none)) else (none)) else (none)) = some (r1, r2, r3, r4, r5, r6) := by first | (rw [hji73] at H; exact H) | (simp only [hji73] at H ⊢; exact H)
      (try rw [hji73] at A6)
      (try rw [hji73] at A22)
      (try rw [hji73] at A72)
      have hji73w : (IntKind.i64.wrap (a1 + 1)) = ji73 := (i64_w _).trans hji73
      by_cases c74 : 0 ≤ (ji73)
      ·
       rw [if_pos c74] at H
       have c74b0 := eq_true c74
       have c74b1 : decide (0 ≤ (ji73)) = true := decide_eq_true c74
       clear c74
       by_cases c75 : (ji73) ≤ t180
       ·
        rw [if_pos c75] at H
        have c75b0 := eq_true c75
        have c75b1 : decide ((ji73) ≤ t180) = true := decide_eq_true c75
        clear c75
        by_cases c76 : t180 ≤ (a0.size : Int)
        ·
         rw [if_pos c76] at H
         have c76b0 := eq_true c76
         have c76b1 : decide (t180 ≤ (a0.size : Int)) = true := decide_eq_true c76
         clear c76
         by_cases c77 : t180 < (a0.size : Int)
         ·
          rw [if_pos c77] at H
          have c77b0 : decide (t180 < (a0.size : Int)) = true := decide_eq_true c77
          clear c77
          by_cases c78 : 0 ≤ t180
          ·
           rw [if_pos c78] at H
           have c78b0 : decide (0 ≤ t180) = true := decide_eq_true c78
           clear c78
           by_cases c80 : (bt a0 t180) = 34
           ·
            rw [if_pos c80] at H
            have c80b0 : ((bt a0 t180) == 34) = true := beq_iff_eq.mpr c80
            have c80b1 : ((bt a0 t180) != 34) = false := bne_eq_false_iff_eq.mpr c80
            clear c80
            simp only [Option.some.injEq, Prod.mk.injEq] at H
            obtain ⟨rfl, rfl, rfl, rfl, rfl, rfl⟩ := H
            go_enter Tryd.func16, Tryd.ntmps16
            try go_wp2_with (first | ((with_reducible refine gate_dst (N := 4) rfl ?_); (try (refine gate_guard (by rfl) ?_; dsimp only)); refine be_ 4 #[.int .i64 0, .string (⟨#[]⟩ : ByteArray), .int .i64 0, .int .i64 0] 29 ?_; intro gb170 hg w81 hbox hb; have n0_ := Aside0.mk (below_step (t0c4_) hb); have n1_ := Aside0.mk (hbox); have n2_ := Aside0.mk ((by rw [hg]; exact (below_size (t0c4_)) : w.heap.size ≤ gb170)); have n3_ := Aside0.mk ((by rw [hg]; exact (below_size (t0c4_)) : w.heap.size ≤ gb170)); clear HB; have HB := n0_; have BK170 := n1_; have GW170 := n2_; have GE170 := n3_; clear n0_ n1_ n2_ n3_; clear hb hbox hg) | ((with_reducible refine gate_dst (N := 7) rfl ?_); (try (refine gate_guard (by rfl) ?_; dsimp only)); refine be_ 7 #[.int .i64 0, .string (⟨#[]⟩ : ByteArray), .int .i64 0, .int .i64 0] 29 ?_; intro gb171 hg w82 hbox hb; have n0_ := Aside0.mk (blk_below (g := gb170) (o := .cells #[.int .i64 0, .string (⟨#[]⟩ : ByteArray), .int .i64 0, .int .i64 0] 29 (0, 0)) (tn_ BK170.out) hb); have n1_ := Aside0.mk (below_step (tf6d_) hb); have n2_ := Aside0.mk (hbox); have n3_ := Aside0.mk ((by rw [hg]; exact (below_size (tf6d_)) : w.heap.size ≤ gb171)); have n4_ := Aside0.mk ((by rw [hg]; exact (below_size (tf6d_)) : w.heap.size ≤ gb171)); have n5_ := Aside0.mk ((by rw [hg]; exact Nat.ne_of_lt (blk_lt (g := gb170) (o := .cells #[.int .i64 0, .string (⟨#[]⟩ : ByteArray), .int .i64 0, .int .i64 0] 29 (0, 0)) (tn_ BK170.out)) : gb170 ≠ gb171)); have n6_ := Aside0.mk ((by rw [hg]; exact Nat.ne_of_gt (blk_lt (g := gb170) (o := .cells #[.int .i64 0, .string (⟨#[]⟩ : ByteArray), .int .i64 0, .int .i64 0] 29 (0, 0)) (tn_ BK170.out)) : gb171 ≠ gb170)); clear BK170; clear HB; have BK170 := n0_; have HB := n1_; have BK171 := n2_; have GW171 := n3_; have GE171 := n4_; have NB170_171 := n5_; have NB171_170 := n6_; clear n0_ n1_ n2_ n3_ n4_ n5_ n6_; clear hb hbox hg; have hnb83 := NB171_170.out; have hnc83 := NB170_171.out; have hcz84_0 : w82.cell? ⟨gb171, 0, none⟩ = some (.int .i64 0) := (blk_cell BK171.out 0).trans rfl; have hcz84_1 : w82.cell? ⟨gb171, 1, none⟩ = some (.string (⟨#[]⟩ : ByteArray)) := (blk_cell BK171.out 1).trans rfl; have hcz84_2 : w82.cell? ⟨gb171, 2, none⟩ = some (.int .i64 0) := (blk_cell BK171.out 2).trans rfl; have hcz84_3 : w82.cell? ⟨gb171, 3, none⟩ = some (.int .i64 0) := (blk_cell BK171.out 3).trans rfl; have hfz84_0 := blk_frozen BK171.out 0; have hfz84_1 := blk_frozen BK171.out 1; have hfz84_2 := blk_frozen BK171.out 2; have hfz84_3 := blk_frozen BK171.out 3; have p5 : 0 ≤ (a1 : Int) := of_decide_eq_true (by first | (with_reducible assumption) | assumption); have q5 : a1 < (a0.size : Int) := of_decide_eq_true (by first | (with_reducible assumption) | assumption); have hx5 := bt_at a0 a1; replace p5 := eq_true p5; replace q5 := eq_true q5) | ((with_reducible refine gate_callee (f := 23) rfl ?_); refine gl_ (some 21) Tryd.func23 #[.int .u8 (bt a0 a1)] ?_; (with_reducible refine (impl_letter.calls (bt a0 a1) false _ A6.out).mono ?_); rintro e w' ⟨rfl, ⟨nd, rfl⟩⟩; refine ⟨_, rfl, ?_⟩) | ((with_reducible refine gate_callee (f := 26) rfl ?_); refine gl_ (some 39) Tryd.func26 #[.int .u8 (bt a0 a1)] ?_; (with_reducible refine (impl_digit.calls (bt a0 a1) false _ A22.out).mono ?_); rintro e w' ⟨rfl, ⟨nd, rfl⟩⟩; refine ⟨_, rfl, ?_⟩) | ((with_reducible refine gate_callee (f := 24) rfl ?_); refine goesL_ (some 77) rfl rfl Tryd.func24 (by kernel_rfl) rfl #[.string a0, .int .i64 ji73, .func (.func 29) #[] #[]] rfl (by (try simp only [List.map_toArray, List.map_cons, List.map_nil]); first | done | (simp only [hji73]; rfl) | rfl | (simp only [List.length_drop, List.length_take]; rfl)) ?_; (with_reducible refine (impl_run_f29.calls k a0 ji73 () t180 _ A72.out).mono ?_); rintro e w' ⟨rfl, ⟨nd, rfl⟩⟩; refine ⟨_, rfl, ?_⟩))
            (try simp only [setCell_drewN_])
            have n0_ : Aside0 (((((w82.setCell ⟨gb171, 0, none⟩ (.int .i64 0)).setCell ⟨gb171, 1, none⟩ (.string (⟨#[]⟩ : ByteArray))).setCell ⟨gb171, 2, none⟩ (.int .i64 0)).setCell ⟨gb171, 3, none⟩ (.int .i64 a1)).heap[gb170]? = some (.cells #[.int .i64 0, .string (⟨#[]⟩ : ByteArray), .int .i64 0, .int .i64 0] 29 (0, 0))) := ⟨by refine tf_ NB170_171.out ?_; refine tf_ NB170_171.out ?_; refine tf_ NB170_171.out ?_; refine tf_ NB170_171.out ?_; refine tn_ ?_; exact BK170.out⟩
            have n1_ : Aside0 (((((w82.setCell ⟨gb171, 0, none⟩ (.int .i64 0)).setCell ⟨gb171, 1, none⟩ (.string (⟨#[]⟩ : ByteArray))).setCell ⟨gb171, 2, none⟩ (.int .i64 0)).setCell ⟨gb171, 3, none⟩ (.int .i64 a1)).heap[gb171]? = some (.cells #[.int .i64 0, .string (⟨#[]⟩ : ByteArray), .int .i64 0, .int .i64 a1] 29 (0, 0))) := ⟨by refine tp_ #[.int .i64 0, .string (⟨#[]⟩ : ByteArray), .int .i64 0, .int .i64 0] 3 ?_; refine tp_ #[.int .i64 0, .string (⟨#[]⟩ : ByteArray), .int .i64 0, .int .i64 0] 2 ?_; refine tp_ #[.int .i64 0, .string (⟨#[]⟩ : ByteArray), .int .i64 0, .int .i64 0] 1 ?_; refine tp_ #[.int .i64 0, .string (⟨#[]⟩ : ByteArray), .int .i64 0, .int .i64 0] 0 ?_; refine tn_ ?_; exact BK171.out⟩
            have n2_ : Aside0 (Below w.heap.size w ((((w82.setCell ⟨gb171, 0, none⟩ (.int .i64 0)).setCell ⟨gb171, 1, none⟩ (.string (⟨#[]⟩ : ByteArray))).setCell ⟨gb171, 2, none⟩ (.int .i64 0)).setCell ⟨gb171, 3, none⟩ (.int .i64 a1))) := ⟨tf6d_⟩
            (try clear BK170)
            (try clear BK171)
            (try clear HB)
            generalize ((((w82.setCell ⟨gb171, 0, none⟩ (.int .i64 0)).setCell ⟨gb171, 1, none⟩ (.string (⟨#[]⟩ : ByteArray))).setCell ⟨gb171, 2, none⟩ (.int .i64 0)).setCell ⟨gb171, 3, none⟩ (.int .i64 a1)) = w85 at n0_ n1_ n2_ ⊢
            have BK170 := n0_
            have BK171 := n1_
            have HB := n2_
            clear n0_ n1_ n2_
            (try (rw [drewN_self w85]; generalize hq_ : World.drewN w85 _ = w85; have n0_ : Aside0 (w85.heap[gb170]? = some (.cells #[.int .i64 0, .string (⟨#[]⟩ : ByteArray), .int .i64 0, .int .i64 0] 29 (0, 0))) := ⟨by rw [← hq_]; exact (tn_ BK170.out)⟩; have n1_ : Aside0 (w85.heap[gb171]? = some (.cells #[.int .i64 0, .string (⟨#[]⟩ : ByteArray), .int .i64 0, .int .i64 a1] 29 (0, 0))) := ⟨by rw [← hq_]; exact (tn_ BK171.out)⟩; have n2_ : Aside0 (Below w.heap.size w w85) := ⟨by rw [← hq_]; exact (tf6d_)⟩; clear BK170 BK171 HB hq_; have BK170 := n0_; have BK171 := n1_; have HB := n2_; clear n0_ n1_ n2_))
            have n0_ := Aside0.mk (blk_drew BK170.out)
            have n1_ := Aside0.mk (blk_drew BK171.out)
            have n2_ := Aside0.mk (below_drew1 HB.out)
            clear BK170
            clear BK171
            clear HB
            have BK170 := n0_
            have BK171 := n1_
            have HB := n2_
            clear n0_ n1_ n2_
            refine start_ (n := 9) (S := fun w' => True) (ds := []) (Array.replicate 9 false) (by kernel_rfl) rfl rfl trivial (fun hHeld => ?_); refine with_tabW impl_tokenAt.tab14 impl_tokenAt.bits14 (fun HT_ HW_ => ?_)
            generalize w85.drew = w86 at BK170 BK171 HB hHeld ⊢
            refine pv_ 0 (some 78) (bm 9 1) ?_
            refine pv_ 1 (some 79) (bm 9 3) ?_
            refine pv_ 2 (some 80) (bm 9 7) ?_
            refine pv_ 3 (some 81) (bm 9 15) ?_
            refine pv_ 4 (some 82) (bm 9 31) ?_
            refine pv_ 5 (some 83) (bm 9 63) ?_
            refine one_ (i := 6) (N := none) (bm 9 127) rfl rfl (one_of HT_.out (by kernel_rfl)) (by decide) (fun K hK => ?_)
            have hs87 : w86.cell? ⟨gb171, 0, none⟩ = some (.int .i64 0) := (blk_cell BK171.out 0).trans rfl
            have hfs87 := blk_frozen BK171.out 0
            have hns87_0 := NB170_171.out
            have hms87_0 := NB171_170.out
            refine skip_ (w1 := ?_) (by rfl) rfl ?_ ?_
            rotate_left; (go_simp; rfl)
            refine hK.out _ _ trivial (fun hHeld => ?_)
            clear hK K
            refine pv_ 7 (some 84) (bm 9 255) ?_
            refine one_ (i := 8) (N := none) (bm 9 511) rfl rfl (one_of HT_.out (by kernel_rfl)) (by decide) (fun K hK => ?_)
            have hs88 : w86.cell? ⟨gb171, 1, none⟩ = some (.string (⟨#[]⟩ : ByteArray)) := (blk_cell BK171.out 1).trans rfl
            have hfs88 := blk_frozen BK171.out 1
            have hns88_0 := NB170_171.out
            have hms88_0 := NB171_170.out
            refine skip_ (w1 := ?_) (by rfl) rfl ?_ ?_
            rotate_left; (go_simp; rfl)
            refine hK.out _ _ trivial (fun hHeld => ?_)
            clear hK K
            refine done_ (done_of HT_.out (by kernel_rfl)) ?_
            try go_wp2
            (try simp only [setCell_drewN_])
            have n0_ : Aside0 (((w86.setCell ⟨gb171, 0, none⟩ (.int .i64 3)).setCell ⟨gb171, 1, none⟩ (.string (a0.extract ((ji73) : Int).toNat (t180 : Int).toNat))).heap[gb170]? = some (.cells #[.int .i64 0, .string (⟨#[]⟩ : ByteArray), .int .i64 0, .int .i64 0] 29 (0, 0))) := ⟨by refine tf_ NB170_171.out ?_; refine tf_ NB170_171.out ?_; refine tn_ ?_; exact BK170.out⟩
            have n1_ : Aside0 (((w86.setCell ⟨gb171, 0, none⟩ (.int .i64 3)).setCell ⟨gb171, 1, none⟩ (.string (a0.extract ((ji73) : Int).toNat (t180 : Int).toNat))).heap[gb171]? = some (.cells #[.int .i64 3, .string (a0.extract ((ji73) : Int).toNat (t180 : Int).toNat), .int .i64 0, .int .i64 a1] 29 (0, 0))) := ⟨by refine tp_ #[.int .i64 3, .string (⟨#[]⟩ : ByteArray), .int .i64 0, .int .i64 a1] 1 ?_; refine tp_ #[.int .i64 0, .string (⟨#[]⟩ : ByteArray), .int .i64 0, .int .i64 a1] 0 ?_; refine tn_ ?_; exact BK171.out⟩
            have n2_ : Aside0 (Below w.heap.size w ((w86.setCell ⟨gb171, 0, none⟩ (.int .i64 3)).setCell ⟨gb171, 1, none⟩ (.string (a0.extract ((ji73) : Int).toNat (t180 : Int).toNat)))) := ⟨tf6d_⟩
            (try clear BK170)
            (try clear BK171)
            (try clear HB)
            generalize ((w86.setCell ⟨gb171, 0, none⟩ (.int .i64 3)).setCell ⟨gb171, 1, none⟩ (.string (a0.extract ((ji73) : Int).toNat (t180 : Int).toNat))) = w89 at n0_ n1_ n2_ ⊢
            have BK170 := n0_
            have BK171 := n1_
            have HB := n2_
            clear n0_ n1_ n2_
            have n0_ := Aside0.mk (blk_drew BK170.out)
            have n1_ := Aside0.mk (blk_drew BK171.out)
            have n2_ := Aside0.mk (below_drew1 HB.out)
            clear BK170
            clear BK171
            clear HB
            have BK170 := n0_
            have BK171 := n1_
            have HB := n2_
            clear n0_ n1_ n2_
            have p79 : 0 ≤ (t180 : Int) := of_decide_eq_true (by first | (with_reducible assumption) | assumption)
            have q79 : t180 < (a0.size : Int) := of_decide_eq_true (by first | (with_reducible assumption) | assumption)
            have hx79 := bt_at a0 t180
            replace p79 := eq_true p79
            replace q79 := eq_true q79
            refine start_ (n := 22) (S := fun w' => w'.cell? ⟨gb171, 0, none⟩ = some (.int .i64 3) ∧ w'.cell? ⟨gb171, 1, none⟩ = some (.string (a0.extract ((ji73) : Int).toNat (t180 : Int).toNat)) ∧ w'.cell? ⟨gb171, 2, none⟩ = some (.int .i64 0) ∧ w'.cell? ⟨gb171, 3, none⟩ = some (.int .i64 a1)) (ds := []) (Array.replicate 22 false) (by kernel_rfl) rfl rfl ⟨(blk_cell BK171.out 0).trans rfl, (blk_cell BK171.out 1).trans rfl, (blk_cell BK171.out 2).trans rfl, (blk_cell BK171.out 3).trans rfl⟩ (fun hHeld => ?_); refine with_tabW impl_tokenAt.tab15 impl_tokenAt.bits15 (fun HT_ HW_ => ?_)
            generalize w89.drew = w90 at BK170 BK171 HB hHeld ⊢
            refine pv_ 1 (some 86) (bm 22 2) ?_
            refine pv_ 2 (some 87) (bm 22 6) ?_
            refine pv_ 3 (some 88) (bm 22 14) ?_
            refine pv_ 4 (some 89) (bm 22 30) ?_
            refine pv_ 5 (some 90) (bm 22 62) ?_
            refine pv_ 6 (some 91) (bm 22 126) ?_
            refine pv_ 7 (some 92) (bm 22 254) ?_
            refine pv_ 8 (some 93) (bm 22 510) ?_
            refine pv_ 9 (some 94) (bm 22 1022) ?_
            refine tv_ 0 (some 85) (bm 22 1023) hHeld ?_
            refine tv_ 10 (some 95) (bm 22 2047) hHeld ?_
            refine pv_ 11 (some 96) (bm 22 4095) ?_
            refine pv_ 12 (some 97) (bm 22 8191) ?_
            refine pv_ 13 (some 98) (bm 22 16383) ?_
            refine pv_ 14 (some 99) (bm 22 32767) ?_
            refine tv_ 15 (some 100) (bm 22 65535) hHeld ?_
            refine pv_ 16 (some 101) (bm 22 131071) ?_
            refine pv_ 17 (some 102) (bm 22 262143) ?_
            refine pv_ 18 (some 103) (bm 22 524287) ?_
            refine one_ (i := 19) (N := none) (bm 22 1048575) rfl rfl (one_of HT_.out (by kernel_rfl)) (by decide) (fun K hK => ?_)
            have hs91 : w90.cell? ⟨gb170, 0, none⟩ = some (.int .i64 0) := (blk_cell BK170.out 0).trans rfl
            have hfs91 := blk_frozen BK170.out 0
            have hns91_1 := NB171_170.out
            have hms91_1 := NB170_171.out
            have hs92 : w90.cell? ⟨gb170, 1, none⟩ = some (.string (⟨#[]⟩ : ByteArray)) := (blk_cell BK170.out 1).trans rfl
            have hfs92 := blk_frozen BK170.out 1
            have hns92_1 := NB171_170.out
            have hms92_1 := NB170_171.out
            have hs93 : w90.cell? ⟨gb170, 2, none⟩ = some (.int .i64 0) := (blk_cell BK170.out 2).trans rfl
            have hfs93 := blk_frozen BK170.out 2
            have hns93_1 := NB171_170.out
            have hms93_1 := NB170_171.out
            have hs94 : w90.cell? ⟨gb170, 3, none⟩ = some (.int .i64 0) := (blk_cell BK170.out 3).trans rfl
            have hfs94 := blk_frozen BK170.out 3
            have hns94_1 := NB171_170.out
            have hms94_1 := NB170_171.out
            refine skip_ (w1 := ?_) (by rfl) rfl ?_ ?_
            rotate_left; (go_simp; rfl)
            refine hK.out _ _ ⟨((cell_far (p := ⟨gb170, _, none⟩) NB171_170.out _).trans (((cell_far (p := ⟨gb170, _, none⟩) NB171_170.out _).trans (((cell_far (p := ⟨gb170, _, none⟩) NB171_170.out _).trans (((cell_far (p := ⟨gb170, _, none⟩) NB171_170.out _).trans (hHeld.1)))))))), ((cell_far (p := ⟨gb170, _, none⟩) NB171_170.out _).trans (((cell_far (p := ⟨gb170, _, none⟩) NB171_170.out _).trans (((cell_far (p := ⟨gb170, _, none⟩) NB171_170.out _).trans (((cell_far (p := ⟨gb170, _, none⟩) NB171_170.out _).trans (hHeld.2.1)))))))), ((cell_far (p := ⟨gb170, _, none⟩) NB171_170.out _).trans (((cell_far (p := ⟨gb170, _, none⟩) NB171_170.out _).trans (((cell_far (p := ⟨gb170, _, none⟩) NB171_170.out _).trans (((cell_far (p := ⟨gb170, _, none⟩) NB171_170.out _).trans (hHeld.2.2.1)))))))), ((cell_far (p := ⟨gb170, _, none⟩) NB171_170.out _).trans (((cell_far (p := ⟨gb170, _, none⟩) NB171_170.out _).trans (((cell_far (p := ⟨gb170, _, none⟩) NB171_170.out _).trans (((cell_far (p := ⟨gb170, _, none⟩) NB171_170.out _).trans (hHeld.2.2.2))))))))⟩ (fun hHeld => ?_)
            clear hK K
            refine pv_ 20 (some 5) (bm 22 2097151) ?_
            refine pv_ 21 (some 6) (bm 22 4194303) ?_
            refine done_ (done_of HT_.out (by kernel_rfl)) ?_
            try go_wp2
            refine bodyPost_ret (results_ctt rfl _ _ gb170 29 #[.int .i64 3, .string (a0.extract ((ji73) : Int).toNat (t180 : Int).toNat), .int .i64 0, .int .i64 a1] (0, 0) _ rfl (by refine tp_ #[.int .i64 3, .string (a0.extract ((ji73) : Int).toNat (t180 : Int).toNat), .int .i64 0, .int .i64 0] 3 ?_; refine tp_ #[.int .i64 3, .string (a0.extract ((ji73) : Int).toNat (t180 : Int).toNat), .int .i64 0, .int .i64 0] 2 ?_; refine tp_ #[.int .i64 3, .string (⟨#[]⟩ : ByteArray), .int .i64 0, .int .i64 0] 1 ?_; refine tp_ #[.int .i64 0, .string (⟨#[]⟩ : ByteArray), .int .i64 0, .int .i64 0] 0 ?_; refine tn_ ?_; exact BK170.out) Tryd.underlying29 rfl (by kernel_rfl)) rfl ?_
            exact ⟨by first | rfl | (simp [errW_none, errW_some] <;> rfl) | (simp only [← hji73]; first | rfl | (simp [errW_none, errW_some] <;> rfl)) | (simp [*, errW_none, errW_some] <;> rfl), tf6d_⟩
           ·
            rw [if_neg c80] at H
            have c80b0 : ((bt a0 t180) == 34) = false := beq_eq_false_iff_ne.mpr c80
            have c80b1 : ((bt a0 t180) != 34) = true := bne_iff_ne.mpr c80
            simp only [Option.some.injEq, Prod.mk.injEq] at H
            obtain ⟨rfl, rfl, rfl, rfl, rfl, rfl⟩ := H
            go_enter Tryd.func16, Tryd.ntmps16
            try go_wp2_with (first | ((with_reducible refine gate_dst (N := 4) rfl ?_); (try (refine gate_guard (by rfl) ?_; dsimp only)); refine be_ 4 #[.int .i64 0, .string (⟨#[]⟩ : ByteArray), .int .i64 0, .int .i64 0] 29 ?_; intro gb170 hg w95 hbox hb; have n0_ := Aside0.mk (below_step (t0c4_) hb); have n1_ := Aside0.mk (hbox); have n2_ := Aside0.mk ((by rw [hg]; exact (below_size (t0c4_)) : w.heap.size ≤ gb170)); have n3_ := Aside0.mk ((by rw [hg]; exact (below_size (t0c4_)) : w.heap.size ≤ gb170)); clear HB; have HB := n0_; have BK170 := n1_; have GW170 := n2_; have GE170 := n3_; clear n0_ n1_ n2_ n3_; clear hb hbox hg) | ((with_reducible refine gate_dst (N := 7) rfl ?_); (try (refine gate_guard (by rfl) ?_; dsimp only)); refine be_ 7 #[.int .i64 0, .string (⟨#[]⟩ : ByteArray), .int .i64 0, .int .i64 0] 29 ?_; intro gb171 hg w96 hbox hb; have n0_ := Aside0.mk (blk_below (g := gb170) (o := .cells #[.int .i64 0, .string (⟨#[]⟩ : ByteArray), .int .i64 0, .int .i64 0] 29 (0, 0)) (tn_ BK170.out) hb); have n1_ := Aside0.mk (below_step (tf6d_) hb); have n2_ := Aside0.mk (hbox); have n3_ := Aside0.mk ((by rw [hg]; exact (below_size (tf6d_)) : w.heap.size ≤ gb171)); have n4_ := Aside0.mk ((by rw [hg]; exact (below_size (tf6d_)) : w.heap.size ≤ gb171)); have n5_ := Aside0.mk ((by rw [hg]; exact Nat.ne_of_lt (blk_lt (g := gb170) (o := .cells #[.int .i64 0, .string (⟨#[]⟩ : ByteArray), .int .i64 0, .int .i64 0] 29 (0, 0)) (tn_ BK170.out)) : gb170 ≠ gb171)); have n6_ := Aside0.mk ((by rw [hg]; exact Nat.ne_of_gt (blk_lt (g := gb170) (o := .cells #[.int .i64 0, .string (⟨#[]⟩ : ByteArray), .int .i64 0, .int .i64 0] 29 (0, 0)) (tn_ BK170.out)) : gb171 ≠ gb170)); clear BK170; clear HB; have BK170 := n0_; have HB := n1_; have BK171 := n2_; have GW171 := n3_; have GE171 := n4_; have NB170_171 := n5_; have NB171_170 := n6_; clear n0_ n1_ n2_ n3_ n4_ n5_ n6_; clear hb hbox hg; have hnb97 := NB171_170.out; have hnc97 := NB170_171.out; have hcz98_0 : w96.cell? ⟨gb171, 0, none⟩ = some (.int .i64 0) := (blk_cell BK171.out 0).trans rfl; have hcz98_1 : w96.cell? ⟨gb171, 1, none⟩ = some (.string (⟨#[]⟩ : ByteArray)) := (blk_cell BK171.out 1).trans rfl; have hcz98_2 : w96.cell? ⟨gb171, 2, none⟩ = some (.int .i64 0) := (blk_cell BK171.out 2).trans rfl; have hcz98_3 : w96.cell? ⟨gb171, 3, none⟩ = some (.int .i64 0) := (blk_cell BK171.out 3).trans rfl; have hfz98_0 := blk_frozen BK171.out 0; have hfz98_1 := blk_frozen BK171.out 1; have hfz98_2 := blk_frozen BK171.out 2; have hfz98_3 := blk_frozen BK171.out 3; have p5 : 0 ≤ (a1 : Int) := of_decide_eq_true (by first | (with_reducible assumption) | assumption); have q5 : a1 < (a0.size : Int) := of_decide_eq_true (by first | (with_reducible assumption) | assumption); have hx5 := bt_at a0 a1; replace p5 := eq_true p5; replace q5 := eq_true q5) | ((with_reducible refine gate_callee (f := 23) rfl ?_); refine gl_ (some 21) Tryd.func23 #[.int .u8 (bt a0 a1)] ?_; (with_reducible refine (impl_letter.calls (bt a0 a1) false _ A6.out).mono ?_); rintro e w' ⟨rfl, ⟨nd, rfl⟩⟩; refine ⟨_, rfl, ?_⟩) | ((with_reducible refine gate_callee (f := 26) rfl ?_); refine gl_ (some 39) Tryd.func26 #[.int .u8 (bt a0 a1)] ?_; (with_reducible refine (impl_digit.calls (bt a0 a1) false _ A22.out).mono ?_); rintro e w' ⟨rfl, ⟨nd, rfl⟩⟩; refine ⟨_, rfl, ?_⟩) | ((with_reducible refine gate_callee (f := 24) rfl ?_); refine goesL_ (some 77) rfl rfl Tryd.func24 (by kernel_rfl) rfl #[.string a0, .int .i64 ji73, .func (.func 29) #[] #[]] rfl (by (try simp only [List.map_toArray, List.map_cons, List.map_nil]); first | done | (simp only [hji73]; rfl) | rfl | (simp only [List.length_drop, List.length_take]; rfl)) ?_; (with_reducible refine (impl_run_f29.calls k a0 ji73 () t180 _ A72.out).mono ?_); rintro e w' ⟨rfl, ⟨nd, rfl⟩⟩; refine ⟨_, rfl, ?_⟩))
            (try simp only [setCell_drewN_])
            have n0_ : Aside0 (((((w96.setCell ⟨gb171, 0, none⟩ (.int .i64 0)).setCell ⟨gb171, 1, none⟩ (.string (⟨#[]⟩ : ByteArray))).setCell ⟨gb171, 2, none⟩ (.int .i64 0)).setCell ⟨gb171, 3, none⟩ (.int .i64 a1)).heap[gb170]? = some (.cells #[.int .i64 0, .string (⟨#[]⟩ : ByteArray), .int .i64 0, .int .i64 0] 29 (0, 0))) := ⟨by refine tf_ NB170_171.out ?_; refine tf_ NB170_171.out ?_; refine tf_ NB170_171.out ?_; refine tf_ NB170_171.out ?_; refine tn_ ?_; exact BK170.out⟩
            have n1_ : Aside0 (((((w96.setCell ⟨gb171, 0, none⟩ (.int .i64 0)).setCell ⟨gb171, 1, none⟩ (.string (⟨#[]⟩ : ByteArray))).setCell ⟨gb171, 2, none⟩ (.int .i64 0)).setCell ⟨gb171, 3, none⟩ (.int .i64 a1)).heap[gb171]? = some (.cells #[.int .i64 0, .string (⟨#[]⟩ : ByteArray), .int .i64 0, .int .i64 a1] 29 (0, 0))) := ⟨by refine tp_ #[.int .i64 0, .string (⟨#[]⟩ : ByteArray), .int .i64 0, .int .i64 0] 3 ?_; refine tp_ #[.int .i64 0, .string (⟨#[]⟩ : ByteArray), .int .i64 0, .int .i64 0] 2 ?_; refine tp_ #[.int .i64 0, .string (⟨#[]⟩ : ByteArray), .int .i64 0, .int .i64 0] 1 ?_; refine tp_ #[.int .i64 0, .string (⟨#[]⟩ : ByteArray), .int .i64 0, .int .i64 0] 0 ?_; refine tn_ ?_; exact BK171.out⟩
            have n2_ : Aside0 (Below w.heap.size w ((((w96.setCell ⟨gb171, 0, none⟩ (.int .i64 0)).setCell ⟨gb171, 1, none⟩ (.string (⟨#[]⟩ : ByteArray))).setCell ⟨gb171, 2, none⟩ (.int .i64 0)).setCell ⟨gb171, 3, none⟩ (.int .i64 a1))) := ⟨tf6d_⟩
            (try clear BK170)
            (try clear BK171)
            (try clear HB)
            generalize ((((w96.setCell ⟨gb171, 0, none⟩ (.int .i64 0)).setCell ⟨gb171, 1, none⟩ (.string (⟨#[]⟩ : ByteArray))).setCell ⟨gb171, 2, none⟩ (.int .i64 0)).setCell ⟨gb171, 3, none⟩ (.int .i64 a1)) = w99 at n0_ n1_ n2_ ⊢
            have BK170 := n0_
            have BK171 := n1_
            have HB := n2_
            clear n0_ n1_ n2_
            (try (rw [drewN_self w99]; generalize hq_ : World.drewN w99 _ = w99; have n0_ : Aside0 (w99.heap[gb170]? = some (.cells #[.int .i64 0, .string (⟨#[]⟩ : ByteArray), .int .i64 0, .int .i64 0] 29 (0, 0))) := ⟨by rw [← hq_]; exact (tn_ BK170.out)⟩; have n1_ : Aside0 (w99.heap[gb171]? = some (.cells #[.int .i64 0, .string (⟨#[]⟩ : ByteArray), .int .i64 0, .int .i64 a1] 29 (0, 0))) := ⟨by rw [← hq_]; exact (tn_ BK171.out)⟩; have n2_ : Aside0 (Below w.heap.size w w99) := ⟨by rw [← hq_]; exact (tf6d_)⟩; clear BK170 BK171 HB hq_; have BK170 := n0_; have BK171 := n1_; have HB := n2_; clear n0_ n1_ n2_))
            have n0_ := Aside0.mk (blk_drew BK170.out)
            have n1_ := Aside0.mk (blk_drew BK171.out)
            have n2_ := Aside0.mk (below_drew1 HB.out)
            clear BK170
            clear BK171
            clear HB
            have BK170 := n0_
            have BK171 := n1_
            have HB := n2_
            clear n0_ n1_ n2_
            refine start_ (n := 9) (S := fun w' => True) (ds := []) (Array.replicate 9 false) (by kernel_rfl) rfl rfl trivial (fun hHeld => ?_); refine with_tabW impl_tokenAt.tab14 impl_tokenAt.bits14 (fun HT_ HW_ => ?_)
            generalize w99.drew = w100 at BK170 BK171 HB hHeld ⊢
            refine pv_ 0 (some 78) (bm 9 1) ?_
            refine pv_ 1 (some 79) (bm 9 3) ?_
            refine pv_ 2 (some 80) (bm 9 7) ?_
            refine pv_ 3 (some 81) (bm 9 15) ?_
            refine pv_ 4 (some 82) (bm 9 31) ?_
            refine pv_ 5 (some 83) (bm 9 63) ?_
            refine one_ (i := 6) (N := none) (bm 9 127) rfl rfl (one_of HT_.out (by kernel_rfl)) (by decide) (fun K hK => ?_)
            have hs101 : w100.cell? ⟨gb171, 0, none⟩ = some (.int .i64 0) := (blk_cell BK171.out 0).trans rfl
            have hfs101 := blk_frozen BK171.out 0
            have hns101_0 := NB170_171.out
            have hms101_0 := NB171_170.out
            refine skip_ (w1 := ?_) (by rfl) rfl ?_ ?_
            rotate_left; (go_simp; rfl)
            refine hK.out _ _ trivial (fun hHeld => ?_)
            clear hK K
            refine pv_ 7 (some 84) (bm 9 255) ?_
            refine one_ (i := 8) (N := none) (bm 9 511) rfl rfl (one_of HT_.out (by kernel_rfl)) (by decide) (fun K hK => ?_)
            have hs102 : w100.cell? ⟨gb171, 1, none⟩ = some (.string (⟨#[]⟩ : ByteArray)) := (blk_cell BK171.out 1).trans rfl
            have hfs102 := blk_frozen BK171.out 1
            have hns102_0 := NB170_171.out
            have hms102_0 := NB171_170.out
            refine skip_ (w1 := ?_) (by rfl) rfl ?_ ?_
            rotate_left; (go_simp; rfl)
            refine hK.out _ _ trivial (fun hHeld => ?_)
            clear hK K
            refine done_ (done_of HT_.out (by kernel_rfl)) ?_
            try go_wp2
            (try simp only [setCell_drewN_])
            have n0_ : Aside0 (((w100.setCell ⟨gb171, 0, none⟩ (.int .i64 3)).setCell ⟨gb171, 1, none⟩ (.string (a0.extract ((ji73) : Int).toNat (t180 : Int).toNat))).heap[gb170]? = some (.cells #[.int .i64 0, .string (⟨#[]⟩ : ByteArray), .int .i64 0, .int .i64 0] 29 (0, 0))) := ⟨by refine tf_ NB170_171.out ?_; refine tf_ NB170_171.out ?_; refine tn_ ?_; exact BK170.out⟩
            have n1_ : Aside0 (((w100.setCell ⟨gb171, 0, none⟩ (.int .i64 3)).setCell ⟨gb171, 1, none⟩ (.string (a0.extract ((ji73) : Int).toNat (t180 : Int).toNat))).heap[gb171]? = some (.cells #[.int .i64 3, .string (a0.extract ((ji73) : Int).toNat (t180 : Int).toNat), .int .i64 0, .int .i64 a1] 29 (0, 0))) := ⟨by refine tp_ #[.int .i64 3, .string (⟨#[]⟩ : ByteArray), .int .i64 0, .int .i64 a1] 1 ?_; refine tp_ #[.int .i64 0, .string (⟨#[]⟩ : ByteArray), .int .i64 0, .int .i64 a1] 0 ?_; refine tn_ ?_; exact BK171.out⟩
            have n2_ : Aside0 (Below w.heap.size w ((w100.setCell ⟨gb171, 0, none⟩ (.int .i64 3)).setCell ⟨gb171, 1, none⟩ (.string (a0.extract ((ji73) : Int).toNat (t180 : Int).toNat)))) := ⟨tf6d_⟩
            (try clear BK170)
            (try clear BK171)
            (try clear HB)
            generalize ((w100.setCell ⟨gb171, 0, none⟩ (.int .i64 3)).setCell ⟨gb171, 1, none⟩ (.string (a0.extract ((ji73) : Int).toNat (t180 : Int).toNat))) = w103 at n0_ n1_ n2_ ⊢
            have BK170 := n0_
            have BK171 := n1_
            have HB := n2_
            clear n0_ n1_ n2_
            have n0_ := Aside0.mk (blk_drew BK170.out)
            have n1_ := Aside0.mk (blk_drew BK171.out)
            have n2_ := Aside0.mk (below_drew1 HB.out)
            clear BK170
            clear BK171
            clear HB
            have BK170 := n0_
            have BK171 := n1_
            have HB := n2_
            clear n0_ n1_ n2_
            have p79 : 0 ≤ (t180 : Int) := of_decide_eq_true (by first | (with_reducible assumption) | assumption)
            have q79 : t180 < (a0.size : Int) := of_decide_eq_true (by first | (with_reducible assumption) | assumption)
            have hx79 := bt_at a0 t180
            replace p79 := eq_true p79
            replace q79 := eq_true q79
            refine start_ (n := 22) (S := fun w' => w'.cell? ⟨gb171, 0, none⟩ = some (.int .i64 3) ∧ w'.cell? ⟨gb171, 1, none⟩ = some (.string (a0.extract ((ji73) : Int).toNat (t180 : Int).toNat)) ∧ w'.cell? ⟨gb171, 2, none⟩ = some (.int .i64 0) ∧ w'.cell? ⟨gb171, 3, none⟩ = some (.int .i64 a1)) (ds := []) (Array.replicate 22 false) (by kernel_rfl) rfl rfl ⟨(blk_cell BK171.out 0).trans rfl, (blk_cell BK171.out 1).trans rfl, (blk_cell BK171.out 2).trans rfl, (blk_cell BK171.out 3).trans rfl⟩ (fun hHeld => ?_); refine with_tabW impl_tokenAt.tab15 impl_tokenAt.bits15 (fun HT_ HW_ => ?_)
            generalize w103.drew = w104 at BK170 BK171 HB hHeld ⊢
            refine pv_ 1 (some 86) (bm 22 2) ?_
            refine pv_ 2 (some 87) (bm 22 6) ?_
            refine pv_ 3 (some 88) (bm 22 14) ?_
            refine pv_ 4 (some 89) (bm 22 30) ?_
            refine pv_ 5 (some 90) (bm 22 62) ?_
            refine pv_ 6 (some 91) (bm 22 126) ?_
            refine pv_ 7 (some 92) (bm 22 254) ?_
            refine pv_ 8 (some 93) (bm 22 510) ?_
            refine pv_ 9 (some 94) (bm 22 1022) ?_
            refine tv_ 0 (some 85) (bm 22 1023) hHeld ?_
            refine tv_ 10 (some 95) (bm 22 2047) hHeld ?_
            refine pv_ 11 (some 96) (bm 22 4095) ?_
            refine pv_ 12 (some 97) (bm 22 8191) ?_
            refine pv_ 13 (some 98) (bm 22 16383) ?_
            refine pure_ (i := 14) (N := some 99) (v := undef) (a' := ?_) (bm 22 32767) rfl rfl (any_of HT_.out (by kernel_rfl)) (fun _ _ _ h => h) (Or.inr ⟨by rfl, rfl⟩) ?_ ?_
            rotate_left; (simp only [Act.put, List.setIfInBounds_toArray, List.set_cons_zero, List.set_cons_succ, i64_w, i32_w]; rfl)
            refine pure_ (i := 15) (N := some 100) (v := undef) (a' := ?_) (bm 22 65535) rfl rfl (any_of HT_.out (by kernel_rfl)) (fun _ _ _ h => h) (Or.inr ⟨by rfl, rfl⟩) ?_ ?_
            rotate_left; (simp only [Act.put, List.setIfInBounds_toArray, List.set_cons_zero, List.set_cons_succ, i64_w, i32_w]; rfl)
            refine pure_ (i := 16) (N := some 101) (v := undef) (a' := ?_) (bm 22 131071) rfl rfl (any_of HT_.out (by kernel_rfl)) (fun _ _ _ h => h) (Or.inr ⟨by rfl, rfl⟩) ?_ ?_
            rotate_left; (simp only [Act.put, List.setIfInBounds_toArray, List.set_cons_zero, List.set_cons_succ, i64_w, i32_w]; rfl)
            refine pure_ (i := 17) (N := some 102) (v := undef) (a' := ?_) (bm 22 262143) rfl rfl (any_of HT_.out (by kernel_rfl)) (fun _ _ _ h => h) (Or.inr ⟨by rfl, rfl⟩) ?_ ?_
            rotate_left; (simp only [Act.put, List.setIfInBounds_toArray, List.set_cons_zero, List.set_cons_succ, i64_w, i32_w]; rfl)
            refine pv_ 18 (some 103) (bm 22 524287) ?_
            refine one_ (i := 19) (N := none) (bm 22 1048575) rfl rfl (one_of HT_.out (by kernel_rfl)) (by decide) (fun K hK => ?_)
            have hs105 : w104.cell? ⟨gb170, 0, none⟩ = some (.int .i64 0) := (blk_cell BK170.out 0).trans rfl
            have hfs105 := blk_frozen BK170.out 0
            have hns105_1 := NB171_170.out
            have hms105_1 := NB170_171.out
            have hs106 : w104.cell? ⟨gb170, 1, none⟩ = some (.string (⟨#[]⟩ : ByteArray)) := (blk_cell BK170.out 1).trans rfl
            have hfs106 := blk_frozen BK170.out 1
            have hns106_1 := NB171_170.out
            have hms106_1 := NB170_171.out
            have hs107 : w104.cell? ⟨gb170, 2, none⟩ = some (.int .i64 0) := (blk_cell BK170.out 2).trans rfl
            have hfs107 := blk_frozen BK170.out 2
            have hns107_1 := NB171_170.out
            have hms107_1 := NB170_171.out
            have hs108 : w104.cell? ⟨gb170, 3, none⟩ = some (.int .i64 0) := (blk_cell BK170.out 3).trans rfl
            have hfs108 := blk_frozen BK170.out 3
            have hns108_1 := NB171_170.out
            have hms108_1 := NB170_171.out
            refine skip_ (w1 := ?_) (by rfl) rfl ?_ ?_
            rotate_left; (go_simp; rfl)
            refine hK.out _ _ ⟨((cell_far (p := ⟨gb170, _, none⟩) NB171_170.out _).trans (((cell_far (p := ⟨gb170, _, none⟩) NB171_170.out _).trans (((cell_far (p := ⟨gb170, _, none⟩) NB171_170.out _).trans (((cell_far (p := ⟨gb170, _, none⟩) NB171_170.out _).trans (hHeld.1)))))))), ((cell_far (p := ⟨gb170, _, none⟩) NB171_170.out _).trans (((cell_far (p := ⟨gb170, _, none⟩) NB171_170.out _).trans (((cell_far (p := ⟨gb170, _, none⟩) NB171_170.out _).trans (((cell_far (p := ⟨gb170, _, none⟩) NB171_170.out _).trans (hHeld.2.1)))))))), ((cell_far (p := ⟨gb170, _, none⟩) NB171_170.out _).trans (((cell_far (p := ⟨gb170, _, none⟩) NB171_170.out _).trans (((cell_far (p := ⟨gb170, _, none⟩) NB171_170.out _).trans (((cell_far (p := ⟨gb170, _, none⟩) NB171_170.out _).trans (hHeld.2.2.1)))))))), ((cell_far (p := ⟨gb170, _, none⟩) NB171_170.out _).trans (((cell_far (p := ⟨gb170, _, none⟩) NB171_170.out _).trans (((cell_far (p := ⟨gb170, _, none⟩) NB171_170.out _).trans (((cell_far (p := ⟨gb170, _, none⟩) NB171_170.out _).trans (hHeld.2.2.2))))))))⟩ (fun hHeld => ?_)
            clear hK K
            refine pv_ 20 (some 5) (bm 22 2097151) ?_
            refine pv_ 21 (some 6) (bm 22 4194303) ?_
            refine done_ (done_of HT_.out (by kernel_rfl)) ?_
            try go_wp2
            refine bodyPost_ret (results_ctt rfl _ _ gb170 29 #[.int .i64 3, .string (a0.extract ((ji73) : Int).toNat (t180 : Int).toNat), .int .i64 0, .int .i64 a1] (0, 0) _ rfl (by refine tp_ #[.int .i64 3, .string (a0.extract ((ji73) : Int).toNat (t180 : Int).toNat), .int .i64 0, .int .i64 0] 3 ?_; refine tp_ #[.int .i64 3, .string (a0.extract ((ji73) : Int).toNat (t180 : Int).toNat), .int .i64 0, .int .i64 0] 2 ?_; refine tp_ #[.int .i64 3, .string (⟨#[]⟩ : ByteArray), .int .i64 0, .int .i64 0] 1 ?_; refine tp_ #[.int .i64 0, .string (⟨#[]⟩ : ByteArray), .int .i64 0, .int .i64 0] 0 ?_; refine tn_ ?_; exact BK170.out) Tryd.underlying29 rfl (by kernel_rfl)) rfl ?_
            exact ⟨by first | rfl | (simp [errW_none, errW_some] <;> rfl) | (simp only [← hji73]; first | rfl | (simp [errW_none, errW_some] <;> rfl)) | (simp [*, errW_none, errW_some] <;> rfl), tf6d_⟩
          ·
           rw [if_neg c78] at H
           exact absurd H (by simp)
         ·
          rw [if_neg c77] at H
          have c77b0 : decide (t180 < (a0.size : Int)) = false := decide_eq_false c77
          clear c77
          simp only [Option.some.injEq, Prod.mk.injEq] at H
          obtain ⟨rfl, rfl, rfl, rfl, rfl, rfl⟩ := H
          go_enter Tryd.func16, Tryd.ntmps16
          try go_wp2_with (first | ((with_reducible refine gate_dst (N := 4) rfl ?_); (try (refine gate_guard (by rfl) ?_; dsimp only)); refine be_ 4 #[.int .i64 0, .string (⟨#[]⟩ : ByteArray), .int .i64 0, .int .i64 0] 29 ?_; intro gb170 hg w109 hbox hb; have n0_ := Aside0.mk (below_step (t0c4_) hb); have n1_ := Aside0.mk (hbox); have n2_ := Aside0.mk ((by rw [hg]; exact (below_size (t0c4_)) : w.heap.size ≤ gb170)); have n3_ := Aside0.mk ((by rw [hg]; exact (below_size (t0c4_)) : w.heap.size ≤ gb170)); clear HB; have HB := n0_; have BK170 := n1_; have GW170 := n2_; have GE170 := n3_; clear n0_ n1_ n2_ n3_; clear hb hbox hg) | ((with_reducible refine gate_dst (N := 7) rfl ?_); (try (refine gate_guard (by rfl) ?_; dsimp only)); refine be_ 7 #[.int .i64 0, .string (⟨#[]⟩ : ByteArray), .int .i64 0, .int .i64 0] 29 ?_; intro gb171 hg w110 hbox hb; have n0_ := Aside0.mk (blk_below (g := gb170) (o := .cells #[.int .i64 0, .string (⟨#[]⟩ : ByteArray), .int .i64 0, .int .i64 0] 29 (0, 0)) (tn_ BK170.out) hb); have n1_ := Aside0.mk (below_step (tf6d_) hb); have n2_ := Aside0.mk (hbox); have n3_ := Aside0.mk ((by rw [hg]; exact (below_size (tf6d_)) : w.heap.size ≤ gb171)); have n4_ := Aside0.mk ((by rw [hg]; exact (below_size (tf6d_)) : w.heap.size ≤ gb171)); have n5_ := Aside0.mk ((by rw [hg]; exact Nat.ne_of_lt (blk_lt (g := gb170) (o := .cells #[.int .i64 0, .string (⟨#[]⟩ : ByteArray), .int .i64 0, .int .i64 0] 29 (0, 0)) (tn_ BK170.out)) : gb170 ≠ gb171)); have n6_ := Aside0.mk ((by rw [hg]; exact Nat.ne_of_gt (blk_lt (g := gb170) (o := .cells #[.int .i64 0, .string (⟨#[]⟩ : ByteArray), .int .i64 0, .int .i64 0] 29 (0, 0)) (tn_ BK170.out)) : gb171 ≠ gb170)); clear BK170; clear HB; have BK170 := n0_; have HB := n1_; have BK171 := n2_; have GW171 := n3_; have GE171 := n4_; have NB170_171 := n5_; have NB171_170 := n6_; clear n0_ n1_ n2_ n3_ n4_ n5_ n6_; clear hb hbox hg; have hnb111 := NB171_170.out; have hnc111 := NB170_171.out; have hcz112_0 : w110.cell? ⟨gb171, 0, none⟩ = some (.int .i64 0) := (blk_cell BK171.out 0).trans rfl; have hcz112_1 : w110.cell? ⟨gb171, 1, none⟩ = some (.string (⟨#[]⟩ : ByteArray)) := (blk_cell BK171.out 1).trans rfl; have hcz112_2 : w110.cell? ⟨gb171, 2, none⟩ = some (.int .i64 0) := (blk_cell BK171.out 2).trans rfl; have hcz112_3 : w110.cell? ⟨gb171, 3, none⟩ = some (.int .i64 0) := (blk_cell BK171.out 3).trans rfl; have hfz112_0 := blk_frozen BK171.out 0; have hfz112_1 := blk_frozen BK171.out 1; have hfz112_2 := blk_frozen BK171.out 2; have hfz112_3 := blk_frozen BK171.out 3; have p5 : 0 ≤ (a1 : Int) := of_decide_eq_true (by first | (with_reducible assumption) | assumption); have q5 : a1 < (a0.size : Int) := of_decide_eq_true (by first | (with_reducible assumption) | assumption); have hx5 := bt_at a0 a1; replace p5 := eq_true p5; replace q5 := eq_true q5) | ((with_reducible refine gate_callee (f := 23) rfl ?_); refine gl_ (some 21) Tryd.func23 #[.int .u8 (bt a0 a1)] ?_; (with_reducible refine (impl_letter.calls (bt a0 a1) false _ A6.out).mono ?_); rintro e w' ⟨rfl, ⟨nd, rfl⟩⟩; refine ⟨_, rfl, ?_⟩) | ((with_reducible refine gate_callee (f := 26) rfl ?_); refine gl_ (some 39) Tryd.func26 #[.int .u8 (bt a0 a1)] ?_; (with_reducible refine (impl_digit.calls (bt a0 a1) false _ A22.out).mono ?_); rintro e w' ⟨rfl, ⟨nd, rfl⟩⟩; refine ⟨_, rfl, ?_⟩) | ((with_reducible refine gate_callee (f := 24) rfl ?_); refine goesL_ (some 77) rfl rfl Tryd.func24 (by kernel_rfl) rfl #[.string a0, .int .i64 ji73, .func (.func 29) #[] #[]] rfl (by (try simp only [List.map_toArray, List.map_cons, List.map_nil]); first | done | (simp only [hji73]; rfl) | rfl | (simp only [List.length_drop, List.length_take]; rfl)) ?_; (with_reducible refine (impl_run_f29.calls k a0 ji73 () t180 _ A72.out).mono ?_); rintro e w' ⟨rfl, ⟨nd, rfl⟩⟩; refine ⟨_, rfl, ?_⟩))
          (try simp only [setCell_drewN_])
          have n0_ : Aside0 (((((w110.setCell ⟨gb171, 0, none⟩ (.int .i64 0)).setCell ⟨gb171, 1, none⟩ (.string (⟨#[]⟩ : ByteArray))).setCell ⟨gb171, 2, none⟩ (.int .i64 0)).setCell ⟨gb171, 3, none⟩ (.int .i64 a1)).heap[gb170]? = some (.cells #[.int .i64 0, .string (⟨#[]⟩ : ByteArray), .int .i64 0, .int .i64 0] 29 (0, 0))) := ⟨by refine tf_ NB170_171.out ?_; refine tf_ NB170_171.out ?_; refine tf_ NB170_171.out ?_; refine tf_ NB170_171.out ?_; refine tn_ ?_; exact BK170.out⟩
          have n1_ : Aside0 (((((w110.setCell ⟨gb171, 0, none⟩ (.int .i64 0)).setCell ⟨gb171, 1, none⟩ (.string (⟨#[]⟩ : ByteArray))).setCell ⟨gb171, 2, none⟩ (.int .i64 0)).setCell ⟨gb171, 3, none⟩ (.int .i64 a1)).heap[gb171]? = some (.cells #[.int .i64 0, .string (⟨#[]⟩ : ByteArray), .int .i64 0, .int .i64 a1] 29 (0, 0))) := ⟨by refine tp_ #[.int .i64 0, .string (⟨#[]⟩ : ByteArray), .int .i64 0, .int .i64 0] 3 ?_; refine tp_ #[.int .i64 0, .string (⟨#[]⟩ : ByteArray), .int .i64 0, .int .i64 0] 2 ?_; refine tp_ #[.int .i64 0, .string (⟨#[]⟩ : ByteArray), .int .i64 0, .int .i64 0] 1 ?_; refine tp_ #[.int .i64 0, .string (⟨#[]⟩ : ByteArray), .int .i64 0, .int .i64 0] 0 ?_; refine tn_ ?_; exact BK171.out⟩
          have n2_ : Aside0 (Below w.heap.size w ((((w110.setCell ⟨gb171, 0, none⟩ (.int .i64 0)).setCell ⟨gb171, 1, none⟩ (.string (⟨#[]⟩ : ByteArray))).setCell ⟨gb171, 2, none⟩ (.int .i64 0)).setCell ⟨gb171, 3, none⟩ (.int .i64 a1))) := ⟨tf6d_⟩
          (try clear BK170)
          (try clear BK171)
          (try clear HB)
          generalize ((((w110.setCell ⟨gb171, 0, none⟩ (.int .i64 0)).setCell ⟨gb171, 1, none⟩ (.string (⟨#[]⟩ : ByteArray))).setCell ⟨gb171, 2, none⟩ (.int .i64 0)).setCell ⟨gb171, 3, none⟩ (.int .i64 a1)) = w113 at n0_ n1_ n2_ ⊢
          have BK170 := n0_
          have BK171 := n1_
          have HB := n2_
          clear n0_ n1_ n2_
          (try (rw [drewN_self w113]; generalize hq_ : World.drewN w113 _ = w113; have n0_ : Aside0 (w113.heap[gb170]? = some (.cells #[.int .i64 0, .string (⟨#[]⟩ : ByteArray), .int .i64 0, .int .i64 0] 29 (0, 0))) := ⟨by rw [← hq_]; exact (tn_ BK170.out)⟩; have n1_ : Aside0 (w113.heap[gb171]? = some (.cells #[.int .i64 0, .string (⟨#[]⟩ : ByteArray), .int .i64 0, .int .i64 a1] 29 (0, 0))) := ⟨by rw [← hq_]; exact (tn_ BK171.out)⟩; have n2_ : Aside0 (Below w.heap.size w w113) := ⟨by rw [← hq_]; exact (tf6d_)⟩; clear BK170 BK171 HB hq_; have BK170 := n0_; have BK171 := n1_; have HB := n2_; clear n0_ n1_ n2_))
          have n0_ := Aside0.mk (blk_drew BK170.out)
          have n1_ := Aside0.mk (blk_drew BK171.out)
          have n2_ := Aside0.mk (below_drew1 HB.out)
          clear BK170
          clear BK171
          clear HB
          have BK170 := n0_
          have BK171 := n1_
          have HB := n2_
          clear n0_ n1_ n2_
          refine start_ (n := 9) (S := fun w' => True) (ds := []) (Array.replicate 9 false) (by kernel_rfl) rfl rfl trivial (fun hHeld => ?_); refine with_tabW impl_tokenAt.tab14 impl_tokenAt.bits14 (fun HT_ HW_ => ?_)
          generalize w113.drew = w114 at BK170 BK171 HB hHeld ⊢
          refine pv_ 0 (some 78) (bm 9 1) ?_
          refine pv_ 1 (some 79) (bm 9 3) ?_
          refine pv_ 2 (some 80) (bm 9 7) ?_
          refine pv_ 3 (some 81) (bm 9 15) ?_
          refine pv_ 4 (some 82) (bm 9 31) ?_
          refine pv_ 5 (some 83) (bm 9 63) ?_
          refine one_ (i := 6) (N := none) (bm 9 127) rfl rfl (one_of HT_.out (by kernel_rfl)) (by decide) (fun K hK => ?_)
          have hs115 : w114.cell? ⟨gb171, 0, none⟩ = some (.int .i64 0) := (blk_cell BK171.out 0).trans rfl
          have hfs115 := blk_frozen BK171.out 0
          have hns115_0 := NB170_171.out
          have hms115_0 := NB171_170.out
          refine skip_ (w1 := ?_) (by rfl) rfl ?_ ?_
          rotate_left; (go_simp; rfl)
          refine hK.out _ _ trivial (fun hHeld => ?_)
          clear hK K
          refine pv_ 7 (some 84) (bm 9 255) ?_
          refine one_ (i := 8) (N := none) (bm 9 511) rfl rfl (one_of HT_.out (by kernel_rfl)) (by decide) (fun K hK => ?_)
          have hs116 : w114.cell? ⟨gb171, 1, none⟩ = some (.string (⟨#[]⟩ : ByteArray)) := (blk_cell BK171.out 1).trans rfl
          have hfs116 := blk_frozen BK171.out 1
          have hns116_0 := NB170_171.out
          have hms116_0 := NB171_170.out
          refine skip_ (w1 := ?_) (by rfl) rfl ?_ ?_
          rotate_left; (go_simp; rfl)
          refine hK.out _ _ trivial (fun hHeld => ?_)
          clear hK K
          refine done_ (done_of HT_.out (by kernel_rfl)) ?_
          try go_wp2
          (try simp only [setCell_drewN_])
          have n0_ : Aside0 (((w114.setCell ⟨gb171, 0, none⟩ (.int .i64 3)).setCell ⟨gb171, 1, none⟩ (.string (a0.extract ((ji73) : Int).toNat (t180 : Int).toNat))).heap[gb170]? = some (.cells #[.int .i64 0, .string (⟨#[]⟩ : ByteArray), .int .i64 0, .int .i64 0] 29 (0, 0))) := ⟨by refine tf_ NB170_171.out ?_; refine tf_ NB170_171.out ?_; refine tn_ ?_; exact BK170.out⟩
          have n1_ : Aside0 (((w114.setCell ⟨gb171, 0, none⟩ (.int .i64 3)).setCell ⟨gb171, 1, none⟩ (.string (a0.extract ((ji73) : Int).toNat (t180 : Int).toNat))).heap[gb171]? = some (.cells #[.int .i64 3, .string (a0.extract ((ji73) : Int).toNat (t180 : Int).toNat), .int .i64 0, .int .i64 a1] 29 (0, 0))) := ⟨by refine tp_ #[.int .i64 3, .string (⟨#[]⟩ : ByteArray), .int .i64 0, .int .i64 a1] 1 ?_; refine tp_ #[.int .i64 0, .string (⟨#[]⟩ : ByteArray), .int .i64 0, .int .i64 a1] 0 ?_; refine tn_ ?_; exact BK171.out⟩
          have n2_ : Aside0 (Below w.heap.size w ((w114.setCell ⟨gb171, 0, none⟩ (.int .i64 3)).setCell ⟨gb171, 1, none⟩ (.string (a0.extract ((ji73) : Int).toNat (t180 : Int).toNat)))) := ⟨tf6d_⟩
          (try clear BK170)
          (try clear BK171)
          (try clear HB)
          generalize ((w114.setCell ⟨gb171, 0, none⟩ (.int .i64 3)).setCell ⟨gb171, 1, none⟩ (.string (a0.extract ((ji73) : Int).toNat (t180 : Int).toNat))) = w117 at n0_ n1_ n2_ ⊢
          have BK170 := n0_
          have BK171 := n1_
          have HB := n2_
          clear n0_ n1_ n2_
          have n0_ := Aside0.mk (blk_drew BK170.out)
          have n1_ := Aside0.mk (blk_drew BK171.out)
          have n2_ := Aside0.mk (below_drew1 HB.out)
          clear BK170
          clear BK171
          clear HB
          have BK170 := n0_
          have BK171 := n1_
          have HB := n2_
          clear n0_ n1_ n2_
          refine start_ (n := 22) (S := fun w' => w'.cell? ⟨gb171, 0, none⟩ = some (.int .i64 3) ∧ w'.cell? ⟨gb171, 1, none⟩ = some (.string (a0.extract ((ji73) : Int).toNat (t180 : Int).toNat)) ∧ w'.cell? ⟨gb171, 2, none⟩ = some (.int .i64 0) ∧ w'.cell? ⟨gb171, 3, none⟩ = some (.int .i64 a1)) (ds := []) (Array.replicate 22 false) (by kernel_rfl) rfl rfl ⟨(blk_cell BK171.out 0).trans rfl, (blk_cell BK171.out 1).trans rfl, (blk_cell BK171.out 2).trans rfl, (blk_cell BK171.out 3).trans rfl⟩ (fun hHeld => ?_); refine with_tabW impl_tokenAt.tab15 impl_tokenAt.bits15 (fun HT_ HW_ => ?_)
          generalize w117.drew = w118 at BK170 BK171 HB hHeld ⊢
          refine pv_ 1 (some 86) (bm 22 2) ?_
          refine pv_ 2 (some 87) (bm 22 6) ?_
          refine pv_ 3 (some 88) (bm 22 14) ?_
          refine pv_ 4 (some 89) (bm 22 30) ?_
          refine pv_ 5 (some 90) (bm 22 62) ?_
          refine pv_ 6 (some 91) (bm 22 126) ?_
          refine pv_ 7 (some 92) (bm 22 254) ?_
          refine pure_ (i := 8) (N := some 93) (v := undef) (a' := ?_) (bm 22 510) rfl rfl (any_of HT_.out (by kernel_rfl)) (fun _ _ _ h => h) (Or.inr ⟨by rfl, rfl⟩) ?_ ?_
          rotate_left; (simp only [Act.put, List.setIfInBounds_toArray, List.set_cons_zero, List.set_cons_succ, i64_w, i32_w]; rfl)
          refine pure_ (i := 9) (N := some 94) (v := undef) (a' := ?_) (bm 22 1022) rfl rfl (any_of HT_.out (by kernel_rfl)) (fun _ _ _ h => h) (Or.inr ⟨by rfl, rfl⟩) ?_ ?_
          rotate_left; (simp only [Act.put, List.setIfInBounds_toArray, List.set_cons_zero, List.set_cons_succ, i64_w, i32_w]; rfl)
          refine pure_ (i := 10) (N := some 95) (v := undef) (a' := ?_) (bm 22 2046) rfl rfl (any_of HT_.out (by kernel_rfl)) (fun _ _ _ h => h) (Or.inr ⟨by rfl, rfl⟩) ?_ ?_
          rotate_left; (simp only [Act.put, List.setIfInBounds_toArray, List.set_cons_zero, List.set_cons_succ, i64_w, i32_w]; rfl)
          refine pure_ (i := 11) (N := some 96) (v := undef) (a' := ?_) (bm 22 4094) rfl rfl (any_of HT_.out (by kernel_rfl)) (fun _ _ _ h => h) (Or.inr ⟨by rfl, rfl⟩) ?_ ?_
          rotate_left; (simp only [Act.put, List.setIfInBounds_toArray, List.set_cons_zero, List.set_cons_succ, i64_w, i32_w]; rfl)
          refine pv_ 12 (some 97) (bm 22 8190) ?_
          refine pv_ 13 (some 98) (bm 22 16382) ?_
          refine pure_ (i := 14) (N := some 99) (v := undef) (a' := ?_) (bm 22 32766) rfl rfl (any_of HT_.out (by kernel_rfl)) (fun _ _ _ h => h) (Or.inr ⟨by rfl, rfl⟩) ?_ ?_
          rotate_left; (simp only [Act.put, List.setIfInBounds_toArray, List.set_cons_zero, List.set_cons_succ, i64_w, i32_w]; rfl)
          refine pure_ (i := 15) (N := some 100) (v := undef) (a' := ?_) (bm 22 65534) rfl rfl (any_of HT_.out (by kernel_rfl)) (fun _ _ _ h => h) (Or.inr ⟨by rfl, rfl⟩) ?_ ?_
          rotate_left; (simp only [Act.put, List.setIfInBounds_toArray, List.set_cons_zero, List.set_cons_succ, i64_w, i32_w]; rfl)
          refine pure_ (i := 16) (N := some 101) (v := undef) (a' := ?_) (bm 22 131070) rfl rfl (any_of HT_.out (by kernel_rfl)) (fun _ _ _ h => h) (Or.inr ⟨by rfl, rfl⟩) ?_ ?_
          rotate_left; (simp only [Act.put, List.setIfInBounds_toArray, List.set_cons_zero, List.set_cons_succ, i64_w, i32_w]; rfl)
          refine pure_ (i := 17) (N := some 102) (v := undef) (a' := ?_) (bm 22 262142) rfl rfl (any_of HT_.out (by kernel_rfl)) (fun _ _ _ h => h) (Or.inr ⟨by rfl, rfl⟩) ?_ ?_
          rotate_left; (simp only [Act.put, List.setIfInBounds_toArray, List.set_cons_zero, List.set_cons_succ, i64_w, i32_w]; rfl)
          refine pv_ 18 (some 103) (bm 22 524286) ?_
          refine tv_ 0 (some 85) (bm 22 524287) hHeld ?_
          refine one_ (i := 19) (N := none) (bm 22 1048575) rfl rfl (one_of HT_.out (by kernel_rfl)) (by decide) (fun K hK => ?_)
          have hs119 : w118.cell? ⟨gb170, 0, none⟩ = some (.int .i64 0) := (blk_cell BK170.out 0).trans rfl
          have hfs119 := blk_frozen BK170.out 0
          have hns119_1 := NB171_170.out
          have hms119_1 := NB170_171.out
          have hs120 : w118.cell? ⟨gb170, 1, none⟩ = some (.string (⟨#[]⟩ : ByteArray)) := (blk_cell BK170.out 1).trans rfl
          have hfs120 := blk_frozen BK170.out 1
          have hns120_1 := NB171_170.out
          have hms120_1 := NB170_171.out
          have hs121 : w118.cell? ⟨gb170, 2, none⟩ = some (.int .i64 0) := (blk_cell BK170.out 2).trans rfl
          have hfs121 := blk_frozen BK170.out 2
          have hns121_1 := NB171_170.out
          have hms121_1 := NB170_171.out
          have hs122 : w118.cell? ⟨gb170, 3, none⟩ = some (.int .i64 0) := (blk_cell BK170.out 3).trans rfl
          have hfs122 := blk_frozen BK170.out 3
          have hns122_1 := NB171_170.out
          have hms122_1 := NB170_171.out
          refine skip_ (w1 := ?_) (by rfl) rfl ?_ ?_
          rotate_left; (go_simp; rfl)
          refine hK.out _ _ ⟨((cell_far (p := ⟨gb170, _, none⟩) NB171_170.out _).trans (((cell_far (p := ⟨gb170, _, none⟩) NB171_170.out _).trans (((cell_far (p := ⟨gb170, _, none⟩) NB171_170.out _).trans (((cell_far (p := ⟨gb170, _, none⟩) NB171_170.out _).trans (hHeld.1)))))))), ((cell_far (p := ⟨gb170, _, none⟩) NB171_170.out _).trans (((cell_far (p := ⟨gb170, _, none⟩) NB171_170.out _).trans (((cell_far (p := ⟨gb170, _, none⟩) NB171_170.out _).trans (((cell_far (p := ⟨gb170, _, none⟩) NB171_170.out _).trans (hHeld.2.1)))))))), ((cell_far (p := ⟨gb170, _, none⟩) NB171_170.out _).trans (((cell_far (p := ⟨gb170, _, none⟩) NB171_170.out _).trans (((cell_far (p := ⟨gb170, _, none⟩) NB171_170.out _).trans (((cell_far (p := ⟨gb170, _, none⟩) NB171_170.out _).trans (hHeld.2.2.1)))))))), ((cell_far (p := ⟨gb170, _, none⟩) NB171_170.out _).trans (((cell_far (p := ⟨gb170, _, none⟩) NB171_170.out _).trans (((cell_far (p := ⟨gb170, _, none⟩) NB171_170.out _).trans (((cell_far (p := ⟨gb170, _, none⟩) NB171_170.out _).trans (hHeld.2.2.2))))))))⟩ (fun hHeld => ?_)
          clear hK K
          refine pv_ 20 (some 5) (bm 22 2097151) ?_
          refine pv_ 21 (some 6) (bm 22 4194303) ?_
          refine done_ (done_of HT_.out (by kernel_rfl)) ?_
          try go_wp2
          refine bodyPost_ret (results_ctt rfl _ _ gb170 29 #[.int .i64 3, .string (a0.extract ((ji73) : Int).toNat (t180 : Int).toNat), .int .i64 0, .int .i64 a1] (0, 0) _ rfl (by refine tp_ #[.int .i64 3, .string (a0.extract ((ji73) : Int).toNat (t180 : Int).toNat), .int .i64 0, .int .i64 0] 3 ?_; refine tp_ #[.int .i64 3, .string (a0.extract ((ji73) : Int).toNat (t180 : Int).toNat), .int .i64 0, .int .i64 0] 2 ?_; refine tp_ #[.int .i64 3, .string (⟨#[]⟩ : ByteArray), .int .i64 0, .int .i64 0] 1 ?_; refine tp_ #[.int .i64 0, .string (⟨#[]⟩ : ByteArray), .int .i64 0, .int .i64 0] 0 ?_; refine tn_ ?_; exact BK170.out) Tryd.underlying29 rfl (by kernel_rfl)) rfl ?_
          exact ⟨by first | rfl | (simp [errW_none, errW_some] <;> rfl) | (simp only [← hji73]; first | rfl | (simp [errW_none, errW_some] <;> rfl)) | (simp [*, errW_none, errW_some] <;> rfl), tf6d_⟩
        ·
         rw [if_neg c76] at H
         exact absurd H (by simp)
       ·
        rw [if_neg c75] at H
        exact absurd H (by simp)
      ·
       rw [if_neg c74] at H
       exact absurd H (by simp)
     ·
      rw [if_neg c71] at H
      have c71b0 : ((bt a0 a1) == 34) = false := beq_eq_false_iff_ne.mpr c71
      have c71b1 : ((bt a0 a1) != 34) = true := bne_iff_ne.mpr c71
      have c123b0 := eq_true (of_decide_eq_true (by first | (with_reducible assumption) | assumption) : 0 ≤ a1)
      by_cases c124 : a1 ≤ (wrap64 (a1 + 1))
      ·
       rw [if_pos c124] at H
       have c124b0 := eq_true c124
       have c124b1 : decide (a1 ≤ (wrap64 (a1 + 1))) = true := decide_eq_true c124
       by_cases c125 : (wrap64 (a1 + 1)) ≤ (a0.size : Int)
       ·
        rw [if_pos c125] at H
        have c125b0 := eq_true c125
        have c125b1 : decide ((wrap64 (a1 + 1)) ≤ (a0.size : Int)) = true := decide_eq_true c125
        have c126b0 := eq_true (of_decide_eq_true (by first | (with_reducible assumption) | assumption) : 0 ≤ a1)
        by_cases c127 : a1 ≤ (a0.size : Int)
        ·
         rw [if_pos c127] at H
         have c127b0 := eq_true c127
         have c127b1 : decide (a1 ≤ (a0.size : Int)) = true := decide_eq_true c127
         clear c127
         replace H := Option.bind_eq_some_iff.mp H
         obtain ⟨t181, A1280, H⟩ := H
         have A128 := Aside0.mk A1280
         clear A1280
         by_cases c129 : t181 = true
         ·
          subst c129
          rw [if_pos rfl] at H
          have H1 := H
          clear H
          have H := H1
          clear H1
          by_cases c130 : 0 ≤ 1
          ·
           rw [if_pos c130] at H
           have c130b0 := eq_true c130
           have c130b1 : decide (0 ≤ 1) = true := decide_eq_true c130
           clear c130
           by_cases c131 : 1 ≤ 2
           ·
            rw [if_pos c131] at H
            have c131b0 := eq_true c131
            have c131b1 : decide (1 ≤ 2) = true := decide_eq_true c131
            clear c131
            replace H := Option.bind_eq_some_iff.mp H
            obtain ⟨t182, A1320, H⟩ := H
            have A132 := Aside0.mk A1320
            clear A1320
            simp only [Option.some.injEq, Prod.mk.injEq] at H
            obtain ⟨rfl, rfl, rfl, rfl, rfl, rfl⟩ := H
            go_enter Tryd.func16, Tryd.ntmps16
            try go_wp2_with (first | ((with_reducible refine gate_dst (N := 4) rfl ?_); (try (refine gate_guard (by rfl) ?_; dsimp only)); refine be_ 4 #[.int .i64 0, .string (⟨#[]⟩ : ByteArray), .int .i64 0, .int .i64 0] 29 ?_; intro gb170 hg w133 hbox hb; have n0_ := Aside0.mk (below_step (t0c4_) hb); have n1_ := Aside0.mk (hbox); have n2_ := Aside0.mk ((by rw [hg]; exact (below_size (t0c4_)) : w.heap.size ≤ gb170)); have n3_ := Aside0.mk ((by rw [hg]; exact (below_size (t0c4_)) : w.heap.size ≤ gb170)); clear HB; have HB := n0_; have BK170 := n1_; have GW170 := n2_; have GE170 := n3_; clear n0_ n1_ n2_ n3_; clear hb hbox hg) | ((with_reducible refine gate_dst (N := 7) rfl ?_); (try (refine gate_guard (by rfl) ?_; dsimp only)); refine be_ 7 #[.int .i64 0, .string (⟨#[]⟩ : ByteArray), .int .i64 0, .int .i64 0] 29 ?_; intro gb171 hg w134 hbox hb; have n0_ := Aside0.mk (blk_below (g := gb170) (o := .cells #[.int .i64 0, .string (⟨#[]⟩ : ByteArray), .int .i64 0, .int .i64 0] 29 (0, 0)) (tn_ BK170.out) hb); have n1_ := Aside0.mk (below_step (tf6d_) hb); have n2_ := Aside0.mk (hbox); have n3_ := Aside0.mk ((by rw [hg]; exact (below_size (tf6d_)) : w.heap.size ≤ gb171)); have n4_ := Aside0.mk ((by rw [hg]; exact (below_size (tf6d_)) : w.heap.size ≤ gb171)); have n5_ := Aside0.mk ((by rw [hg]; exact Nat.ne_of_lt (blk_lt (g := gb170) (o := .cells #[.int .i64 0, .string (⟨#[]⟩ : ByteArray), .int .i64 0, .int .i64 0] 29 (0, 0)) (tn_ BK170.out)) : gb170 ≠ gb171)); have n6_ := Aside0.mk ((by rw [hg]; exact Nat.ne_of_gt (blk_lt (g := gb170) (o := .cells #[.int .i64 0, .string (⟨#[]⟩ : ByteArray), .int .i64 0, .int .i64 0] 29 (0, 0)) (tn_ BK170.out)) : gb171 ≠ gb170)); clear BK170; clear HB; have BK170 := n0_; have HB := n1_; have BK171 := n2_; have GW171 := n3_; have GE171 := n4_; have NB170_171 := n5_; have NB171_170 := n6_; clear n0_ n1_ n2_ n3_ n4_ n5_ n6_; clear hb hbox hg; have hnb135 := NB171_170.out; have hnc135 := NB170_171.out; have hcz136_0 : w134.cell? ⟨gb171, 0, none⟩ = some (.int .i64 0) := (blk_cell BK171.out 0).trans rfl; have hcz136_1 : w134.cell? ⟨gb171, 1, none⟩ = some (.string (⟨#[]⟩ : ByteArray)) := (blk_cell BK171.out 1).trans rfl; have hcz136_2 : w134.cell? ⟨gb171, 2, none⟩ = some (.int .i64 0) := (blk_cell BK171.out 2).trans rfl; have hcz136_3 : w134.cell? ⟨gb171, 3, none⟩ = some (.int .i64 0) := (blk_cell BK171.out 3).trans rfl; have hfz136_0 := blk_frozen BK171.out 0; have hfz136_1 := blk_frozen BK171.out 1; have hfz136_2 := blk_frozen BK171.out 2; have hfz136_3 := blk_frozen BK171.out 3; have p5 : 0 ≤ (a1 : Int) := of_decide_eq_true (by first | (with_reducible assumption) | assumption); have q5 : a1 < (a0.size : Int) := of_decide_eq_true (by first | (with_reducible assumption) | assumption); have hx5 := bt_at a0 a1; replace p5 := eq_true p5; replace q5 := eq_true q5) | ((with_reducible refine gate_callee (f := 23) rfl ?_); refine gl_ (some 21) Tryd.func23 #[.int .u8 (bt a0 a1)] ?_; (with_reducible refine (impl_letter.calls (bt a0 a1) false _ A6.out).mono ?_); rintro e w' ⟨rfl, ⟨nd, rfl⟩⟩; refine ⟨_, rfl, ?_⟩) | ((with_reducible refine gate_callee (f := 26) rfl ?_); refine gl_ (some 39) Tryd.func26 #[.int .u8 (bt a0 a1)] ?_; (with_reducible refine (impl_digit.calls (bt a0 a1) false _ A22.out).mono ?_); rintro e w' ⟨rfl, ⟨nd, rfl⟩⟩; refine ⟨_, rfl, ?_⟩))
            (try simp only [setCell_drewN_])
            have n0_ : Aside0 (((((w134.setCell ⟨gb171, 0, none⟩ (.int .i64 0)).setCell ⟨gb171, 1, none⟩ (.string (⟨#[]⟩ : ByteArray))).setCell ⟨gb171, 2, none⟩ (.int .i64 0)).setCell ⟨gb171, 3, none⟩ (.int .i64 a1)).heap[gb170]? = some (.cells #[.int .i64 0, .string (⟨#[]⟩ : ByteArray), .int .i64 0, .int .i64 0] 29 (0, 0))) := ⟨by refine tf_ NB170_171.out ?_; refine tf_ NB170_171.out ?_; refine tf_ NB170_171.out ?_; refine tf_ NB170_171.out ?_; refine tn_ ?_; exact BK170.out⟩
            have n1_ : Aside0 (((((w134.setCell ⟨gb171, 0, none⟩ (.int .i64 0)).setCell ⟨gb171, 1, none⟩ (.string (⟨#[]⟩ : ByteArray))).setCell ⟨gb171, 2, none⟩ (.int .i64 0)).setCell ⟨gb171, 3, none⟩ (.int .i64 a1)).heap[gb171]? = some (.cells #[.int .i64 0, .string (⟨#[]⟩ : ByteArray), .int .i64 0, .int .i64 a1] 29 (0, 0))) := ⟨by refine tp_ #[.int .i64 0, .string (⟨#[]⟩ : ByteArray), .int .i64 0, .int .i64 0] 3 ?_; refine tp_ #[.int .i64 0, .string (⟨#[]⟩ : ByteArray), .int .i64 0, .int .i64 0] 2 ?_; refine tp_ #[.int .i64 0, .string (⟨#[]⟩ : ByteArray), .int .i64 0, .int .i64 0] 1 ?_; refine tp_ #[.int .i64 0, .string (⟨#[]⟩ : ByteArray), .int .i64 0, .int .i64 0] 0 ?_; refine tn_ ?_; exact BK171.out⟩
            have n2_ : Aside0 (Below w.heap.size w ((((w134.setCell ⟨gb171, 0, none⟩ (.int .i64 0)).setCell ⟨gb171, 1, none⟩ (.string (⟨#[]⟩ : ByteArray))).setCell ⟨gb171, 2, none⟩ (.int .i64 0)).setCell ⟨gb171, 3, none⟩ (.int .i64 a1))) := ⟨tf6d_⟩
            (try clear BK170)
            (try clear BK171)
            (try clear HB)
            generalize ((((w134.setCell ⟨gb171, 0, none⟩ (.int .i64 0)).setCell ⟨gb171, 1, none⟩ (.string (⟨#[]⟩ : ByteArray))).setCell ⟨gb171, 2, none⟩ (.int .i64 0)).setCell ⟨gb171, 3, none⟩ (.int .i64 a1)) = w137 at n0_ n1_ n2_ ⊢
            have BK170 := n0_
            have BK171 := n1_
            have HB := n2_
            clear n0_ n1_ n2_
            (try (rw [drewN_self w137]; generalize hq_ : World.drewN w137 _ = w137; have n0_ : Aside0 (w137.heap[gb170]? = some (.cells #[.int .i64 0, .string (⟨#[]⟩ : ByteArray), .int .i64 0, .int .i64 0] 29 (0, 0))) := ⟨by rw [← hq_]; exact (tn_ BK170.out)⟩; have n1_ : Aside0 (w137.heap[gb171]? = some (.cells #[.int .i64 0, .string (⟨#[]⟩ : ByteArray), .int .i64 0, .int .i64 a1] 29 (0, 0))) := ⟨by rw [← hq_]; exact (tn_ BK171.out)⟩; have n2_ : Aside0 (Below w.heap.size w w137) := ⟨by rw [← hq_]; exact (tf6d_)⟩; clear BK170 BK171 HB hq_; have BK170 := n0_; have BK171 := n1_; have HB := n2_; clear n0_ n1_ n2_))
            have n0_ := Aside0.mk (blk_drew BK170.out)
            have n1_ := Aside0.mk (blk_drew BK171.out)
            have n2_ := Aside0.mk (below_drew1 HB.out)
            clear BK170
            clear BK171
            clear HB
            have BK170 := n0_
            have BK171 := n1_
            have HB := n2_
            clear n0_ n1_ n2_
            refine start_ (n := 9) (S := fun w' => True) (ds := []) (Array.replicate 9 false) (by kernel_rfl) rfl rfl trivial (fun hHeld => ?_); refine with_tabW impl_tokenAt.tab16 impl_tokenAt.bits16 (fun HT_ HW_ => ?_)
            generalize w137.drew = w138 at BK170 BK171 HB hHeld ⊢
            refine pv_ 0 (some 104) (bm 9 1) ?_
            refine pv_ 1 (some 105) (bm 9 3) ?_
            refine pv_ 2 (some 106) (bm 9 7) ?_
            refine pv_ 3 (some 107) (bm 9 15) ?_
            refine pv_ 4 (some 108) (bm 9 31) ?_
            refine pv_ 5 (some 109) (bm 9 63) ?_
            refine one_ (i := 6) (N := none) (bm 9 127) rfl rfl (one_of HT_.out (by kernel_rfl)) (by decide) (fun K hK => ?_)
            have hs139 : w138.cell? ⟨gb171, 0, none⟩ = some (.int .i64 0) := (blk_cell BK171.out 0).trans rfl
            have hfs139 := blk_frozen BK171.out 0
            have hns139_0 := NB170_171.out
            have hms139_0 := NB171_170.out
            refine skip_ (w1 := ?_) (by rfl) rfl ?_ ?_
            rotate_left; (go_simp; rfl)
            refine hK.out _ _ trivial (fun hHeld => ?_)
            clear hK K
            refine pv_ 7 (some 110) (bm 9 255) ?_
            refine one_ (i := 8) (N := none) (bm 9 511) rfl rfl (one_of HT_.out (by kernel_rfl)) (by decide) (fun K hK => ?_)
            have hs140 : w138.cell? ⟨gb171, 1, none⟩ = some (.string (⟨#[]⟩ : ByteArray)) := (blk_cell BK171.out 1).trans rfl
            have hfs140 := blk_frozen BK171.out 1
            have hns140_0 := NB170_171.out
            have hms140_0 := NB171_170.out
            refine skip_ (w1 := ?_) (by rfl) rfl ?_ ?_
            rotate_left; (go_simp; rfl)
            refine hK.out _ _ trivial (fun hHeld => ?_)
            clear hK K
            refine done_ (done_of HT_.out (by kernel_rfl)) ?_
            try go_wp2_with (first | (go_at_call 30; (with_reducible refine (strings_HasPrefix.calls (a0.extract (a1 : Int).toNat a0.size) (⟨#[61, 61]⟩ : ByteArray) true _ A128.out).mono ?_); rintro e w' ⟨rfl, ⟨nd, rfl⟩⟩; have hcz141_0 : w138.cell? ⟨gb171, 0, none⟩ = some (.int .i64 0) := (blk_cell BK171.out 0).trans rfl; have hcz141_1 : w138.cell? ⟨gb171, 1, none⟩ = some (.string (⟨#[]⟩ : ByteArray)) := (blk_cell BK171.out 1).trans rfl; have hcz141_2 : w138.cell? ⟨gb171, 2, none⟩ = some (.int .i64 0) := (blk_cell BK171.out 2).trans rfl; have hcz141_3 : w138.cell? ⟨gb171, 3, none⟩ = some (.int .i64 a1) := (blk_cell BK171.out 3).trans rfl; have hfz141_0 := blk_frozen BK171.out 0; have hfz141_1 := blk_frozen BK171.out 1; have hfz141_2 := blk_frozen BK171.out 2; have hfz141_3 := blk_frozen BK171.out 3) | ((with_reducible refine gate_callee (f := 30) rfl ?_); refine gl_ (some 114) Tryd.func30 #[.string (a0.extract (a1 : Int).toNat a0.size), .string (⟨#[61, 61]⟩ : ByteArray)] ?_; (with_reducible refine (strings_HasPrefix.calls (a0.extract (a1 : Int).toNat a0.size) (⟨#[61, 61]⟩ : ByteArray) true _ A128.out).mono ?_); rintro e w' ⟨rfl, ⟨nd, rfl⟩⟩; refine ⟨_, rfl, ?_⟩; have hcz141_0 : w138.cell? ⟨gb171, 0, none⟩ = some (.int .i64 0) := (blk_cell BK171.out 0).trans rfl; have hcz141_1 : w138.cell? ⟨gb171, 1, none⟩ = some (.string (⟨#[]⟩ : ByteArray)) := (blk_cell BK171.out 1).trans rfl; have hcz141_2 : w138.cell? ⟨gb171, 2, none⟩ = some (.int .i64 0) := (blk_cell BK171.out 2).trans rfl; have hcz141_3 : w138.cell? ⟨gb171, 3, none⟩ = some (.int .i64 a1) := (blk_cell BK171.out 3).trans rfl; have hfz141_0 := blk_frozen BK171.out 0; have hfz141_1 := blk_frozen BK171.out 1; have hfz141_2 := blk_frozen BK171.out 2; have hfz141_3 := blk_frozen BK171.out 3))
            (try simp only [setCell_drewN_])
            have n0_ : Aside0 ((((w138.setCell ⟨gb171, 0, none⟩ (.int .i64 4)).setCell ⟨gb171, 1, none⟩ (.string (a0.extract (a1 : Int).toNat ((wrap64 (a1 + 1)) : Int).toNat))).setCell ⟨gb171, 1, none⟩ (.string (⟨#[61, 61]⟩ : ByteArray))).heap[gb170]? = some (.cells #[.int .i64 0, .string (⟨#[]⟩ : ByteArray), .int .i64 0, .int .i64 0] 29 (0, 0))) := ⟨by refine tf_ NB170_171.out ?_; refine tf_ NB170_171.out ?_; refine tf_ NB170_171.out ?_; refine tn_ ?_; exact BK170.out⟩
            have n1_ : Aside0 ((((w138.setCell ⟨gb171, 0, none⟩ (.int .i64 4)).setCell ⟨gb171, 1, none⟩ (.string (a0.extract (a1 : Int).toNat ((wrap64 (a1 + 1)) : Int).toNat))).setCell ⟨gb171, 1, none⟩ (.string (⟨#[61, 61]⟩ : ByteArray))).heap[gb171]? = some (.cells #[.int .i64 4, .string (⟨#[61, 61]⟩ : ByteArray), .int .i64 0, .int .i64 a1] 29 (0, 0))) := ⟨by refine tp_ #[.int .i64 4, .string (a0.extract (a1 : Int).toNat ((wrap64 (a1 + 1)) : Int).toNat), .int .i64 0, .int .i64 a1] 1 ?_; refine tp_ #[.int .i64 4, .string (⟨#[]⟩ : ByteArray), .int .i64 0, .int .i64 a1] 1 ?_; refine tp_ #[.int .i64 0, .string (⟨#[]⟩ : ByteArray), .int .i64 0, .int .i64 a1] 0 ?_; refine tn_ ?_; exact BK171.out⟩
            have n2_ : Aside0 (Below w.heap.size w (((w138.setCell ⟨gb171, 0, none⟩ (.int .i64 4)).setCell ⟨gb171, 1, none⟩ (.string (a0.extract (a1 : Int).toNat ((wrap64 (a1 + 1)) : Int).toNat))).setCell ⟨gb171, 1, none⟩ (.string (⟨#[61, 61]⟩ : ByteArray)))) := ⟨tf6d_⟩
            (try clear BK170)
            (try clear BK171)
            (try clear HB)
            generalize (((w138.setCell ⟨gb171, 0, none⟩ (.int .i64 4)).setCell ⟨gb171, 1, none⟩ (.string (a0.extract (a1 : Int).toNat ((wrap64 (a1 + 1)) : Int).toNat))).setCell ⟨gb171, 1, none⟩ (.string (⟨#[61, 61]⟩ : ByteArray))) = w142 at n0_ n1_ n2_ ⊢
            have BK170 := n0_
            have BK171 := n1_
            have HB := n2_
            clear n0_ n1_ n2_
            (try (rw [drewN_self w142]; generalize hq_ : World.drewN w142 _ = w142; have n0_ : Aside0 (w142.heap[gb170]? = some (.cells #[.int .i64 0, .string (⟨#[]⟩ : ByteArray), .int .i64 0, .int .i64 0] 29 (0, 0))) := ⟨by rw [← hq_]; exact (tn_ BK170.out)⟩; have n1_ : Aside0 (w142.heap[gb171]? = some (.cells #[.int .i64 4, .string (⟨#[61, 61]⟩ : ByteArray), .int .i64 0, .int .i64 a1] 29 (0, 0))) := ⟨by rw [← hq_]; exact (tn_ BK171.out)⟩; have n2_ : Aside0 (Below w.heap.size w w142) := ⟨by rw [← hq_]; exact (tf6d_)⟩; clear BK170 BK171 HB hq_; have BK170 := n0_; have BK171 := n1_; have HB := n2_; clear n0_ n1_ n2_))
            have n0_ := Aside0.mk (blk_drew BK170.out)
            have n1_ := Aside0.mk (blk_drew BK171.out)
            have n2_ := Aside0.mk (below_drew1 HB.out)
            clear BK170
            clear BK171
            clear HB
            have BK170 := n0_
            have BK171 := n1_
            have HB := n2_
            clear n0_ n1_ n2_
            refine start_ (n := 13) (S := fun w' => w'.cell? ⟨gb171, 0, none⟩ = some (.int .i64 4) ∧ w'.cell? ⟨gb171, 1, none⟩ = some (.string (⟨#[61, 61]⟩ : ByteArray)) ∧ w'.cell? ⟨gb171, 2, none⟩ = some (.int .i64 0) ∧ w'.cell? ⟨gb171, 3, none⟩ = some (.int .i64 a1)) (ds := []) (Array.replicate 13 false) (by kernel_rfl) rfl rfl ⟨(blk_cell BK171.out 0).trans rfl, (blk_cell BK171.out 1).trans rfl, (blk_cell BK171.out 2).trans rfl, (blk_cell BK171.out 3).trans rfl⟩ (fun hHeld => ?_); refine with_tabW impl_tokenAt.tab19 impl_tokenAt.bits19 (fun HT_ HW_ => ?_)
            generalize w142.drew = w143 at BK170 BK171 HB hHeld ⊢
            refine pv_ 1 (some 117) (bm 13 2) ?_
            refine pv_ 2 (some 118) (bm 13 6) ?_
            refine pv_ 6 (some 122) (bm 13 70) ?_
            refine tv_ 0 (some 116) (bm 13 71) hHeld ?_
            refine tv_ 3 (some 119) (bm 13 79) hHeld ?_
            refine pv_ 4 (some 120) (bm 13 95) ?_
            refine pv_ 5 (some 121) (bm 13 127) ?_
            refine tv_ 7 (some 123) (bm 13 255) hHeld ?_
            refine pv_ 8 (some 124) (bm 13 511) ?_
            refine one_ (i := 9) (N := some 125) (bm 13 1023) rfl rfl (one_of HT_.out (by kernel_rfl)) (by decide) (fun K hK => ?_)
            refine goes_ Tryd.func31 (by kernel_rfl) rfl #[.string (⟨#[40, 41, 123, 125, 44, 59, 58, 46, 61, 43, 45, 42, 60, 33]⟩ : ByteArray), .string ((⟨#[61, 61]⟩ : ByteArray).extract 0 1)] (by rfl) rfl rfl (by (try simp only [List.map_toArray, List.map_cons, List.map_nil]); first | done | rfl | (simp only [List.length_drop, List.length_take]; rfl)) ?_
            with_reducible refine (strings_Contains.calls (⟨#[40, 41, 123, 125, 44, 59, 58, 46, 61, 43, 45, 42, 60, 33]⟩ : ByteArray) ((⟨#[61, 61]⟩ : ByteArray).extract 0 1) t182 _ A132.out).mono ?_
            rintro e w' ⟨rfl, ⟨nd, rfl⟩⟩
            refine ⟨_, rfl, ?_⟩
            refine hK.out _ _ ⟨(blk_cell BK171.out 0).trans rfl, (blk_cell BK171.out 1).trans rfl, (blk_cell BK171.out 2).trans rfl, (blk_cell BK171.out 3).trans rfl⟩ (fun hHeld => ?_)
            clear hK K
            refine norm_ (a' := ?_) ?_ ?_
            rotate_left
            ·
             show Act.put _ (some 125) _ = _
             simp only [Act.put, List.setIfInBounds_toArray, List.set_cons_zero, List.set_cons_succ, i64_w, i32_w]
             rfl
            refine one_ (i := 10) (N := none) (bm 13 2047) rfl rfl (one_of HT_.out (by kernel_rfl)) (by decide) (fun K hK => ?_)
            have hs144 : w143.cell? ⟨gb170, 0, none⟩ = some (.int .i64 0) := (blk_cell BK170.out 0).trans rfl
            have hfs144 := blk_frozen BK170.out 0
            have hns144_1 := NB171_170.out
            have hms144_1 := NB170_171.out
            have hs145 : w143.cell? ⟨gb170, 1, none⟩ = some (.string (⟨#[]⟩ : ByteArray)) := (blk_cell BK170.out 1).trans rfl
            have hfs145 := blk_frozen BK170.out 1
            have hns145_1 := NB171_170.out
            have hms145_1 := NB170_171.out
            have hs146 : w143.cell? ⟨gb170, 2, none⟩ = some (.int .i64 0) := (blk_cell BK170.out 2).trans rfl
            have hfs146 := blk_frozen BK170.out 2
            have hns146_1 := NB171_170.out
            have hms146_1 := NB170_171.out
            have hs147 : w143.cell? ⟨gb170, 3, none⟩ = some (.int .i64 0) := (blk_cell BK170.out 3).trans rfl
            have hfs147 := blk_frozen BK170.out 3
            have hns147_1 := NB171_170.out
            have hms147_1 := NB170_171.out
            refine skip_ (w1 := ?_) (by rfl) rfl ?_ ?_
            rotate_left; (go_simp; rfl)
            refine hK.out _ _ ⟨((cell_far (p := ⟨gb170, _, none⟩) NB171_170.out _).trans (((cell_far (p := ⟨gb170, _, none⟩) NB171_170.out _).trans (((cell_far (p := ⟨gb170, _, none⟩) NB171_170.out _).trans (((cell_far (p := ⟨gb170, _, none⟩) NB171_170.out _).trans (hHeld.1)))))))), ((cell_far (p := ⟨gb170, _, none⟩) NB171_170.out _).trans (((cell_far (p := ⟨gb170, _, none⟩) NB171_170.out _).trans (((cell_far (p := ⟨gb170, _, none⟩) NB171_170.out _).trans (((cell_far (p := ⟨gb170, _, none⟩) NB171_170.out _).trans (hHeld.2.1)))))))), ((cell_far (p := ⟨gb170, _, none⟩) NB171_170.out _).trans (((cell_far (p := ⟨gb170, _, none⟩) NB171_170.out _).trans (((cell_far (p := ⟨gb170, _, none⟩) NB171_170.out _).trans (((cell_far (p := ⟨gb170, _, none⟩) NB171_170.out _).trans (hHeld.2.2.1)))))))), ((cell_far (p := ⟨gb170, _, none⟩) NB171_170.out _).trans (((cell_far (p := ⟨gb170, _, none⟩) NB171_170.out _).trans (((cell_far (p := ⟨gb170, _, none⟩) NB171_170.out _).trans (((cell_far (p := ⟨gb170, _, none⟩) NB171_170.out _).trans (hHeld.2.2.2))))))))⟩ (fun hHeld => ?_)
            clear hK K
            refine pv_ 11 (some 5) (bm 13 4095) ?_
            refine pv_ 12 (some 6) (bm 13 8191) ?_
            refine done_ (done_of HT_.out (by kernel_rfl)) ?_
            try go_wp2
            refine bodyPost_ret (results_ctt rfl _ _ gb170 29 #[.int .i64 4, .string (⟨#[61, 61]⟩ : ByteArray), .int .i64 0, .int .i64 a1] (0, 0) _ rfl (by refine tp_ #[.int .i64 4, .string (⟨#[61, 61]⟩ : ByteArray), .int .i64 0, .int .i64 0] 3 ?_; refine tp_ #[.int .i64 4, .string (⟨#[61, 61]⟩ : ByteArray), .int .i64 0, .int .i64 0] 2 ?_; refine tp_ #[.int .i64 4, .string (⟨#[]⟩ : ByteArray), .int .i64 0, .int .i64 0] 1 ?_; refine tp_ #[.int .i64 0, .string (⟨#[]⟩ : ByteArray), .int .i64 0, .int .i64 0] 0 ?_; refine tn_ ?_; exact BK170.out) Tryd.underlying29 rfl (by kernel_rfl)) rfl ?_
            exact ⟨by first | rfl | (simp [errW_none, errW_some] <;> rfl) | (simp [*, errW_none, errW_some] <;> rfl), tf6d_⟩
           ·
            rw [if_neg c131] at H
            exact absurd H (by simp)
          ·
           rw [if_neg c130] at H
           exact absurd H (by simp)
         ·
          replace c129 := Bool.eq_false_iff.mpr c129
          subst c129
          rw [if_neg (show ¬ (false = true) by decide)] at H
          have H1 := H
          clear H
          have H := H1
          clear H1
          by_cases c148 : 0 ≤ 1
          ·
           rw [if_pos c148] at H
           have c148b0 := eq_true c148
           have c148b1 : decide (0 ≤ 1) = true := decide_eq_true c148
           clear c148
           by_cases c149 : 1 ≤ ((a0.extract (a1 : Int).toNat ((wrap64 (a1 + 1)) : Int).toNat).size : Int)
           ·
            rw [if_pos c149] at H
            have c149b0 := eq_true c149
            have c149b1 : decide (1 ≤ ((a0.extract (a1 : Int).toNat ((wrap64 (a1 + 1)) : Int).toNat).size : Int)) = true := decide_eq_true c149
            try have c149b7 : (1 ≤ ((((wrap64 (a1 + 1)) : Int).toNat - (a1 : Int).toNat : Nat) : Int)) = True := eq_true (by have h_ := c149; rw [ByteArray.size_extract] at h_; omega)
            replace H := Option.bind_eq_some_iff.mp H
            obtain ⟨t183, A1500, H⟩ := H
            have A150 := Aside0.mk A1500
            clear A1500
            simp only [Option.some.injEq, Prod.mk.injEq] at H
            obtain ⟨rfl, rfl, rfl, rfl, rfl, rfl⟩ := H
            go_enter Tryd.func16, Tryd.ntmps16
            try go_wp2_with (first | ((with_reducible refine gate_dst (N := 4) rfl ?_); (try (refine gate_guard (by rfl) ?_; dsimp only)); refine be_ 4 #[.int .i64 0, .string (⟨#[]⟩ : ByteArray), .int .i64 0, .int .i64 0] 29 ?_; intro gb170 hg w151 hbox hb; have n0_ := Aside0.mk (below_step (t0c4_) hb); have n1_ := Aside0.mk (hbox); have n2_ := Aside0.mk ((by rw [hg]; exact (below_size (t0c4_)) : w.heap.size ≤ gb170)); have n3_ := Aside0.mk ((by rw [hg]; exact (below_size (t0c4_)) : w.heap.size ≤ gb170)); clear HB; have HB := n0_; have BK170 := n1_; have GW170 := n2_; have GE170 := n3_; clear n0_ n1_ n2_ n3_; clear hb hbox hg) | ((with_reducible refine gate_dst (N := 7) rfl ?_); (try (refine gate_guard (by rfl) ?_; dsimp only)); refine be_ 7 #[.int .i64 0, .string (⟨#[]⟩ : ByteArray), .int .i64 0, .int .i64 0] 29 ?_; intro gb171 hg w152 hbox hb; have n0_ := Aside0.mk (blk_below (g := gb170) (o := .cells #[.int .i64 0, .string (⟨#[]⟩ : ByteArray), .int .i64 0, .int .i64 0] 29 (0, 0)) (tn_ BK170.out) hb); have n1_ := Aside0.mk (below_step (tf6d_) hb); have n2_ := Aside0.mk (hbox); have n3_ := Aside0.mk ((by rw [hg]; exact (below_size (tf6d_)) : w.heap.size ≤ gb171)); have n4_ := Aside0.mk ((by rw [hg]; exact (below_size (tf6d_)) : w.heap.size ≤ gb171)); have n5_ := Aside0.mk ((by rw [hg]; exact Nat.ne_of_lt (blk_lt (g := gb170) (o := .cells #[.int .i64 0, .string (⟨#[]⟩ : ByteArray), .int .i64 0, .int .i64 0] 29 (0, 0)) (tn_ BK170.out)) : gb170 ≠ gb171)); have n6_ := Aside0.mk ((by rw [hg]; exact Nat.ne_of_gt (blk_lt (g := gb170) (o := .cells #[.int .i64 0, .string (⟨#[]⟩ : ByteArray), .int .i64 0, .int .i64 0] 29 (0, 0)) (tn_ BK170.out)) : gb171 ≠ gb170)); clear BK170; clear HB; have BK170 := n0_; have HB := n1_; have BK171 := n2_; have GW171 := n3_; have GE171 := n4_; have NB170_171 := n5_; have NB171_170 := n6_; clear n0_ n1_ n2_ n3_ n4_ n5_ n6_; clear hb hbox hg; have hnb153 := NB171_170.out; have hnc153 := NB170_171.out; have hcz154_0 : w152.cell? ⟨gb171, 0, none⟩ = some (.int .i64 0) := (blk_cell BK171.out 0).trans rfl; have hcz154_1 : w152.cell? ⟨gb171, 1, none⟩ = some (.string (⟨#[]⟩ : ByteArray)) := (blk_cell BK171.out 1).trans rfl; have hcz154_2 : w152.cell? ⟨gb171, 2, none⟩ = some (.int .i64 0) := (blk_cell BK171.out 2).trans rfl; have hcz154_3 : w152.cell? ⟨gb171, 3, none⟩ = some (.int .i64 0) := (blk_cell BK171.out 3).trans rfl; have hfz154_0 := blk_frozen BK171.out 0; have hfz154_1 := blk_frozen BK171.out 1; have hfz154_2 := blk_frozen BK171.out 2; have hfz154_3 := blk_frozen BK171.out 3; have p5 : 0 ≤ (a1 : Int) := of_decide_eq_true (by first | (with_reducible assumption) | assumption); have q5 : a1 < (a0.size : Int) := of_decide_eq_true (by first | (with_reducible assumption) | assumption); have hx5 := bt_at a0 a1; replace p5 := eq_true p5; replace q5 := eq_true q5) | ((with_reducible refine gate_callee (f := 23) rfl ?_); refine gl_ (some 21) Tryd.func23 #[.int .u8 (bt a0 a1)] ?_; (with_reducible refine (impl_letter.calls (bt a0 a1) false _ A6.out).mono ?_); rintro e w' ⟨rfl, ⟨nd, rfl⟩⟩; refine ⟨_, rfl, ?_⟩) | ((with_reducible refine gate_callee (f := 26) rfl ?_); refine gl_ (some 39) Tryd.func26 #[.int .u8 (bt a0 a1)] ?_; (with_reducible refine (impl_digit.calls (bt a0 a1) false _ A22.out).mono ?_); rintro e w' ⟨rfl, ⟨nd, rfl⟩⟩; refine ⟨_, rfl, ?_⟩))
            (try simp only [setCell_drewN_])
            have n0_ : Aside0 (((((w152.setCell ⟨gb171, 0, none⟩ (.int .i64 0)).setCell ⟨gb171, 1, none⟩ (.string (⟨#[]⟩ : ByteArray))).setCell ⟨gb171, 2, none⟩ (.int .i64 0)).setCell ⟨gb171, 3, none⟩ (.int .i64 a1)).heap[gb170]? = some (.cells #[.int .i64 0, .string (⟨#[]⟩ : ByteArray), .int .i64 0, .int .i64 0] 29 (0, 0))) := ⟨by refine tf_ NB170_171.out ?_; refine tf_ NB170_171.out ?_; refine tf_ NB170_171.out ?_; refine tf_ NB170_171.out ?_; refine tn_ ?_; exact BK170.out⟩
            have n1_ : Aside0 (((((w152.setCell ⟨gb171, 0, none⟩ (.int .i64 0)).setCell ⟨gb171, 1, none⟩ (.string (⟨#[]⟩ : ByteArray))).setCell ⟨gb171, 2, none⟩ (.int .i64 0)).setCell ⟨gb171, 3, none⟩ (.int .i64 a1)).heap[gb171]? = some (.cells #[.int .i64 0, .string (⟨#[]⟩ : ByteArray), .int .i64 0, .int .i64 a1] 29 (0, 0))) := ⟨by refine tp_ #[.int .i64 0, .string (⟨#[]⟩ : ByteArray), .int .i64 0, .int .i64 0] 3 ?_; refine tp_ #[.int .i64 0, .string (⟨#[]⟩ : ByteArray), .int .i64 0, .int .i64 0] 2 ?_; refine tp_ #[.int .i64 0, .string (⟨#[]⟩ : ByteArray), .int .i64 0, .int .i64 0] 1 ?_; refine tp_ #[.int .i64 0, .string (⟨#[]⟩ : ByteArray), .int .i64 0, .int .i64 0] 0 ?_; refine tn_ ?_; exact BK171.out⟩
            have n2_ : Aside0 (Below w.heap.size w ((((w152.setCell ⟨gb171, 0, none⟩ (.int .i64 0)).setCell ⟨gb171, 1, none⟩ (.string (⟨#[]⟩ : ByteArray))).setCell ⟨gb171, 2, none⟩ (.int .i64 0)).setCell ⟨gb171, 3, none⟩ (.int .i64 a1))) := ⟨tf6d_⟩
            (try clear BK170)
            (try clear BK171)
            (try clear HB)
            generalize ((((w152.setCell ⟨gb171, 0, none⟩ (.int .i64 0)).setCell ⟨gb171, 1, none⟩ (.string (⟨#[]⟩ : ByteArray))).setCell ⟨gb171, 2, none⟩ (.int .i64 0)).setCell ⟨gb171, 3, none⟩ (.int .i64 a1)) = w155 at n0_ n1_ n2_ ⊢
            have BK170 := n0_
            have BK171 := n1_
            have HB := n2_
            clear n0_ n1_ n2_
            (try (rw [drewN_self w155]; generalize hq_ : World.drewN w155 _ = w155; have n0_ : Aside0 (w155.heap[gb170]? = some (.cells #[.int .i64 0, .string (⟨#[]⟩ : ByteArray), .int .i64 0, .int .i64 0] 29 (0, 0))) := ⟨by rw [← hq_]; exact (tn_ BK170.out)⟩; have n1_ : Aside0 (w155.heap[gb171]? = some (.cells #[.int .i64 0, .string (⟨#[]⟩ : ByteArray), .int .i64 0, .int .i64 a1] 29 (0, 0))) := ⟨by rw [← hq_]; exact (tn_ BK171.out)⟩; have n2_ : Aside0 (Below w.heap.size w w155) := ⟨by rw [← hq_]; exact (tf6d_)⟩; clear BK170 BK171 HB hq_; have BK170 := n0_; have BK171 := n1_; have HB := n2_; clear n0_ n1_ n2_))
            have n0_ := Aside0.mk (blk_drew BK170.out)
            have n1_ := Aside0.mk (blk_drew BK171.out)
            have n2_ := Aside0.mk (below_drew1 HB.out)
            clear BK170
            clear BK171
            clear HB
            have BK170 := n0_
            have BK171 := n1_
            have HB := n2_
            clear n0_ n1_ n2_
            refine start_ (n := 9) (S := fun w' => True) (ds := []) (Array.replicate 9 false) (by kernel_rfl) rfl rfl trivial (fun hHeld => ?_); refine with_tabW impl_tokenAt.tab16 impl_tokenAt.bits16 (fun HT_ HW_ => ?_)
            generalize w155.drew = w156 at BK170 BK171 HB hHeld ⊢
            refine pv_ 0 (some 104) (bm 9 1) ?_
            refine pv_ 1 (some 105) (bm 9 3) ?_
            refine pv_ 2 (some 106) (bm 9 7) ?_
            refine pv_ 3 (some 107) (bm 9 15) ?_
            refine pv_ 4 (some 108) (bm 9 31) ?_
            refine pv_ 5 (some 109) (bm 9 63) ?_
            refine one_ (i := 6) (N := none) (bm 9 127) rfl rfl (one_of HT_.out (by kernel_rfl)) (by decide) (fun K hK => ?_)
            have hs157 : w156.cell? ⟨gb171, 0, none⟩ = some (.int .i64 0) := (blk_cell BK171.out 0).trans rfl
            have hfs157 := blk_frozen BK171.out 0
            have hns157_0 := NB170_171.out
            have hms157_0 := NB171_170.out
            refine skip_ (w1 := ?_) (by rfl) rfl ?_ ?_
            rotate_left; (go_simp; rfl)
            refine hK.out _ _ trivial (fun hHeld => ?_)
            clear hK K
            refine pv_ 7 (some 110) (bm 9 255) ?_
            refine one_ (i := 8) (N := none) (bm 9 511) rfl rfl (one_of HT_.out (by kernel_rfl)) (by decide) (fun K hK => ?_)
            have hs158 : w156.cell? ⟨gb171, 1, none⟩ = some (.string (⟨#[]⟩ : ByteArray)) := (blk_cell BK171.out 1).trans rfl
            have hfs158 := blk_frozen BK171.out 1
            have hns158_0 := NB170_171.out
            have hms158_0 := NB171_170.out
            refine skip_ (w1 := ?_) (by rfl) rfl ?_ ?_
            rotate_left; (go_simp; rfl)
            refine hK.out _ _ trivial (fun hHeld => ?_)
            clear hK K
            refine done_ (done_of HT_.out (by kernel_rfl)) ?_
            try go_wp2_with (first | (go_at_call 30; (with_reducible refine (strings_HasPrefix.calls (a0.extract (a1 : Int).toNat a0.size) (⟨#[61, 61]⟩ : ByteArray) false _ A128.out).mono ?_); rintro e w' ⟨rfl, ⟨nd, rfl⟩⟩) | ((with_reducible refine gate_callee (f := 30) rfl ?_); refine gl_ (some 114) Tryd.func30 #[.string (a0.extract (a1 : Int).toNat a0.size), .string (⟨#[61, 61]⟩ : ByteArray)] ?_; (with_reducible refine (strings_HasPrefix.calls (a0.extract (a1 : Int).toNat a0.size) (⟨#[61, 61]⟩ : ByteArray) false _ A128.out).mono ?_); rintro e w' ⟨rfl, ⟨nd, rfl⟩⟩; refine ⟨_, rfl, ?_⟩))
            (try simp only [setCell_drewN_])
            have n0_ : Aside0 (((w156.setCell ⟨gb171, 0, none⟩ (.int .i64 4)).setCell ⟨gb171, 1, none⟩ (.string (a0.extract (a1 : Int).toNat ((wrap64 (a1 + 1)) : Int).toNat))).heap[gb170]? = some (.cells #[.int .i64 0, .string (⟨#[]⟩ : ByteArray), .int .i64 0, .int .i64 0] 29 (0, 0))) := ⟨by refine tf_ NB170_171.out ?_; refine tf_ NB170_171.out ?_; refine tn_ ?_; exact BK170.out⟩
            have n1_ : Aside0 (((w156.setCell ⟨gb171, 0, none⟩ (.int .i64 4)).setCell ⟨gb171, 1, none⟩ (.string (a0.extract (a1 : Int).toNat ((wrap64 (a1 + 1)) : Int).toNat))).heap[gb171]? = some (.cells #[.int .i64 4, .string (a0.extract (a1 : Int).toNat ((wrap64 (a1 + 1)) : Int).toNat), .int .i64 0, .int .i64 a1] 29 (0, 0))) := ⟨by refine tp_ #[.int .i64 4, .string (⟨#[]⟩ : ByteArray), .int .i64 0, .int .i64 a1] 1 ?_; refine tp_ #[.int .i64 0, .string (⟨#[]⟩ : ByteArray), .int .i64 0, .int .i64 a1] 0 ?_; refine tn_ ?_; exact BK171.out⟩
            have n2_ : Aside0 (Below w.heap.size w ((w156.setCell ⟨gb171, 0, none⟩ (.int .i64 4)).setCell ⟨gb171, 1, none⟩ (.string (a0.extract (a1 : Int).toNat ((wrap64 (a1 + 1)) : Int).toNat)))) := ⟨tf6d_⟩
            (try clear BK170)
            (try clear BK171)
            (try clear HB)
            generalize ((w156.setCell ⟨gb171, 0, none⟩ (.int .i64 4)).setCell ⟨gb171, 1, none⟩ (.string (a0.extract (a1 : Int).toNat ((wrap64 (a1 + 1)) : Int).toNat))) = w159 at n0_ n1_ n2_ ⊢
            have BK170 := n0_
            have BK171 := n1_
            have HB := n2_
            clear n0_ n1_ n2_
            (try (rw [drewN_self w159]; generalize hq_ : World.drewN w159 _ = w159; have n0_ : Aside0 (w159.heap[gb170]? = some (.cells #[.int .i64 0, .string (⟨#[]⟩ : ByteArray), .int .i64 0, .int .i64 0] 29 (0, 0))) := ⟨by rw [← hq_]; exact (tn_ BK170.out)⟩; have n1_ : Aside0 (w159.heap[gb171]? = some (.cells #[.int .i64 4, .string (a0.extract (a1 : Int).toNat ((wrap64 (a1 + 1)) : Int).toNat), .int .i64 0, .int .i64 a1] 29 (0, 0))) := ⟨by rw [← hq_]; exact (tn_ BK171.out)⟩; have n2_ : Aside0 (Below w.heap.size w w159) := ⟨by rw [← hq_]; exact (tf6d_)⟩; clear BK170 BK171 HB hq_; have BK170 := n0_; have BK171 := n1_; have HB := n2_; clear n0_ n1_ n2_))
            have n0_ := Aside0.mk (blk_drew BK170.out)
            have n1_ := Aside0.mk (blk_drew BK171.out)
            have n2_ := Aside0.mk (below_drew1 HB.out)
            clear BK170
            clear BK171
            clear HB
            have BK170 := n0_
            have BK171 := n1_
            have HB := n2_
            clear n0_ n1_ n2_
            refine start_ (n := 13) (S := fun w' => w'.cell? ⟨gb171, 0, none⟩ = some (.int .i64 4) ∧ w'.cell? ⟨gb171, 1, none⟩ = some (.string (a0.extract (a1 : Int).toNat ((wrap64 (a1 + 1)) : Int).toNat)) ∧ w'.cell? ⟨gb171, 2, none⟩ = some (.int .i64 0) ∧ w'.cell? ⟨gb171, 3, none⟩ = some (.int .i64 a1)) (ds := []) (Array.replicate 13 false) (by kernel_rfl) rfl rfl ⟨(blk_cell BK171.out 0).trans rfl, (blk_cell BK171.out 1).trans rfl, (blk_cell BK171.out 2).trans rfl, (blk_cell BK171.out 3).trans rfl⟩ (fun hHeld => ?_); refine with_tabW impl_tokenAt.tab19 impl_tokenAt.bits19 (fun HT_ HW_ => ?_)
            generalize w159.drew = w160 at BK170 BK171 HB hHeld ⊢
            refine pv_ 1 (some 117) (bm 13 2) ?_
            refine pv_ 2 (some 118) (bm 13 6) ?_
            refine pv_ 6 (some 122) (bm 13 70) ?_
            refine tv_ 0 (some 116) (bm 13 71) hHeld ?_
            refine tv_ 3 (some 119) (bm 13 79) hHeld ?_
            refine pv_ 4 (some 120) (bm 13 95) ?_
            refine pv_ 5 (some 121) (bm 13 127) ?_
            refine tv_ 7 (some 123) (bm 13 255) hHeld ?_
            refine pv_ 8 (some 124) (bm 13 511) ?_
            refine one_ (i := 9) (N := some 125) (bm 13 1023) rfl rfl (one_of HT_.out (by kernel_rfl)) (by decide) (fun K hK => ?_)
            refine goes_ Tryd.func31 (by kernel_rfl) rfl #[.string (⟨#[40, 41, 123, 125, 44, 59, 58, 46, 61, 43, 45, 42, 60, 33]⟩ : ByteArray), .string ((a0.extract (a1 : Int).toNat ((wrap64 (a1 + 1)) : Int).toNat).extract 0 1)] (by rfl) rfl rfl (by (try simp only [List.map_toArray, List.map_cons, List.map_nil]); first | done | rfl | (simp only [List.length_drop, List.length_take]; rfl)) ?_
            with_reducible refine (strings_Contains.calls (⟨#[40, 41, 123, 125, 44, 59, 58, 46, 61, 43, 45, 42, 60, 33]⟩ : ByteArray) ((a0.extract (a1 : Int).toNat ((wrap64 (a1 + 1)) : Int).toNat).extract 0 1) t183 _ A150.out).mono ?_
            rintro e w' ⟨rfl, ⟨nd, rfl⟩⟩
            refine ⟨_, rfl, ?_⟩
            refine hK.out _ _ ⟨(blk_cell BK171.out 0).trans rfl, (blk_cell BK171.out 1).trans rfl, (blk_cell BK171.out 2).trans rfl, (blk_cell BK171.out 3).trans rfl⟩ (fun hHeld => ?_)
            clear hK K
            refine norm_ (a' := ?_) ?_ ?_
            rotate_left
            ·
             show Act.put _ (some 125) _ = _
             simp only [Act.put, List.setIfInBounds_toArray, List.set_cons_zero, List.set_cons_succ, i64_w, i32_w]
             rfl
            refine one_ (i := 10) (N := none) (bm 13 2047) rfl rfl (one_of HT_.out (by kernel_rfl)) (by decide) (fun K hK => ?_)
            have hs161 : w160.cell? ⟨gb170, 0, none⟩ = some (.int .i64 0) := (blk_cell BK170.out 0).trans rfl
            have hfs161 := blk_frozen BK170.out 0
            have hns161_1 := NB171_170.out
            have hms161_1 := NB170_171.out
            have hs162 : w160.cell? ⟨gb170, 1, none⟩ = some (.string (⟨#[]⟩ : ByteArray)) := (blk_cell BK170.out 1).trans rfl
            have hfs162 := blk_frozen BK170.out 1
            have hns162_1 := NB171_170.out
            have hms162_1 := NB170_171.out
            have hs163 : w160.cell? ⟨gb170, 2, none⟩ = some (.int .i64 0) := (blk_cell BK170.out 2).trans rfl
            have hfs163 := blk_frozen BK170.out 2
            have hns163_1 := NB171_170.out
            have hms163_1 := NB170_171.out
            have hs164 : w160.cell? ⟨gb170, 3, none⟩ = some (.int .i64 0) := (blk_cell BK170.out 3).trans rfl
            have hfs164 := blk_frozen BK170.out 3
            have hns164_1 := NB171_170.out
            have hms164_1 := NB170_171.out
            refine skip_ (w1 := ?_) (by rfl) rfl ?_ ?_
            rotate_left; (go_simp; rfl)
            refine hK.out _ _ ⟨((cell_far (p := ⟨gb170, _, none⟩) NB171_170.out _).trans (((cell_far (p := ⟨gb170, _, none⟩) NB171_170.out _).trans (((cell_far (p := ⟨gb170, _, none⟩) NB171_170.out _).trans (((cell_far (p := ⟨gb170, _, none⟩) NB171_170.out _).trans (hHeld.1)))))))), ((cell_far (p := ⟨gb170, _, none⟩) NB171_170.out _).trans (((cell_far (p := ⟨gb170, _, none⟩) NB171_170.out _).trans (((cell_far (p := ⟨gb170, _, none⟩) NB171_170.out _).trans (((cell_far (p := ⟨gb170, _, none⟩) NB171_170.out _).trans (hHeld.2.1)))))))), ((cell_far (p := ⟨gb170, _, none⟩) NB171_170.out _).trans (((cell_far (p := ⟨gb170, _, none⟩) NB171_170.out _).trans (((cell_far (p := ⟨gb170, _, none⟩) NB171_170.out _).trans (((cell_far (p := ⟨gb170, _, none⟩) NB171_170.out _).trans (hHeld.2.2.1)))))))), ((cell_far (p := ⟨gb170, _, none⟩) NB171_170.out _).trans (((cell_far (p := ⟨gb170, _, none⟩) NB171_170.out _).trans (((cell_far (p := ⟨gb170, _, none⟩) NB171_170.out _).trans (((cell_far (p := ⟨gb170, _, none⟩) NB171_170.out _).trans (hHeld.2.2.2))))))))⟩ (fun hHeld => ?_)
            clear hK K
            refine pv_ 11 (some 5) (bm 13 4095) ?_
            refine pv_ 12 (some 6) (bm 13 8191) ?_
            refine done_ (done_of HT_.out (by kernel_rfl)) ?_
            try go_wp2
            refine bodyPost_ret (results_ctt rfl _ _ gb170 29 #[.int .i64 4, .string (a0.extract (a1 : Int).toNat ((wrap64 (a1 + 1)) : Int).toNat), .int .i64 0, .int .i64 a1] (0, 0) _ rfl (by refine tp_ #[.int .i64 4, .string (a0.extract (a1 : Int).toNat ((wrap64 (a1 + 1)) : Int).toNat), .int .i64 0, .int .i64 0] 3 ?_; refine tp_ #[.int .i64 4, .string (a0.extract (a1 : Int).toNat ((wrap64 (a1 + 1)) : Int).toNat), .int .i64 0, .int .i64 0] 2 ?_; refine tp_ #[.int .i64 4, .string (⟨#[]⟩ : ByteArray), .int .i64 0, .int .i64 0] 1 ?_; refine tp_ #[.int .i64 0, .string (⟨#[]⟩ : ByteArray), .int .i64 0, .int .i64 0] 0 ?_; refine tn_ ?_; exact BK170.out) Tryd.underlying29 rfl (by kernel_rfl)) rfl ?_
            exact ⟨by first | rfl | (simp [errW_none, errW_some] <;> rfl) | (simp [*, errW_none, errW_some] <;> rfl), tf6d_⟩
           ·
            rw [if_neg c149] at H
            exact absurd H (by simp)
          ·
           rw [if_neg c148] at H
           exact absurd H (by simp)
        ·
         rw [if_neg c127] at H
         exact absurd H (by simp)
       ·
        rw [if_neg c125] at H
        exact absurd H (by simp)
      ·
       rw [if_neg c124] at H
       exact absurd H (by simp)
  ·
   rw [if_neg c4] at H
   exact absurd H (by simp)
 ·
  rw [if_neg c3] at H
  exact absurd H (by simp)

end Go.Proofs.YtjlkkappngnbjaaDoor.XFnTokens
