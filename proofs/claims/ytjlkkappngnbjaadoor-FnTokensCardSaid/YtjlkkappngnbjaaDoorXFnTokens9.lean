-- Written by xp.py of this workplace out of Lean's own print of the translation. Not trusted: Lean checks it.
import Derived.Test.YtjlkkappngnbjaaDoorXFnTokens0
import Derived.Test.YtjlkkappngnbjaaDoorXFnTokens1
import Derived.Test.YtjlkkappngnbjaaDoorXFnTokens2
import Derived.Test.YtjlkkappngnbjaaDoorXFnTokens5
import Derived.Test.YtjlkkappngnbjaaDoorXFnTokens8
namespace Go.Proofs.YtjlkkappngnbjaaDoor.XFnTokens
open Go.RowKit Go.Proofs.YtjlkkappngnbjaaDoorW.PrintWords Go.Proofs.YtjlkkappngnbjaaDoorW.PrintLast Go.Proofs.YtjlkkappngnbjaaDoorW.PrintMore
attribute [local go_sem] max2_int min2_int max_two min_two max_three min_three max_four min_four   -- for this text's walks alone
set_option linter.unusedVariables false
set_option linter.unusedSimpArgs false

attribute [local go_sem high] eqA29
/-! ### laws_FnTokens: function 3 -/
mutual
def laws_FnTokens.j0 : Nat → List Int → ByteArray → List (S29) → Int → List (S29) → Bool → Option (Bool)
 | 0, _, _, _, _, _, _ => none
 | k + 1, x0, x3, x4, x5, x6, x36 => if x36 = true then (some false) else ((spec_DrawWord.f k x0).bind fun bt298 => ((impl_Word.f k bt298.1 bt298.2.1 bt298.2.2.1 bt298.2.2.2).bind fun t303 => ((spec_Word.f k bt298.1 bt298.2.1 bt298.2.2.1 bt298.2.2.2).bind fun t304 => (if (t303 != t304) = true then (some false) else (if x5 ≥ 0 then (some ((x4.length : Int) == 0)) else (laws_FnTokens.l0 k x3 x4 x6 0))))))
def laws_FnTokens.l0 : Nat → ByteArray → List (S29) → List (S29) → Int → Option (Bool)
 | 0, _, _, _, _ => none
 | k + 1, x3, x4, x6, x9 => if x9 < (x4.length : Int) then (if 0 ≤ x9 then (if x9 < (x6.length : Int) then (if (!(((rd_T29 x4 x9).f0) == ((rd_T29 x6 x9).f0)) || (!((((rd_T29 x4 x9).f1).toList) == (((rd_T29 x6 x9).f1).toList)) || (!(((rd_T29 x4 x9).f2) == ((rd_T29 x6 x9).f2)) || (!(((rd_T29 x4 x9).f3) == ((rd_T29 x6 x9).f3)))))) = true then (laws_FnTokens.j2 k x3 x4 x6 x9 true) else (if x9 > 0 then (if 0 ≤ (wrap64 (x9 - 1)) then (if (wrap64 (x9 - 1)) < (x4.length : Int) then (if ((rd_T29 x4 (wrap64 (x9 - 1))).f3) ≥ ((rd_T29 x4 x9).f3) then (laws_FnTokens.j2 k x3 x4 x6 x9 true) else (laws_FnTokens.j2 k x3 x4 x6 x9 (decide (((rd_T29 x4 x9).f3) > (x3.size : Int))))) else (none)) else (none)) else (laws_FnTokens.j2 k x3 x4 x6 x9 (decide (((rd_T29 x4 x9).f3) > (x3.size : Int)))))) else (none)) else (none)) else (if x3.size + 1 ≤ 9223372036854775807 then ((impl_Tokens.f k (x3 ++ (⟨#[32]⟩ : ByteArray))).bind fun bt305 => (if 0 ≤ (wrap64 ((x4.length : Int) - 1)) then (if (wrap64 ((x4.length : Int) - 1)) < (x4.length : Int) then (if ((rd_T29 x4 (wrap64 ((x4.length : Int) - 1))).f0) = 0 then (if (x3.size : Int) ≥ 800 then (some true) else (if bt305.2 = (-1) then (some ((bt305.1.length : Int) == (x4.length : Int))) else (some false))) else (some false)) else (none)) else (none))) else (none))
def laws_FnTokens.j2 : Nat → ByteArray → List (S29) → List (S29) → Int → Bool → Option (Bool)
 | 0, _, _, _, _, _ => none
 | k + 1, x3, x4, x6, x9, x91 => if x91 = true then (some false) else (if 0 ≤ x9 then (if x9 < (x4.length : Int) then (if ((rd_T29 x4 x9).f0) = 3 then (laws_FnTokens.l0 k x3 x4 x6 (wrap64 (x9 + 1))) else (if ((rd_T29 x4 x9).f0) = 2 then (laws_FnTokens.l0 k x3 x4 x6 (wrap64 (x9 + 1))) else (if ((rd_T29 x4 x9).f0) = 0 then (laws_FnTokens.l0 k x3 x4 x6 (wrap64 (x9 + 1))) else (if 0 ≤ ((rd_T29 x4 x9).f3) then (if ((rd_T29 x4 x9).f3) ≤ (wrap64 (((rd_T29 x4 x9).f3) + (((rd_T29 x4 x9).f1).size : Int))) then (if (wrap64 (((rd_T29 x4 x9).f3) + (((rd_T29 x4 x9).f1).size : Int))) ≤ (x3.size : Int) then (if (x3.extract (((rd_T29 x4 x9).f3) : Int).toNat ((wrap64 (((rd_T29 x4 x9).f3) + (((rd_T29 x4 x9).f1).size : Int))) : Int).toNat).toList = ((rd_T29 x4 x9).f1).toList then (laws_FnTokens.l0 k x3 x4 x6 (wrap64 (x9 + 1))) else (some false)) else (none)) else (none)) else (none))))) else (none)) else (none))
end
def laws_FnTokens.f (k : Nat) (l0 : List Int) : Option (Bool) := (laws_big.f l0).bind fun t288 => (if t288 = true then (some true) else ((spec_DrawTokens.f k l0).bind fun t289 => ((impl_Tokens.f k t289).bind fun bt290 => ((spec_Tokens.f k t289).bind fun bt294 => (if bt290.2 = bt294.2 then (laws_FnTokens.j0 k l0 t289 bt290.1 bt290.2 bt294.1 ((bt290.1.length : Int) != (bt294.1.length : Int))) else (laws_FnTokens.j0 k l0 t289 bt290.1 bt290.2 bt294.1 true))))))
theorem laws_FnTokens.mono_l : ∀ k, (∀ y0 y1 y2 y3 y4 y5, LeO (laws_FnTokens.j0 k y0 y1 y2 y3 y4 y5) (laws_FnTokens.j0 (k + 1) y0 y1 y2 y3 y4 y5)) ∧ (∀ y0 y1 y2 y3, LeO (laws_FnTokens.l0 k y0 y1 y2 y3) (laws_FnTokens.l0 (k + 1) y0 y1 y2 y3)) ∧ (∀ y0 y1 y2 y3 y4, LeO (laws_FnTokens.j2 k y0 y1 y2 y3 y4) (laws_FnTokens.j2 (k + 1) y0 y1 y2 y3 y4))
 | 0 => ⟨fun _ _ _ _ _ _ r h => by simp [laws_FnTokens.j0] at h, fun _ _ _ _ r h => by simp [laws_FnTokens.l0] at h, fun _ _ _ _ _ r h => by simp [laws_FnTokens.j2] at h⟩
 | k + 1 => by
  obtain ⟨ih0, ih1, ih2⟩ := laws_FnTokens.mono_l k
  refine ⟨?_, ?_, ?_⟩
  ·
   intro y0 y1 y2 y3 y4 y5
   unfold laws_FnTokens.j0
   repeat' first
   | (with_reducible exact ih0 _ _ _ _ _ _)
   | (with_reducible exact ih1 _ _ _ _)
   | (with_reducible exact ih2 _ _ _ _ _)
   | (with_reducible exact impl_Tokens.mono _ _)
   | (with_reducible exact impl_Word.mono _ _ _ _ _)
   | (with_reducible exact spec_DrawTokens.mono _ _)
   | (with_reducible exact spec_DrawWord.mono _ _)
   | (with_reducible exact spec_Tokens.mono _ _)
   | (with_reducible exact spec_Word.mono _ _ _ _ _)
   | (with_reducible exact LeO.refl _)
   | (with_reducible exact LeO.none _)
   | (with_reducible refine LeO.ite ?_ ?_)
   | (with_reducible refine LeO.bind ?_ (fun _ => ?_))
   | exact ih0 _ _ _ _ _ _
   | exact ih1 _ _ _ _
   | exact ih2 _ _ _ _ _
   | exact impl_Tokens.mono _ _
   | exact impl_Word.mono _ _ _ _ _
   | exact spec_DrawTokens.mono _ _
   | exact spec_DrawWord.mono _ _
   | exact spec_Tokens.mono _ _
   | exact spec_Word.mono _ _ _ _ _
   | exact LeO.none _
   | refine LeO.ite ?_ ?_
   | refine LeO.bind ?_ (fun _ => ?_)
  ·
   intro y0 y1 y2 y3
   unfold laws_FnTokens.l0
   repeat' first
   | (with_reducible exact ih0 _ _ _ _ _ _)
   | (with_reducible exact ih1 _ _ _ _)
   | (with_reducible exact ih2 _ _ _ _ _)
   | (with_reducible exact impl_Tokens.mono _ _)
   | (with_reducible exact impl_Word.mono _ _ _ _ _)
   | (with_reducible exact spec_DrawTokens.mono _ _)
   | (with_reducible exact spec_DrawWord.mono _ _)
   | (with_reducible exact spec_Tokens.mono _ _)
   | (with_reducible exact spec_Word.mono _ _ _ _ _)
   | (with_reducible exact LeO.refl _)
   | (with_reducible exact LeO.none _)
   | (with_reducible refine LeO.ite ?_ ?_)
   | (with_reducible refine LeO.bind ?_ (fun _ => ?_))
   | exact ih0 _ _ _ _ _ _
   | exact ih1 _ _ _ _
   | exact ih2 _ _ _ _ _
   | exact impl_Tokens.mono _ _
   | exact impl_Word.mono _ _ _ _ _
   | exact spec_DrawTokens.mono _ _
   | exact spec_DrawWord.mono _ _
   | exact spec_Tokens.mono _ _
   | exact spec_Word.mono _ _ _ _ _
   | exact LeO.none _
   | refine LeO.ite ?_ ?_
   | refine LeO.bind ?_ (fun _ => ?_)
  ·
   intro y0 y1 y2 y3 y4
   unfold laws_FnTokens.j2
   repeat' first
   | (with_reducible exact ih0 _ _ _ _ _ _)
   | (with_reducible exact ih1 _ _ _ _)
   | (with_reducible exact ih2 _ _ _ _ _)
   | (with_reducible exact impl_Tokens.mono _ _)
   | (with_reducible exact impl_Word.mono _ _ _ _ _)
   | (with_reducible exact spec_DrawTokens.mono _ _)
   | (with_reducible exact spec_DrawWord.mono _ _)
   | (with_reducible exact spec_Tokens.mono _ _)
   | (with_reducible exact spec_Word.mono _ _ _ _ _)
   | (with_reducible exact LeO.refl _)
   | (with_reducible exact LeO.none _)
   | (with_reducible refine LeO.ite ?_ ?_)
   | (with_reducible refine LeO.bind ?_ (fun _ => ?_))
   | exact ih0 _ _ _ _ _ _
   | exact ih1 _ _ _ _
   | exact ih2 _ _ _ _ _
   | exact impl_Tokens.mono _ _
   | exact impl_Word.mono _ _ _ _ _
   | exact spec_DrawTokens.mono _ _
   | exact spec_DrawWord.mono _ _
   | exact spec_Tokens.mono _ _
   | exact spec_Word.mono _ _ _ _ _
   | exact LeO.none _
   | refine LeO.ite ?_ ?_
   | refine LeO.bind ?_ (fun _ => ?_)
theorem laws_FnTokens.mono : ∀ a0 k, LeO (laws_FnTokens.f k a0) (laws_FnTokens.f (k + 1) a0) := by
 intro a0 k
 obtain ⟨ih0, ih1, ih2⟩ := laws_FnTokens.mono_l k
 unfold laws_FnTokens.f
 repeat' first
   | (with_reducible exact ih0 _ _ _ _ _ _)
   | (with_reducible exact ih1 _ _ _ _)
   | (with_reducible exact ih2 _ _ _ _ _)
   | (with_reducible exact impl_Tokens.mono _ _)
   | (with_reducible exact impl_Word.mono _ _ _ _ _)
   | (with_reducible exact spec_DrawTokens.mono _ _)
   | (with_reducible exact spec_DrawWord.mono _ _)
   | (with_reducible exact spec_Tokens.mono _ _)
   | (with_reducible exact spec_Word.mono _ _ _ _ _)
   | (with_reducible exact LeO.refl _)
   | (with_reducible exact LeO.none _)
   | (with_reducible refine LeO.ite ?_ ?_)
   | (with_reducible refine LeO.bind ?_ (fun _ => ?_))
   | exact ih0 _ _ _ _ _ _
   | exact ih1 _ _ _ _
   | exact ih2 _ _ _ _ _
   | exact impl_Tokens.mono _ _
   | exact impl_Word.mono _ _ _ _ _
   | exact spec_DrawTokens.mono _ _
   | exact spec_DrawWord.mono _ _
   | exact spec_Tokens.mono _ _
   | exact spec_Word.mono _ _ _ _ _
   | exact LeO.none _
   | refine LeO.ite ?_ ?_
   | refine LeO.bind ?_ (fun _ => ?_)
def laws_FnTokens.T16 : Bool × List (List Nat × List Nat) := (true, [([], []), ([], []), ([0, 1], [0, 1]), ([2], [2]), ([], []), ([], []), ([4, 5], [4, 5]), ([6], [6]), ([3, 7], [3, 7]), ([8], [8]), ([9], [9]), ([10, 9], [9, 10]), ([11, 9, 9], [9, 11]), ([12], [12]), ([12], [12]), ([14, 12], [12, 14]), ([13, 15, 12], [12, 13, 15]), ([16, 12], [12, 16]), ([17, 12], [12, 17]), ([12], [12]), ([12], [12]), ([19, 20, 12], [12, 19, 20]), ([21, 12], [12, 21]), ([22, 12], [12, 22]), ([18, 23, 12], [12, 18, 23]), ([12, 24, 9], [9, 12, 24]), ([9, 25], [9, 25]), ([26, 12], [26]), ([27], [27]), ([27], [27]), ([28, 29, 27], [27, 28, 29]), ([30, 27], [27, 30]), ([31, 27], [27, 31]), ([27], [27]), ([33, 27], [27, 33]), ([32, 34, 27], [27, 32, 34]), ([27, 35], [27, 35])])
def laws_FnTokens.B16 : List Nat := [0, 0, 3, 7, 0, 0, 48, 112, 255, 511, 1023, 2047, 4095, 8191, 8191, 24575, 65535, 131071, 262143, 8191, 8191, 1581055, 3678207, 7872511, 16777215, 33554431, 67108863, 134217727, 268435455, 268435455, 1073741823, 2147483647, 4294967295, 268435455, 8858370047, 34359738367, 68719476735]
theorem laws_FnTokens.tab16 : rtab .any (opsOf Tryd.f3 16) = laws_FnTokens.T16 := by kernel_rfl
theorem laws_FnTokens.bits16 : waitsOk laws_FnTokens.T16.2 laws_FnTokens.B16 = true := by kernel_rfl
def laws_FnTokens.T19 : Bool × List (List Nat × List Nat) := (true, [([], []), ([0], [0]), ([1], [1]), ([2], [2]), ([3], [3]), ([4, 3], [3, 4]), ([5, 3], [3, 5]), ([3, 6], [3, 6]), ([7, 3], [7]), ([8], [8]), ([9, 8], [8, 9]), ([10, 8], [8, 10]), ([8, 11], [8, 11]), ([12, 8], [12]), ([13], [13]), ([13], [13]), ([15, 13], [13, 15]), ([13], [13]), ([17, 13], [13, 17]), ([13], [13]), ([19, 13], [13, 19]), ([20, 13], [13, 20]), ([18, 21, 13], [13, 18, 21]), ([14, 16, 22, 13], [13, 14, 16, 22]), ([13], [13]), ([24, 13], [13, 24]), ([23, 25, 13], [13, 23, 25]), ([13, 26], [13, 26])])
def laws_FnTokens.B19 : List Nat := [0, 1, 3, 7, 15, 31, 63, 127, 255, 511, 1023, 2047, 4095, 8191, 16383, 16383, 49151, 16383, 147455, 16383, 540671, 1589247, 4079615, 8388607, 16383, 16793599, 67108863, 134217727]
theorem laws_FnTokens.tab19 : rtab .any (opsOf Tryd.f3 19) = laws_FnTokens.T19 := by kernel_rfl
theorem laws_FnTokens.bits19 : waitsOk laws_FnTokens.T19.2 laws_FnTokens.B19 = true := by kernel_rfl
set_option maxHeartbeats 8000000 in
set_option maxRecDepth 100000 in
theorem laws_FnTokens.calls (k : Nat) (A0 : Option Addr) (c0 : Nat) (l0 : List Int) (r : Bool) (w : World) (hT : TabX w) (hr0 : Kd.C (Kd.int .u8) w A0 l0.length l0) (hc0 : l0.length ≤ c0) (h : laws_FnTokens.f k l0 = some r) :
  Calls Tryd.prog 3 #[.slice A0 l0.length c0] w fun e w' => e = .returned (.bool r) ∧ Below w.heap.size w w' := by
 have HT := Aside0.mk hT
 clear hT
 have hu29 := Tryd.underlying29
 have HR0 := Aside0.mk hr0
 have HC0 := Aside0.mk hc0
 clear hr0 hc0
 have HB := Aside0.mk (Below.refl w.heap.size w)
 have H : ((laws_big.f l0).bind fun t288 => (if t288 = true then (some true) else ((spec_DrawTokens.f k l0).bind fun t289 => ((impl_Tokens.f k t289).bind fun bt290 => ((spec_Tokens.f k t289).bind fun bt294 => (if bt290.2 = bt294.2 then (laws_FnTokens.j0 k l0 t289 bt290.1 bt290.2 bt294.1 ((bt290.1.length : Int) != (bt294.1.length : Int))) else (laws_FnTokens.j0 k l0 t289 bt290.1 bt290.2 bt294.1 true))))))) = some r := h
 clear h
 replace H := Option.bind_eq_some_iff.mp H
 obtain ⟨t288, A20, H⟩ := H
 have A2 := Aside0.mk A20
 clear A20
 by_cases c3 : t288 = true
 ·
  subst c3
  have H1 : (some true) = some r := by rw [if_pos rfl] at H; exact H
  clear H
  have H := H1
  clear H1
  obtain rfl := Option.some.inj H
  go_enter Tryd.func3, Tryd.ntmps3
  go_wp2_with (first | (go_at_call 4; (with_reducible refine (laws_big.calls _ _ l0 true _ ?side1 ?side2 A2.out).mono ?_); (case side1 => repeat (first | exact HR0.out | (with_reducible refine Kd.C_alloc ?_ _) | (with_reducible refine Kd.C_drewN ?_ _) | (with_reducible refine Kd.C_drew ?_))); (case side2 => exact HC0.out); rintro e w' ⟨rfl, ⟨nd, rfl⟩⟩) | ((with_reducible refine gate_callee (f := 4) rfl ?_); refine gl_ (some 14) Tryd.func4 #[.slice A0 l0.length c0] ?_; (with_reducible refine (laws_big.calls _ _ l0 true _ ?side1 ?side2 A2.out).mono ?_); (case side1 => repeat (first | exact HR0.out | (with_reducible refine Kd.C_alloc ?_ _) | (with_reducible refine Kd.C_drewN ?_ _) | (with_reducible refine Kd.C_drew ?_))); (case side2 => exact HC0.out); rintro e w' ⟨rfl, ⟨nd, rfl⟩⟩; refine ⟨_, rfl, ?_⟩))
  go_ret
  exact ⟨by first | rfl | (simp [errW_none, errW_some] <;> rfl) | (simp [*, errW_none, errW_some] <;> rfl), t0c4_⟩
 ·
  replace c3 := Bool.eq_false_iff.mpr c3
  subst c3
  rw [if_neg (show ¬ (false = true) by decide)] at H
  have H1 := H
  clear H
  have H := H1
  clear H1
  replace H := Option.bind_eq_some_iff.mp H
  obtain ⟨t289, A40, H⟩ := H
  have A4 := Aside0.mk A40
  clear A40
  replace H := Option.bind_eq_some_iff.mp H
  obtain ⟨⟨t290, t291⟩, A50, H⟩ := H
  replace H : ((spec_Tokens.f k t289).bind fun bt294 => (if t291 = bt294.2 then (laws_FnTokens.j0 k l0 t289 t290 t291 bt294.1 ((t290.length : Int) != (bt294.1.length : Int))) else (laws_FnTokens.j0 k l0 t289 t290 t291 bt294.1 true))) = some r := H
  have A5 := Aside0.mk A50
  clear A50
  replace H := Option.bind_eq_some_iff.mp H
  obtain ⟨⟨t294, t295⟩, A60, H⟩ := H
  replace H : (if t291 = t295 then (laws_FnTokens.j0 k l0 t289 t290 t291 t294 ((t290.length : Int) != (t294.length : Int))) else (laws_FnTokens.j0 k l0 t289 t290 t291 t294 true)) = some r := H
  have A6 := Aside0.mk A60
  clear A60
  have HC7 := Aside0.mk H
  clear H
  go_enter Tryd.func3, Tryd.ntmps3
  go_upto_region 6 with (first | ((with_reducible refine gate_callee (f := 4) rfl ?_); refine gl_ (some 14) Tryd.func4 #[.slice A0 l0.length c0] ?_; (with_reducible refine (laws_big.calls _ _ l0 false _ ?side1 ?side2 A2.out).mono ?_); (case side1 => repeat (first | exact HR0.out | (with_reducible refine Kd.C_alloc ?_ _) | (with_reducible refine Kd.C_drewN ?_ _) | (with_reducible refine Kd.C_drew ?_))); (case side2 => exact HC0.out); rintro e w' ⟨rfl, ⟨nd, rfl⟩⟩; refine ⟨_, rfl, ?_⟩) | ((with_reducible refine gate_callee (f := 5) rfl ?_); refine gl_ (some 16) Tryd.func5 #[.slice A0 l0.length c0] ?_; (with_reducible refine (spec_DrawTokens.calls k _ _ l0 t289 _ ?side1 ?side2 A4.out).mono ?_); (case side1 => repeat (first | exact HR0.out | (with_reducible refine Kd.C_alloc ?_ _) | (with_reducible refine Kd.C_drewN ?_ _) | (with_reducible refine Kd.C_drew ?_))); (case side2 => exact HC0.out); rintro e w8 ⟨rfl, hb⟩; refine ⟨_, rfl, ?_⟩; have n0_ := Aside0.mk (below_step (t0c4_) hb); clear HB; have HB := n0_; clear n0_; (try clear hb); (try clear hb2); (try clear hk); (try clear hi)) | ((with_reducible refine gate_callee (f := 6) rfl ?_); refine gl_ (some 19) Tryd.func6 #[.string t289] ?_; (with_reducible refine (impl_Tokens.calls k t289 t290 t291 _ ?sideT A5.out).mono ?_); (case sideT => exact tabBelow HT.out (tf6d_)); rintro e w9 ⟨v292, rfl, ho0, hb⟩; refine ⟨_, rfl, ?_⟩; have n0_ := Aside0.mk (Kd.R_lower ho0 (below_size (t0c4_))); have n1_ := Aside0.mk (below_step (t0c4_) hb); clear HB; have HO293 := n0_; have HB := n1_; clear n0_ n1_; (try clear hb); (try clear hb2); (try clear hk); (try clear hi); (try clear ho0)) | ((with_reducible refine gate_callee (f := 7) rfl ?_); refine gl_ (some 24) Tryd.func7 #[.string t289] ?_; (with_reducible refine (spec_Tokens.calls k t289 t294 t295 _ A6.out).mono ?_); rintro e w10 ⟨v296, rfl, ho0, hb⟩; refine ⟨_, rfl, ?_⟩; have n0_ := Aside0.mk (Kd.R_elder' (tkR_ HO293.out) (Kd.R_base ho0) hb); have n1_ := Aside0.mk (Kd.R_lower (Kd.R_new' ho0 (Kd.R_lt (tkR_ HO293.out))) (below_size (t0c4_))); have n2_ := Aside0.mk (below_step (t0c4_) hb); clear HO293; clear HB; have HO293 := n0_; have HO297 := n1_; have HB := n2_; clear n0_ n1_ n2_; (try clear hb); (try clear hb2); (try clear hk); (try clear hi); (try clear ho0)))
  (try simp only [Act.put, List.setIfInBounds_toArray, List.set_cons_zero, List.set_cons_succ])
  go_cut [36] (fun v36 wc => ∃ (kq : Nat) (x36_6 : Bool), v36 = .bool x36_6 ∧ Aside0 (laws_FnTokens.j0 kq l0 t289 t290 t291 t294 x36_6 = some r) ∧ Aside0 (kq ≤ k) ∧ Aside0 (Kd.R k29 29 wc w.heap.size (fun k_ => some k_ ≠ (v296 : Value).ownBlock) v292 t290) ∧ Aside0 (Kd.R k29 29 wc w.heap.size (fun k_ => some k_ ≠ (v292 : Value).ownBlock) v296 t294) ∧ Aside0 (Below w.heap.size w wc))
  case first =>
   have H := HC7.out
   clear HC7
   by_cases c11 : t291 = t295
   ·
    rw [if_pos c11] at H
    have c11b0 : (t291 == t295) = true := beq_iff_eq.mpr c11
    have c11b1 : (t291 != t295) = false := bne_eq_false_iff_eq.mpr c11
    clear c11
    (first | rw [c11b0] | (simp only [i64_w, i32_w]; rw [c11b0]) | skip)
    have H' := Aside0.mk H
    clear H
    obtain ⟨Ao12, co12, eo12⟩ := Kd.R_slice HO293.out
    subst eo12
    obtain ⟨Ao13, co13, eo13⟩ := Kd.R_slice HO297.out
    subst eo13
    go_wp2
    go_meet
    case rel => exact ⟨_, (((t290.length : Int) != (t294.length : Int))), (by first | rfl | (simp; done) | (simp [*]; done)), H', ⟨by first | omega | exact Nat.le_refl _⟩, ⟨by (with_reducible repeat (first | apply Kd.R_alloc | apply Kd.R_drewN | apply Kd.R_drew)); exact Kd.R_mono HO293.out (fun _ hk => hk.2)⟩, ⟨by (with_reducible repeat (first | apply Kd.R_alloc | apply Kd.R_drewN | apply Kd.R_drew)); exact Kd.R_mono HO297.out (fun _ hk => hk.2)⟩, ⟨t0c4_⟩⟩
   ·
    rw [if_neg c11] at H
    have c11b0 : (t291 == t295) = false := beq_eq_false_iff_ne.mpr c11
    have c11b1 : (t291 != t295) = true := bne_iff_ne.mpr c11
    (first | rw [c11b0] | (simp only [i64_w, i32_w]; rw [c11b0]) | skip)
    have H' := Aside0.mk H
    clear H
    go_wp2
    go_meet
    case rel => exact ⟨_, (true), (by first | rfl | (simp; done) | (simp [*]; done)), H', ⟨by first | omega | exact Nat.le_refl _⟩, ⟨by (with_reducible repeat (first | apply Kd.R_alloc | apply Kd.R_drewN | apply Kd.R_drew)); exact Kd.R_mono HO293.out (fun _ hk => hk.2)⟩, ⟨by (with_reducible repeat (first | apply Kd.R_alloc | apply Kd.R_drewN | apply Kd.R_drew)); exact Kd.R_mono HO297.out (fun _ hk => hk.2)⟩, ⟨t0c4_⟩⟩
  case rest =>
   clear HC7
   try clear c1
   try clear p2
   try clear c3
   try clear c4
   try clear c5
   try clear c6
   try clear c7
   try clear c11
   try clear c11b0
   try clear c11b1
   obtain ⟨kq, x36_6, rfl, HA, HJ6, HO_4, HO_6, HB⟩ := hcut
   cases kq with
   | zero => exact absurd HA.out (by simp [laws_FnTokens.j0])
   | succ kj6 =>
    have H := HA.out
    clear HA
    simp only [laws_FnTokens.j0] at H
    by_cases c14 : x36_6 = true
    ·
     subst c14
     have H1 : (some false) = some r := by rw [if_pos rfl] at H; exact H
     clear H
     have H := H1
     clear H1
     obtain rfl := Option.some.inj H
     go_wp2
     go_ret
     exact ⟨by first | rfl | (simp [errW_none, errW_some] <;> rfl) | (simp [*, errW_none, errW_some] <;> rfl), t0c4_⟩
    ·
     replace c14 := Bool.eq_false_iff.mpr c14
     subst c14
     rw [if_neg (show ¬ (false = true) by decide)] at H
     have H1 := H
     clear H
     have H := H1
     clear H1
     replace H := Option.bind_eq_some_iff.mp H
     obtain ⟨⟨t298, t299, t300, t301⟩, A150, H⟩ := H
     replace H : ((impl_Word.f kj6 t298 t299 t300 t301).bind fun t303 => ((spec_Word.f kj6 t298 t299 t300 t301).bind fun t304 => (if (t303 != t304) = true then (some false) else (if t291 ≥ 0 then (some ((t290.length : Int) == 0)) else (laws_FnTokens.l0 kj6 t289 t290 t294 0))))) = some r := H
     have A15 := Aside0.mk A150
     clear A150
     replace H := Option.bind_eq_some_iff.mp H
     obtain ⟨t303, A160, H⟩ := H
     have A16 := Aside0.mk A160
     clear A160
     replace H := Option.bind_eq_some_iff.mp H
     obtain ⟨t304, A170, H⟩ := H
     have A17 := Aside0.mk A170
     clear A170
     by_cases c18 : (t303 != t304) = true
     ·
      rw [if_pos c18] at H
      have c18b0 : (t303 != t304) = true := c18
      (try (have c18b1 : decide (t303 = t304) = false := by simpa using c18))
      (try (have c18b2 : (t303 == t304) = false := by simpa using c18))
      (try (have c18b3 : ¬ (t303 = t304) := by simpa using c18))
      clear c18
      obtain rfl := Option.some.inj H
      try go_wp2_with (first | ((with_reducible refine gate_callee (f := 8) rfl ?_); refine gl_ (some 38) Tryd.func8 #[.slice A0 l0.length c0] ?_; (with_reducible refine (spec_DrawWord.calls kj6 _ _ l0 t298 t299 t300 t301 _ ?side1 ?side2 A15.out).mono ?_); (case side1 => repeat (first | exact (Kd.C_below HR0.out HB.out) | (with_reducible refine Kd.C_alloc ?_ _) | (with_reducible refine Kd.C_drewN ?_ _) | (with_reducible refine Kd.C_drew ?_))); (case side2 => exact HC0.out); rintro e w19 ⟨rfl, hb⟩; refine ⟨_, rfl, ?_⟩; have n0_ := Aside0.mk (Kd.R_below (tkR_ HO_4.out) hb); have n1_ := Aside0.mk (Kd.R_below (tkR_ HO_6.out) hb); have n2_ := Aside0.mk (below_step (t0c4_) hb); clear HO_4; clear HO_6; clear HB; have HO_4 := n0_; have HO_6 := n1_; have HB := n2_; clear n0_ n1_ n2_; (try clear hb); (try clear hb2); (try clear hk); (try clear hi)) | ((with_reducible refine gate_dst (N := 8) rfl ?_); (try (refine gate_guard (by rfl) ?_; dsimp only)); refine be_ 8 #[.int .i64 0, .string (⟨#[]⟩ : ByteArray), .int .i64 0, .int .i64 0] 29 ?_; intro gb302 hg w20 hbox hb; have n0_ := Aside0.mk (Kd.R_below (Kd.R_elderB (tkR_ HO_4.out) gb302 (Nat.le_of_eq hg.symm)) hb); have n1_ := Aside0.mk (Kd.R_below (Kd.R_elderB (tkR_ HO_6.out) gb302 (Nat.le_of_eq hg.symm)) hb); have n2_ := Aside0.mk (below_step (t0c4_) hb); have n3_ := Aside0.mk (hbox); have n4_ := Aside0.mk ((by rw [hg]; exact (below_size (t0c4_)) : w.heap.size ≤ gb302)); have n5_ := Aside0.mk ((by rw [hg]; exact (below_size (t0c4_)) : w.heap.size ≤ gb302)); clear HO_4; clear HO_6; clear HB; have HO_4 := n0_; have HO_6 := n1_; have HB := n2_; have BK302 := n3_; have GW302 := n4_; have GE302 := n5_; clear n0_ n1_ n2_ n3_ n4_ n5_; clear hb hbox hg; have hcz21_0 : w20.cell? ⟨gb302, 0, none⟩ = some (.int .i64 0) := (blk_cell BK302.out 0).trans rfl; have hcz21_1 : w20.cell? ⟨gb302, 1, none⟩ = some (.string (⟨#[]⟩ : ByteArray)) := (blk_cell BK302.out 1).trans rfl; have hcz21_2 : w20.cell? ⟨gb302, 2, none⟩ = some (.int .i64 0) := (blk_cell BK302.out 2).trans rfl; have hcz21_3 : w20.cell? ⟨gb302, 3, none⟩ = some (.int .i64 0) := (blk_cell BK302.out 3).trans rfl; have hfz21_0 := blk_frozen BK302.out 0; have hfz21_1 := blk_frozen BK302.out 1; have hfz21_2 := blk_frozen BK302.out 2; have hfz21_3 := blk_frozen BK302.out 3))
      have n0_ : Aside0 (Kd.R k29 29 ((((w20.setCell ⟨gb302, 0, none⟩ (.int .i64 t298)).setCell ⟨gb302, 1, none⟩ (.string t299)).setCell ⟨gb302, 2, none⟩ (.int .i64 t300)).setCell ⟨gb302, 3, none⟩ (.int .i64 t301)) w.heap.size (fun k_ => some k_ ≠ (v296 : Value).ownBlock ∧ k_ ≠ gb302) v292 t290) := ⟨by (with_reducible repeat (first | apply Kd.R_alloc | apply Kd.R_drewN | apply Kd.R_drew)); exact Kd.R_mono (Kd.R_far (p := ⟨gb302, 3, none⟩) (Kd.R_far (p := ⟨gb302, 2, none⟩) (Kd.R_far (p := ⟨gb302, 1, none⟩) (Kd.R_far (p := ⟨gb302, 0, none⟩) (Kd.R_mono HO_4.out (fun k_ hk => (⟨hk, hk.2⟩ : _ ∧ k_ ≠ gb302))) (fun _ hk => hk.2) (.int .i64 t298)) (fun _ hk => hk.2) (.string t299)) (fun _ hk => hk.2) (.int .i64 t300)) (fun _ hk => hk.2) (.int .i64 t301)) (fun _ hk => ⟨hk.1.1, hk.1.2⟩)⟩
      have n1_ : Aside0 (Kd.R k29 29 ((((w20.setCell ⟨gb302, 0, none⟩ (.int .i64 t298)).setCell ⟨gb302, 1, none⟩ (.string t299)).setCell ⟨gb302, 2, none⟩ (.int .i64 t300)).setCell ⟨gb302, 3, none⟩ (.int .i64 t301)) w.heap.size (fun k_ => some k_ ≠ (v292 : Value).ownBlock ∧ k_ ≠ gb302) v296 t294) := ⟨by (with_reducible repeat (first | apply Kd.R_alloc | apply Kd.R_drewN | apply Kd.R_drew)); exact Kd.R_mono (Kd.R_far (p := ⟨gb302, 3, none⟩) (Kd.R_far (p := ⟨gb302, 2, none⟩) (Kd.R_far (p := ⟨gb302, 1, none⟩) (Kd.R_far (p := ⟨gb302, 0, none⟩) (Kd.R_mono HO_6.out (fun k_ hk => (⟨hk, hk.2⟩ : _ ∧ k_ ≠ gb302))) (fun _ hk => hk.2) (.int .i64 t298)) (fun _ hk => hk.2) (.string t299)) (fun _ hk => hk.2) (.int .i64 t300)) (fun _ hk => hk.2) (.int .i64 t301)) (fun _ hk => ⟨hk.1.1, hk.1.2⟩)⟩
      have n2_ : Aside0 (((((w20.setCell ⟨gb302, 0, none⟩ (.int .i64 t298)).setCell ⟨gb302, 1, none⟩ (.string t299)).setCell ⟨gb302, 2, none⟩ (.int .i64 t300)).setCell ⟨gb302, 3, none⟩ (.int .i64 t301)).heap[gb302]? = some (.cells #[.int .i64 t298, .string t299, .int .i64 t300, .int .i64 t301] 29 (0, 0))) := ⟨by refine tp_ #[.int .i64 t298, .string t299, .int .i64 t300, .int .i64 0] 3 ?_; refine tp_ #[.int .i64 t298, .string t299, .int .i64 0, .int .i64 0] 2 ?_; refine tp_ #[.int .i64 t298, .string (⟨#[]⟩ : ByteArray), .int .i64 0, .int .i64 0] 1 ?_; refine tp_ #[.int .i64 0, .string (⟨#[]⟩ : ByteArray), .int .i64 0, .int .i64 0] 0 ?_; refine tn_ ?_; exact BK302.out⟩
      have n3_ : Aside0 (Below w.heap.size w ((((w20.setCell ⟨gb302, 0, none⟩ (.int .i64 t298)).setCell ⟨gb302, 1, none⟩ (.string t299)).setCell ⟨gb302, 2, none⟩ (.int .i64 t300)).setCell ⟨gb302, 3, none⟩ (.int .i64 t301))) := ⟨tf6d_⟩
      (try clear HO_4)
      (try clear HO_6)
      (try clear BK302)
      (try clear HB)
      generalize ((((w20.setCell ⟨gb302, 0, none⟩ (.int .i64 t298)).setCell ⟨gb302, 1, none⟩ (.string t299)).setCell ⟨gb302, 2, none⟩ (.int .i64 t300)).setCell ⟨gb302, 3, none⟩ (.int .i64 t301)) = w22 at n0_ n1_ n2_ n3_ ⊢
      have HO_4 := n0_
      have HO_6 := n1_
      have BK302 := n2_
      have HB := n3_
      clear n0_ n1_ n2_ n3_
      have n0_ := Aside0.mk (Kd.R_drew HO_4.out)
      have n1_ := Aside0.mk (Kd.R_drew HO_6.out)
      have n2_ := Aside0.mk (blk_drew BK302.out)
      have n3_ := Aside0.mk (below_drew1 HB.out)
      clear HO_4
      clear HO_6
      clear BK302
      clear HB
      have HO_4 := n0_
      have HO_6 := n1_
      have BK302 := n2_
      have HB := n3_
      clear n0_ n1_ n2_ n3_
      refine start_ (n := 5) (S := fun w' => w'.cell? ⟨gb302, 0, none⟩ = some (.int .i64 t298) ∧ w'.cell? ⟨gb302, 1, none⟩ = some (.string t299) ∧ w'.cell? ⟨gb302, 2, none⟩ = some (.int .i64 t300) ∧ w'.cell? ⟨gb302, 3, none⟩ = some (.int .i64 t301)) (ds := []) (Array.replicate 5 false) (by kernel_rfl) rfl rfl ⟨(blk_cell BK302.out 0).trans rfl, (blk_cell BK302.out 1).trans rfl, (blk_cell BK302.out 2).trans rfl, (blk_cell BK302.out 3).trans rfl⟩ (fun hHeld => ?_)
      generalize w22.drew = w23 at HO_4 HO_6 BK302 HB hHeld ⊢
      refine take_ (i := 0) (N := some 39) (v := ?_) (a' := ?_) (bm 5 1) rfl rfl (by kernel_rfl) (fun _ _ _ h => h) (Or.inl ⟨by rfl, ?_⟩) hHeld ?_ ?_
      rotate_left
      ·
       rintro w' ⟨s0, s1, s2, s3⟩
       go_simp
       with_reducible rfl
      rotate_left; (simp only [Act.put, List.setIfInBounds_toArray, List.set_cons_zero, List.set_cons_succ, i64_w, i32_w]; rfl)
      refine take_ (i := 2) (N := some 41) (v := ?_) (a' := ?_) (bm 5 5) rfl rfl (by kernel_rfl) (fun _ _ _ h => h) (Or.inl ⟨by rfl, ?_⟩) hHeld ?_ ?_
      rotate_left
      ·
       rintro w' ⟨s0, s1, s2, s3⟩
       go_simp
       with_reducible rfl
      rotate_left; (simp only [Act.put, List.setIfInBounds_toArray, List.set_cons_zero, List.set_cons_succ, i64_w, i32_w]; rfl)
      refine one_ (i := 1) (N := some 40) (bm 5 7) rfl rfl (by kernel_rfl) (by decide) (fun K hK => ?_)
      refine goes_ Tryd.func9 (by kernel_rfl) rfl #[.agg #[.int .i64 t298, .string t299, .int .i64 t300, .int .i64 t301]] (by rfl) rfl rfl (by (try simp only [List.map_toArray, List.map_cons, List.map_nil]); first | done | rfl | (simp only [List.length_drop, List.length_take]; rfl)) ?_
      with_reducible refine (impl_Word.calls kj6 t298 t299 t300 t301 t303 _ A16.out).mono ?_
      rintro e w24 ⟨rfl, hb⟩
      refine ⟨_, rfl, ?_⟩
      have n0_ := Aside0.mk (Kd.R_below (tkR_ HO_4.out) hb)
      have n1_ := Aside0.mk (Kd.R_below (tkR_ HO_6.out) hb)
      have n2_ := Aside0.mk (blk_below (g := gb302) (o := .cells #[.int .i64 t298, .string t299, .int .i64 t300, .int .i64 t301] 29 (0, 0)) (tn_ BK302.out) hb)
      have n3_ := Aside0.mk (below_step (tf6d_) hb)
      clear HO_4
      clear HO_6
      clear BK302
      clear HB
      have HO_4 := n0_
      have HO_6 := n1_
      have BK302 := n2_
      have HB := n3_
      clear n0_ n1_ n2_ n3_
      (try clear hb)
      (try clear hb2)
      (try clear hk)
      (try clear hi)
      refine hK.out _ _ ⟨(blk_cell BK302.out 0).trans rfl, (blk_cell BK302.out 1).trans rfl, (blk_cell BK302.out 2).trans rfl, (blk_cell BK302.out 3).trans rfl⟩ (fun hHeld => ?_)
      clear hK K
      refine norm_ (a' := ?_) ?_ ?_
      rotate_left
      ·
       show Act.put _ (some 40) _ = _
       simp only [Act.put, List.setIfInBounds_toArray, List.set_cons_zero, List.set_cons_succ, i64_w, i32_w]
       rfl
      refine one_ (i := 3) (N := some 42) (bm 5 15) rfl rfl (by kernel_rfl) (by decide) (fun K hK => ?_)
      refine goes_ Tryd.func10 (by kernel_rfl) rfl #[.agg #[.int .i64 t298, .string t299, .int .i64 t300, .int .i64 t301]] (by rfl) rfl rfl (by (try simp only [List.map_toArray, List.map_cons, List.map_nil]); first | done | rfl | (simp only [List.length_drop, List.length_take]; rfl)) ?_
      with_reducible refine (spec_Word.calls kj6 t298 t299 t300 t301 t304 _ A17.out).mono ?_
      rintro e w25 ⟨rfl, hb⟩
      refine ⟨_, rfl, ?_⟩
      have n0_ := Aside0.mk (Kd.R_below (tkR_ HO_4.out) hb)
      have n1_ := Aside0.mk (Kd.R_below (tkR_ HO_6.out) hb)
      have n2_ := Aside0.mk (blk_below (g := gb302) (o := .cells #[.int .i64 t298, .string t299, .int .i64 t300, .int .i64 t301] 29 (0, 0)) (tn_ BK302.out) hb)
      have n3_ := Aside0.mk (below_step (tf6d_) hb)
      clear HO_4
      clear HO_6
      clear BK302
      clear HB
      have HO_4 := n0_
      have HO_6 := n1_
      have BK302 := n2_
      have HB := n3_
      clear n0_ n1_ n2_ n3_
      (try clear hb)
      (try clear hb2)
      (try clear hk)
      (try clear hi)
      refine hK.out _ _ ⟨(blk_cell BK302.out 0).trans rfl, (blk_cell BK302.out 1).trans rfl, (blk_cell BK302.out 2).trans rfl, (blk_cell BK302.out 3).trans rfl⟩ (fun hHeld => ?_)
      clear hK K
      refine norm_ (a' := ?_) ?_ ?_
      rotate_left
      ·
       show Act.put _ (some 42) _ = _
       simp only [Act.put, List.setIfInBounds_toArray, List.set_cons_zero, List.set_cons_succ, i64_w, i32_w]
       rfl
      refine pure_ (i := 4) (N := some 43) (v := ?_) (a' := ?_) (bm 5 31) rfl rfl (by kernel_rfl) (fun _ _ _ h => h) (Or.inl ⟨by rfl, ?_⟩) ?_ ?_; rotate_left; (intro w'; go_simp; with_reducible rfl); rotate_left; (simp only [Act.put, List.setIfInBounds_toArray, List.set_cons_zero, List.set_cons_succ, i64_w, i32_w]; rfl)
      refine done_ (by kernel_rfl) ?_
      try go_wp2
      go_ret
      exact ⟨by first | rfl | (simp [errW_none, errW_some] <;> rfl) | (simp [*, errW_none, errW_some] <;> rfl), tf6d_⟩
     ·
      rw [if_neg c18] at H
      have c18b0 : (t303 != t304) = false := by simpa using c18
      (try (have c18b1 : decide (t303 = t304) = true := by simpa using c18))
      (try (have c18b2 : (t303 == t304) = true := by simpa using c18))
      clear c18
      by_cases c26 : t291 ≥ 0
      ·
       rw [if_pos c26] at H
       have c26b0 : decide (0 ≤ t291) = true := decide_eq_true c26
       clear c26
       obtain rfl := Option.some.inj H
       try go_wp2_with (first | ((with_reducible refine gate_callee (f := 8) rfl ?_); refine gl_ (some 38) Tryd.func8 #[.slice A0 l0.length c0] ?_; (with_reducible refine (spec_DrawWord.calls kj6 _ _ l0 t298 t299 t300 t301 _ ?side1 ?side2 A15.out).mono ?_); (case side1 => repeat (first | exact (Kd.C_below HR0.out HB.out) | (with_reducible refine Kd.C_alloc ?_ _) | (with_reducible refine Kd.C_drewN ?_ _) | (with_reducible refine Kd.C_drew ?_))); (case side2 => exact HC0.out); rintro e w27 ⟨rfl, hb⟩; refine ⟨_, rfl, ?_⟩; have n0_ := Aside0.mk (Kd.R_below (tkR_ HO_4.out) hb); have n1_ := Aside0.mk (Kd.R_below (tkR_ HO_6.out) hb); have n2_ := Aside0.mk (below_step (t0c4_) hb); clear HO_4; clear HO_6; clear HB; have HO_4 := n0_; have HO_6 := n1_; have HB := n2_; clear n0_ n1_ n2_; (try clear hb); (try clear hb2); (try clear hk); (try clear hi)) | ((with_reducible refine gate_dst (N := 8) rfl ?_); (try (refine gate_guard (by rfl) ?_; dsimp only)); refine be_ 8 #[.int .i64 0, .string (⟨#[]⟩ : ByteArray), .int .i64 0, .int .i64 0] 29 ?_; intro gb302 hg w28 hbox hb; have n0_ := Aside0.mk (Kd.R_below (Kd.R_elderB (tkR_ HO_4.out) gb302 (Nat.le_of_eq hg.symm)) hb); have n1_ := Aside0.mk (Kd.R_below (Kd.R_elderB (tkR_ HO_6.out) gb302 (Nat.le_of_eq hg.symm)) hb); have n2_ := Aside0.mk (below_step (t0c4_) hb); have n3_ := Aside0.mk (hbox); have n4_ := Aside0.mk ((by rw [hg]; exact (below_size (t0c4_)) : w.heap.size ≤ gb302)); have n5_ := Aside0.mk ((by rw [hg]; exact (below_size (t0c4_)) : w.heap.size ≤ gb302)); clear HO_4; clear HO_6; clear HB; have HO_4 := n0_; have HO_6 := n1_; have HB := n2_; have BK302 := n3_; have GW302 := n4_; have GE302 := n5_; clear n0_ n1_ n2_ n3_ n4_ n5_; clear hb hbox hg; have hcz29_0 : w28.cell? ⟨gb302, 0, none⟩ = some (.int .i64 0) := (blk_cell BK302.out 0).trans rfl; have hcz29_1 : w28.cell? ⟨gb302, 1, none⟩ = some (.string (⟨#[]⟩ : ByteArray)) := (blk_cell BK302.out 1).trans rfl; have hcz29_2 : w28.cell? ⟨gb302, 2, none⟩ = some (.int .i64 0) := (blk_cell BK302.out 2).trans rfl; have hcz29_3 : w28.cell? ⟨gb302, 3, none⟩ = some (.int .i64 0) := (blk_cell BK302.out 3).trans rfl; have hfz29_0 := blk_frozen BK302.out 0; have hfz29_1 := blk_frozen BK302.out 1; have hfz29_2 := blk_frozen BK302.out 2; have hfz29_3 := blk_frozen BK302.out 3))
       have n0_ : Aside0 (Kd.R k29 29 ((((w28.setCell ⟨gb302, 0, none⟩ (.int .i64 t298)).setCell ⟨gb302, 1, none⟩ (.string t299)).setCell ⟨gb302, 2, none⟩ (.int .i64 t300)).setCell ⟨gb302, 3, none⟩ (.int .i64 t301)) w.heap.size (fun k_ => some k_ ≠ (v296 : Value).ownBlock ∧ k_ ≠ gb302) v292 t290) := ⟨by (with_reducible repeat (first | apply Kd.R_alloc | apply Kd.R_drewN | apply Kd.R_drew)); exact Kd.R_mono (Kd.R_far (p := ⟨gb302, 3, none⟩) (Kd.R_far (p := ⟨gb302, 2, none⟩) (Kd.R_far (p := ⟨gb302, 1, none⟩) (Kd.R_far (p := ⟨gb302, 0, none⟩) (Kd.R_mono HO_4.out (fun k_ hk => (⟨hk, hk.2⟩ : _ ∧ k_ ≠ gb302))) (fun _ hk => hk.2) (.int .i64 t298)) (fun _ hk => hk.2) (.string t299)) (fun _ hk => hk.2) (.int .i64 t300)) (fun _ hk => hk.2) (.int .i64 t301)) (fun _ hk => ⟨hk.1.1, hk.1.2⟩)⟩
       have n1_ : Aside0 (Kd.R k29 29 ((((w28.setCell ⟨gb302, 0, none⟩ (.int .i64 t298)).setCell ⟨gb302, 1, none⟩ (.string t299)).setCell ⟨gb302, 2, none⟩ (.int .i64 t300)).setCell ⟨gb302, 3, none⟩ (.int .i64 t301)) w.heap.size (fun k_ => some k_ ≠ (v292 : Value).ownBlock ∧ k_ ≠ gb302) v296 t294) := ⟨by (with_reducible repeat (first | apply Kd.R_alloc | apply Kd.R_drewN | apply Kd.R_drew)); exact Kd.R_mono (Kd.R_far (p := ⟨gb302, 3, none⟩) (Kd.R_far (p := ⟨gb302, 2, none⟩) (Kd.R_far (p := ⟨gb302, 1, none⟩) (Kd.R_far (p := ⟨gb302, 0, none⟩) (Kd.R_mono HO_6.out (fun k_ hk => (⟨hk, hk.2⟩ : _ ∧ k_ ≠ gb302))) (fun _ hk => hk.2) (.int .i64 t298)) (fun _ hk => hk.2) (.string t299)) (fun _ hk => hk.2) (.int .i64 t300)) (fun _ hk => hk.2) (.int .i64 t301)) (fun _ hk => ⟨hk.1.1, hk.1.2⟩)⟩
       have n2_ : Aside0 (((((w28.setCell ⟨gb302, 0, none⟩ (.int .i64 t298)).setCell ⟨gb302, 1, none⟩ (.string t299)).setCell ⟨gb302, 2, none⟩ (.int .i64 t300)).setCell ⟨gb302, 3, none⟩ (.int .i64 t301)).heap[gb302]? = some (.cells #[.int .i64 t298, .string t299, .int .i64 t300, .int .i64 t301] 29 (0, 0))) := ⟨by refine tp_ #[.int .i64 t298, .string t299, .int .i64 t300, .int .i64 0] 3 ?_; refine tp_ #[.int .i64 t298, .string t299, .int .i64 0, .int .i64 0] 2 ?_; refine tp_ #[.int .i64 t298, .string (⟨#[]⟩ : ByteArray), .int .i64 0, .int .i64 0] 1 ?_; refine tp_ #[.int .i64 0, .string (⟨#[]⟩ : ByteArray), .int .i64 0, .int .i64 0] 0 ?_; refine tn_ ?_; exact BK302.out⟩
       have n3_ : Aside0 (Below w.heap.size w ((((w28.setCell ⟨gb302, 0, none⟩ (.int .i64 t298)).setCell ⟨gb302, 1, none⟩ (.string t299)).setCell ⟨gb302, 2, none⟩ (.int .i64 t300)).setCell ⟨gb302, 3, none⟩ (.int .i64 t301))) := ⟨tf6d_⟩
       (try clear HO_4)
       (try clear HO_6)
       (try clear BK302)
       (try clear HB)
       generalize ((((w28.setCell ⟨gb302, 0, none⟩ (.int .i64 t298)).setCell ⟨gb302, 1, none⟩ (.string t299)).setCell ⟨gb302, 2, none⟩ (.int .i64 t300)).setCell ⟨gb302, 3, none⟩ (.int .i64 t301)) = w30 at n0_ n1_ n2_ n3_ ⊢
       have HO_4 := n0_
       have HO_6 := n1_
       have BK302 := n2_
       have HB := n3_
       clear n0_ n1_ n2_ n3_
       have n0_ := Aside0.mk (Kd.R_drew HO_4.out)
       have n1_ := Aside0.mk (Kd.R_drew HO_6.out)
       have n2_ := Aside0.mk (blk_drew BK302.out)
       have n3_ := Aside0.mk (below_drew1 HB.out)
       clear HO_4
       clear HO_6
       clear BK302
       clear HB
       have HO_4 := n0_
       have HO_6 := n1_
       have BK302 := n2_
       have HB := n3_
       clear n0_ n1_ n2_ n3_
       refine start_ (n := 5) (S := fun w' => w'.cell? ⟨gb302, 0, none⟩ = some (.int .i64 t298) ∧ w'.cell? ⟨gb302, 1, none⟩ = some (.string t299) ∧ w'.cell? ⟨gb302, 2, none⟩ = some (.int .i64 t300) ∧ w'.cell? ⟨gb302, 3, none⟩ = some (.int .i64 t301)) (ds := []) (Array.replicate 5 false) (by kernel_rfl) rfl rfl ⟨(blk_cell BK302.out 0).trans rfl, (blk_cell BK302.out 1).trans rfl, (blk_cell BK302.out 2).trans rfl, (blk_cell BK302.out 3).trans rfl⟩ (fun hHeld => ?_)
       generalize w30.drew = w31 at HO_4 HO_6 BK302 HB hHeld ⊢
       refine take_ (i := 0) (N := some 39) (v := ?_) (a' := ?_) (bm 5 1) rfl rfl (by kernel_rfl) (fun _ _ _ h => h) (Or.inl ⟨by rfl, ?_⟩) hHeld ?_ ?_
       rotate_left
       ·
        rintro w' ⟨s0, s1, s2, s3⟩
        go_simp
        with_reducible rfl
       rotate_left; (simp only [Act.put, List.setIfInBounds_toArray, List.set_cons_zero, List.set_cons_succ, i64_w, i32_w]; rfl)
       refine take_ (i := 2) (N := some 41) (v := ?_) (a' := ?_) (bm 5 5) rfl rfl (by kernel_rfl) (fun _ _ _ h => h) (Or.inl ⟨by rfl, ?_⟩) hHeld ?_ ?_
       rotate_left
       ·
        rintro w' ⟨s0, s1, s2, s3⟩
        go_simp
        with_reducible rfl
       rotate_left; (simp only [Act.put, List.setIfInBounds_toArray, List.set_cons_zero, List.set_cons_succ, i64_w, i32_w]; rfl)
       refine one_ (i := 1) (N := some 40) (bm 5 7) rfl rfl (by kernel_rfl) (by decide) (fun K hK => ?_)
       refine goes_ Tryd.func9 (by kernel_rfl) rfl #[.agg #[.int .i64 t298, .string t299, .int .i64 t300, .int .i64 t301]] (by rfl) rfl rfl (by (try simp only [List.map_toArray, List.map_cons, List.map_nil]); first | done | rfl | (simp only [List.length_drop, List.length_take]; rfl)) ?_
       with_reducible refine (impl_Word.calls kj6 t298 t299 t300 t301 t303 _ A16.out).mono ?_
       rintro e w32 ⟨rfl, hb⟩
       refine ⟨_, rfl, ?_⟩
       have n0_ := Aside0.mk (Kd.R_below (tkR_ HO_4.out) hb)
       have n1_ := Aside0.mk (Kd.R_below (tkR_ HO_6.out) hb)
       have n2_ := Aside0.mk (blk_below (g := gb302) (o := .cells #[.int .i64 t298, .string t299, .int .i64 t300, .int .i64 t301] 29 (0, 0)) (tn_ BK302.out) hb)
       have n3_ := Aside0.mk (below_step (tf6d_) hb)
       clear HO_4
       clear HO_6
       clear BK302
       clear HB
       have HO_4 := n0_
       have HO_6 := n1_
       have BK302 := n2_
       have HB := n3_
       clear n0_ n1_ n2_ n3_
       (try clear hb)
       (try clear hb2)
       (try clear hk)
       (try clear hi)
       refine hK.out _ _ ⟨(blk_cell BK302.out 0).trans rfl, (blk_cell BK302.out 1).trans rfl, (blk_cell BK302.out 2).trans rfl, (blk_cell BK302.out 3).trans rfl⟩ (fun hHeld => ?_)
       clear hK K
       refine norm_ (a' := ?_) ?_ ?_
       rotate_left
       ·
        show Act.put _ (some 40) _ = _
        simp only [Act.put, List.setIfInBounds_toArray, List.set_cons_zero, List.set_cons_succ, i64_w, i32_w]
        rfl
       refine one_ (i := 3) (N := some 42) (bm 5 15) rfl rfl (by kernel_rfl) (by decide) (fun K hK => ?_)
       refine goes_ Tryd.func10 (by kernel_rfl) rfl #[.agg #[.int .i64 t298, .string t299, .int .i64 t300, .int .i64 t301]] (by rfl) rfl rfl (by (try simp only [List.map_toArray, List.map_cons, List.map_nil]); first | done | rfl | (simp only [List.length_drop, List.length_take]; rfl)) ?_
       with_reducible refine (spec_Word.calls kj6 t298 t299 t300 t301 t304 _ A17.out).mono ?_
       rintro e w33 ⟨rfl, hb⟩
       refine ⟨_, rfl, ?_⟩
       have n0_ := Aside0.mk (Kd.R_below (tkR_ HO_4.out) hb)
       have n1_ := Aside0.mk (Kd.R_below (tkR_ HO_6.out) hb)
       have n2_ := Aside0.mk (blk_below (g := gb302) (o := .cells #[.int .i64 t298, .string t299, .int .i64 t300, .int .i64 t301] 29 (0, 0)) (tn_ BK302.out) hb)
       have n3_ := Aside0.mk (below_step (tf6d_) hb)
       clear HO_4
       clear HO_6
       clear BK302
       clear HB
       have HO_4 := n0_
       have HO_6 := n1_
       have BK302 := n2_
       have HB := n3_
       clear n0_ n1_ n2_ n3_
       (try clear hb)
       (try clear hb2)
       (try clear hk)
       (try clear hi)
       refine hK.out _ _ ⟨(blk_cell BK302.out 0).trans rfl, (blk_cell BK302.out 1).trans rfl, (blk_cell BK302.out 2).trans rfl, (blk_cell BK302.out 3).trans rfl⟩ (fun hHeld => ?_)
       clear hK K
       refine norm_ (a' := ?_) ?_ ?_
       rotate_left
       ·
        show Act.put _ (some 42) _ = _
        simp only [Act.put, List.setIfInBounds_toArray, List.set_cons_zero, List.set_cons_succ, i64_w, i32_w]
        rfl
       refine pure_ (i := 4) (N := some 43) (v := ?_) (a' := ?_) (bm 5 31) rfl rfl (by kernel_rfl) (fun _ _ _ h => h) (Or.inl ⟨by rfl, ?_⟩) ?_ ?_; rotate_left; (intro w'; go_simp; with_reducible rfl); rotate_left; (simp only [Act.put, List.setIfInBounds_toArray, List.set_cons_zero, List.set_cons_succ, i64_w, i32_w]; rfl)
       refine done_ (by kernel_rfl) ?_
       obtain ⟨Ao34, co34, eo34⟩ := Kd.R_slice HO_4.out
       subst eo34
       try go_wp2
       go_ret
       exact ⟨by first | rfl | (simp [errW_none, errW_some] <;> rfl) | (simp [*, errW_none, errW_some] <;> rfl), tf6d_⟩
      ·
       rw [if_neg c26] at H
       have c26b0 : decide (0 ≤ t291) = false := decide_eq_false c26
       clear c26
       have H' := Aside0.mk H
       clear H
       try go_wp2_with (first | ((with_reducible refine gate_callee (f := 8) rfl ?_); refine gl_ (some 38) Tryd.func8 #[.slice A0 l0.length c0] ?_; (with_reducible refine (spec_DrawWord.calls kj6 _ _ l0 t298 t299 t300 t301 _ ?side1 ?side2 A15.out).mono ?_); (case side1 => repeat (first | exact (Kd.C_below HR0.out HB.out) | (with_reducible refine Kd.C_alloc ?_ _) | (with_reducible refine Kd.C_drewN ?_ _) | (with_reducible refine Kd.C_drew ?_))); (case side2 => exact HC0.out); rintro e w35 ⟨rfl, hb⟩; refine ⟨_, rfl, ?_⟩; have n0_ := Aside0.mk (Kd.R_below (tkR_ HO_4.out) hb); have n1_ := Aside0.mk (Kd.R_below (tkR_ HO_6.out) hb); have n2_ := Aside0.mk (below_step (t0c4_) hb); clear HO_4; clear HO_6; clear HB; have HO_4 := n0_; have HO_6 := n1_; have HB := n2_; clear n0_ n1_ n2_; (try clear hb); (try clear hb2); (try clear hk); (try clear hi)) | ((with_reducible refine gate_dst (N := 8) rfl ?_); (try (refine gate_guard (by rfl) ?_; dsimp only)); refine be_ 8 #[.int .i64 0, .string (⟨#[]⟩ : ByteArray), .int .i64 0, .int .i64 0] 29 ?_; intro gb302 hg w36 hbox hb; have n0_ := Aside0.mk (Kd.R_below (Kd.R_elderB (tkR_ HO_4.out) gb302 (Nat.le_of_eq hg.symm)) hb); have n1_ := Aside0.mk (Kd.R_below (Kd.R_elderB (tkR_ HO_6.out) gb302 (Nat.le_of_eq hg.symm)) hb); have n2_ := Aside0.mk (below_step (t0c4_) hb); have n3_ := Aside0.mk (hbox); have n4_ := Aside0.mk ((by rw [hg]; exact (below_size (t0c4_)) : w.heap.size ≤ gb302)); have n5_ := Aside0.mk ((by rw [hg]; exact (below_size (t0c4_)) : w.heap.size ≤ gb302)); clear HO_4; clear HO_6; clear HB; have HO_4 := n0_; have HO_6 := n1_; have HB := n2_; have BK302 := n3_; have GW302 := n4_; have GE302 := n5_; clear n0_ n1_ n2_ n3_ n4_ n5_; clear hb hbox hg; have hcz37_0 : w36.cell? ⟨gb302, 0, none⟩ = some (.int .i64 0) := (blk_cell BK302.out 0).trans rfl; have hcz37_1 : w36.cell? ⟨gb302, 1, none⟩ = some (.string (⟨#[]⟩ : ByteArray)) := (blk_cell BK302.out 1).trans rfl; have hcz37_2 : w36.cell? ⟨gb302, 2, none⟩ = some (.int .i64 0) := (blk_cell BK302.out 2).trans rfl; have hcz37_3 : w36.cell? ⟨gb302, 3, none⟩ = some (.int .i64 0) := (blk_cell BK302.out 3).trans rfl; have hfz37_0 := blk_frozen BK302.out 0; have hfz37_1 := blk_frozen BK302.out 1; have hfz37_2 := blk_frozen BK302.out 2; have hfz37_3 := blk_frozen BK302.out 3))
       have n0_ : Aside0 (Kd.R k29 29 ((((w36.setCell ⟨gb302, 0, none⟩ (.int .i64 t298)).setCell ⟨gb302, 1, none⟩ (.string t299)).setCell ⟨gb302, 2, none⟩ (.int .i64 t300)).setCell ⟨gb302, 3, none⟩ (.int .i64 t301)) w.heap.size (fun k_ => some k_ ≠ (v296 : Value).ownBlock ∧ k_ ≠ gb302) v292 t290) := ⟨by (with_reducible repeat (first | apply Kd.R_alloc | apply Kd.R_drewN | apply Kd.R_drew)); exact Kd.R_mono (Kd.R_far (p := ⟨gb302, 3, none⟩) (Kd.R_far (p := ⟨gb302, 2, none⟩) (Kd.R_far (p := ⟨gb302, 1, none⟩) (Kd.R_far (p := ⟨gb302, 0, none⟩) (Kd.R_mono HO_4.out (fun k_ hk => (⟨hk, hk.2⟩ : _ ∧ k_ ≠ gb302))) (fun _ hk => hk.2) (.int .i64 t298)) (fun _ hk => hk.2) (.string t299)) (fun _ hk => hk.2) (.int .i64 t300)) (fun _ hk => hk.2) (.int .i64 t301)) (fun _ hk => ⟨hk.1.1, hk.1.2⟩)⟩
       have n1_ : Aside0 (Kd.R k29 29 ((((w36.setCell ⟨gb302, 0, none⟩ (.int .i64 t298)).setCell ⟨gb302, 1, none⟩ (.string t299)).setCell ⟨gb302, 2, none⟩ (.int .i64 t300)).setCell ⟨gb302, 3, none⟩ (.int .i64 t301)) w.heap.size (fun k_ => some k_ ≠ (v292 : Value).ownBlock ∧ k_ ≠ gb302) v296 t294) := ⟨by (with_reducible repeat (first | apply Kd.R_alloc | apply Kd.R_drewN | apply Kd.R_drew)); exact Kd.R_mono (Kd.R_far (p := ⟨gb302, 3, none⟩) (Kd.R_far (p := ⟨gb302, 2, none⟩) (Kd.R_far (p := ⟨gb302, 1, none⟩) (Kd.R_far (p := ⟨gb302, 0, none⟩) (Kd.R_mono HO_6.out (fun k_ hk => (⟨hk, hk.2⟩ : _ ∧ k_ ≠ gb302))) (fun _ hk => hk.2) (.int .i64 t298)) (fun _ hk => hk.2) (.string t299)) (fun _ hk => hk.2) (.int .i64 t300)) (fun _ hk => hk.2) (.int .i64 t301)) (fun _ hk => ⟨hk.1.1, hk.1.2⟩)⟩
       have n2_ : Aside0 (((((w36.setCell ⟨gb302, 0, none⟩ (.int .i64 t298)).setCell ⟨gb302, 1, none⟩ (.string t299)).setCell ⟨gb302, 2, none⟩ (.int .i64 t300)).setCell ⟨gb302, 3, none⟩ (.int .i64 t301)).heap[gb302]? = some (.cells #[.int .i64 t298, .string t299, .int .i64 t300, .int .i64 t301] 29 (0, 0))) := ⟨by refine tp_ #[.int .i64 t298, .string t299, .int .i64 t300, .int .i64 0] 3 ?_; refine tp_ #[.int .i64 t298, .string t299, .int .i64 0, .int .i64 0] 2 ?_; refine tp_ #[.int .i64 t298, .string (⟨#[]⟩ : ByteArray), .int .i64 0, .int .i64 0] 1 ?_; refine tp_ #[.int .i64 0, .string (⟨#[]⟩ : ByteArray), .int .i64 0, .int .i64 0] 0 ?_; refine tn_ ?_; exact BK302.out⟩
       have n3_ : Aside0 (Below w.heap.size w ((((w36.setCell ⟨gb302, 0, none⟩ (.int .i64 t298)).setCell ⟨gb302, 1, none⟩ (.string t299)).setCell ⟨gb302, 2, none⟩ (.int .i64 t300)).setCell ⟨gb302, 3, none⟩ (.int .i64 t301))) := ⟨tf6d_⟩
       (try clear HO_4)
       (try clear HO_6)
       (try clear BK302)
       (try clear HB)
       generalize ((((w36.setCell ⟨gb302, 0, none⟩ (.int .i64 t298)).setCell ⟨gb302, 1, none⟩ (.string t299)).setCell ⟨gb302, 2, none⟩ (.int .i64 t300)).setCell ⟨gb302, 3, none⟩ (.int .i64 t301)) = w38 at n0_ n1_ n2_ n3_ ⊢
       have HO_4 := n0_
       have HO_6 := n1_
       have BK302 := n2_
       have HB := n3_
       clear n0_ n1_ n2_ n3_
       have n0_ := Aside0.mk (Kd.R_drew HO_4.out)
       have n1_ := Aside0.mk (Kd.R_drew HO_6.out)
       have n2_ := Aside0.mk (blk_drew BK302.out)
       have n3_ := Aside0.mk (below_drew1 HB.out)
       clear HO_4
       clear HO_6
       clear BK302
       clear HB
       have HO_4 := n0_
       have HO_6 := n1_
       have BK302 := n2_
       have HB := n3_
       clear n0_ n1_ n2_ n3_
       refine start_ (n := 5) (S := fun w' => w'.cell? ⟨gb302, 0, none⟩ = some (.int .i64 t298) ∧ w'.cell? ⟨gb302, 1, none⟩ = some (.string t299) ∧ w'.cell? ⟨gb302, 2, none⟩ = some (.int .i64 t300) ∧ w'.cell? ⟨gb302, 3, none⟩ = some (.int .i64 t301)) (ds := []) (Array.replicate 5 false) (by kernel_rfl) rfl rfl ⟨(blk_cell BK302.out 0).trans rfl, (blk_cell BK302.out 1).trans rfl, (blk_cell BK302.out 2).trans rfl, (blk_cell BK302.out 3).trans rfl⟩ (fun hHeld => ?_)
       generalize w38.drew = w39 at HO_4 HO_6 BK302 HB hHeld ⊢
       refine take_ (i := 0) (N := some 39) (v := ?_) (a' := ?_) (bm 5 1) rfl rfl (by kernel_rfl) (fun _ _ _ h => h) (Or.inl ⟨by rfl, ?_⟩) hHeld ?_ ?_
       rotate_left
       ·
        rintro w' ⟨s0, s1, s2, s3⟩
        go_simp
        with_reducible rfl
       rotate_left; (simp only [Act.put, List.setIfInBounds_toArray, List.set_cons_zero, List.set_cons_succ, i64_w, i32_w]; rfl)
       refine take_ (i := 2) (N := some 41) (v := ?_) (a' := ?_) (bm 5 5) rfl rfl (by kernel_rfl) (fun _ _ _ h => h) (Or.inl ⟨by rfl, ?_⟩) hHeld ?_ ?_
       rotate_left
       ·
        rintro w' ⟨s0, s1, s2, s3⟩
        go_simp
        with_reducible rfl
       rotate_left; (simp only [Act.put, List.setIfInBounds_toArray, List.set_cons_zero, List.set_cons_succ, i64_w, i32_w]; rfl)
       refine one_ (i := 1) (N := some 40) (bm 5 7) rfl rfl (by kernel_rfl) (by decide) (fun K hK => ?_)
       refine goes_ Tryd.func9 (by kernel_rfl) rfl #[.agg #[.int .i64 t298, .string t299, .int .i64 t300, .int .i64 t301]] (by rfl) rfl rfl (by (try simp only [List.map_toArray, List.map_cons, List.map_nil]); first | done | rfl | (simp only [List.length_drop, List.length_take]; rfl)) ?_
       with_reducible refine (impl_Word.calls kj6 t298 t299 t300 t301 t303 _ A16.out).mono ?_
       rintro e w40 ⟨rfl, hb⟩
       refine ⟨_, rfl, ?_⟩
       have n0_ := Aside0.mk (Kd.R_below (tkR_ HO_4.out) hb)
       have n1_ := Aside0.mk (Kd.R_below (tkR_ HO_6.out) hb)
       have n2_ := Aside0.mk (blk_below (g := gb302) (o := .cells #[.int .i64 t298, .string t299, .int .i64 t300, .int .i64 t301] 29 (0, 0)) (tn_ BK302.out) hb)
       have n3_ := Aside0.mk (below_step (tf6d_) hb)
       clear HO_4
       clear HO_6
       clear BK302
       clear HB
       have HO_4 := n0_
       have HO_6 := n1_
       have BK302 := n2_
       have HB := n3_
       clear n0_ n1_ n2_ n3_
       (try clear hb)
       (try clear hb2)
       (try clear hk)
       (try clear hi)
       refine hK.out _ _ ⟨(blk_cell BK302.out 0).trans rfl, (blk_cell BK302.out 1).trans rfl, (blk_cell BK302.out 2).trans rfl, (blk_cell BK302.out 3).trans rfl⟩ (fun hHeld => ?_)
       clear hK K
       refine norm_ (a' := ?_) ?_ ?_
       rotate_left
       ·
        show Act.put _ (some 40) _ = _
        simp only [Act.put, List.setIfInBounds_toArray, List.set_cons_zero, List.set_cons_succ, i64_w, i32_w]
        rfl
       refine one_ (i := 3) (N := some 42) (bm 5 15) rfl rfl (by kernel_rfl) (by decide) (fun K hK => ?_)
       refine goes_ Tryd.func10 (by kernel_rfl) rfl #[.agg #[.int .i64 t298, .string t299, .int .i64 t300, .int .i64 t301]] (by rfl) rfl rfl (by (try simp only [List.map_toArray, List.map_cons, List.map_nil]); first | done | rfl | (simp only [List.length_drop, List.length_take]; rfl)) ?_
       with_reducible refine (spec_Word.calls kj6 t298 t299 t300 t301 t304 _ A17.out).mono ?_
       rintro e w41 ⟨rfl, hb⟩
       refine ⟨_, rfl, ?_⟩
       have n0_ := Aside0.mk (Kd.R_below (tkR_ HO_4.out) hb)
       have n1_ := Aside0.mk (Kd.R_below (tkR_ HO_6.out) hb)
       have n2_ := Aside0.mk (blk_below (g := gb302) (o := .cells #[.int .i64 t298, .string t299, .int .i64 t300, .int .i64 t301] 29 (0, 0)) (tn_ BK302.out) hb)
       have n3_ := Aside0.mk (below_step (tf6d_) hb)
       clear HO_4
       clear HO_6
       clear BK302
       clear HB
       have HO_4 := n0_
       have HO_6 := n1_
       have BK302 := n2_
       have HB := n3_
       clear n0_ n1_ n2_ n3_
       (try clear hb)
       (try clear hb2)
       (try clear hk)
       (try clear hi)
       refine hK.out _ _ ⟨(blk_cell BK302.out 0).trans rfl, (blk_cell BK302.out 1).trans rfl, (blk_cell BK302.out 2).trans rfl, (blk_cell BK302.out 3).trans rfl⟩ (fun hHeld => ?_)
       clear hK K
       refine norm_ (a' := ?_) ?_ ?_
       rotate_left
       ·
        show Act.put _ (some 42) _ = _
        simp only [Act.put, List.setIfInBounds_toArray, List.set_cons_zero, List.set_cons_succ, i64_w, i32_w]
        rfl
       refine pure_ (i := 4) (N := some 43) (v := ?_) (a' := ?_) (bm 5 31) rfl rfl (by kernel_rfl) (fun _ _ _ h => h) (Or.inl ⟨by rfl, ?_⟩) ?_ ?_; rotate_left; (intro w'; go_simp; with_reducible rfl); rotate_left; (simp only [Act.put, List.setIfInBounds_toArray, List.set_cons_zero, List.set_cons_succ, i64_w, i32_w]; rfl)
       refine done_ (by kernel_rfl) ?_
       try go_wp2
       go_loopg [9] kj6 (fun kq v9 w' => ∃ (x9_2 : Int), v9 = .int .i64 x9_2 ∧ Aside0 (laws_FnTokens.l0 kq t289 t290 t294 x9_2 = some r) ∧ Aside0 (kq ≤ kj6) ∧ Aside0 (Kd.R k29 29 w' w.heap.size (fun k_ => some k_ ≠ (v296 : Value).ownBlock ∧ k_ ≠ gb302) v292 t290) ∧ Aside0 (Kd.R k29 29 w' w.heap.size (fun k_ => some k_ ≠ (v292 : Value).ownBlock ∧ k_ ≠ gb302) v296 t294) ∧ Aside0 (w'.heap[gb302]? = some (.cells #[.int .i64 t298, .string t299, .int .i64 t300, .int .i64 t301] 29 (0, 0))) ∧ Aside0 (Below w.heap.size w w'))
       case atStart => exact ⟨(0), (by first | rfl | (simp; done) | (simp [*]; done)), H', ⟨Nat.le_refl _⟩, ⟨by (with_reducible repeat (first | apply Kd.R_alloc | apply Kd.R_drewN | apply Kd.R_drew)); exact HO_4.out⟩, ⟨by (with_reducible repeat (first | apply Kd.R_alloc | apply Kd.R_drewN | apply Kd.R_drew)); exact HO_6.out⟩, ⟨by refine tn_ ?_; exact BK302.out⟩, ⟨tf6d_⟩⟩
       case round =>
        clear H'
        try clear c1
        try clear c2
        try clear p2
        try clear c3
        try clear c4
        try clear c5
        try clear c6
        try clear c7
        try clear c8
        try clear c9
        try clear c10
        try clear c11
        try clear c11b0
        try clear c11b1
        try clear c14
        try clear c18
        try clear c18b0
        try clear c18b1
        try clear c18b2
        try clear c26
        try clear c26b0
        try clear hcz21_0
        try clear hcz21_1
        try clear hcz21_2
        try clear hcz21_3
        try clear hcz29_0
        try clear hcz29_1
        try clear hcz29_2
        try clear hcz29_3
        try clear hcz37_0
        try clear hcz37_1
        try clear hcz37_2
        try clear hcz37_3
        try clear hfz21_0
        try clear hfz21_1
        try clear hfz21_2
        try clear hfz21_3
        try clear hfz29_0
        try clear hfz29_1
        try clear hfz29_2
        try clear hfz29_3
        try clear hfz37_0
        try clear hfz37_1
        try clear hfz37_2
        try clear hfz37_3
        try clear p2
        obtain ⟨x9_2, rfl, HA, HK2, HO_4, HO_6, BK302, HB⟩ := hrel
        cases gk with
        | zero => exact absurd HA.out (by simp [laws_FnTokens.l0])
        | succ k2 =>
         have H := HA.out
         clear HA
         simp only [laws_FnTokens.l0] at H
         by_cases c42 : x9_2 < (t290.length : Int)
         ·
          rw [if_pos c42] at H
          have c42b0 : decide (x9_2 < (t290.length : Int)) = true := decide_eq_true c42
          clear c42
          have HC43 := Aside0.mk H
          clear H
          obtain ⟨Ao44, co44, eo44⟩ := Kd.R_slice HO_4.out
          subst eo44
          go_upto_region 16 with (fail)
          go_cut [91] (fun v91 wc => ∃ (kq : Nat) (x91_42 : Bool), v91 = .bool x91_42 ∧ Aside0 (laws_FnTokens.j2 kq t289 t290 t294 x9_2 x91_42 = some r) ∧ Aside0 (kq ≤ k2) ∧ Aside0 (Kd.R k29 29 wc w.heap.size (fun k_ => some k_ ≠ (v296 : Value).ownBlock ∧ k_ ≠ gb302) (.slice Ao44 t290.length co44) t290) ∧ Aside0 (Kd.R k29 29 wc w.heap.size (fun k_ => some k_ ≠ ((.slice Ao44 t290.length co44) : Value).ownBlock ∧ k_ ≠ gb302) v296 t294) ∧ Aside0 (wc.heap[gb302]? = some (.cells #[.int .i64 t298, .string t299, .int .i64 t300, .int .i64 t301] 29 (0, 0))) ∧ Aside0 (Below w.heap.size w wc))
          case first =>
           have H := HC43.out
           clear HC43
           by_cases c45 : 0 ≤ x9_2
           ·
            rw [if_pos c45] at H
            have c45b0 : decide (0 ≤ x9_2) = true := decide_eq_true c45
            clear c45
            (first | rw [c45b0] | (simp only [i64_w, i32_w]; rw [c45b0]) | skip)
            by_cases c46 : x9_2 < (t294.length : Int)
            ·
             rw [if_pos c46] at H
             have c46b0 : decide (x9_2 < (t294.length : Int)) = true := decide_eq_true c46
             clear c46
             by_cases c47 : (!(((rd_T29 t290 x9_2).f0) == ((rd_T29 t294 x9_2).f0)) || (!((((rd_T29 t290 x9_2).f1).toList) == (((rd_T29 t294 x9_2).f1).toList)) || (!(((rd_T29 t290 x9_2).f2) == ((rd_T29 t294 x9_2).f2)) || (!(((rd_T29 t290 x9_2).f3) == ((rd_T29 t294 x9_2).f3)))))) = true
             ·
              rw [if_pos c47] at H
              have c47b0 : (!(((rd_T29 t290 x9_2).f0) == ((rd_T29 t294 x9_2).f0)) || (!((((rd_T29 t290 x9_2).f1).toList) == (((rd_T29 t294 x9_2).f1).toList)) || (!(((rd_T29 t290 x9_2).f2) == ((rd_T29 t294 x9_2).f2)) || (!(((rd_T29 t290 x9_2).f3) == ((rd_T29 t294 x9_2).f3)))))) = true := c47
              clear c47
              have H' := Aside0.mk H
              clear H
              try go_wp2
              have n0_ := Aside0.mk (Kd.R_drew HO_4.out)
              have n1_ := Aside0.mk (Kd.R_drew HO_6.out)
              have n2_ := Aside0.mk (blk_drew BK302.out)
              have n3_ := Aside0.mk (below_drew1 HB.out)
              clear HO_4
              clear HO_6
              clear BK302
              clear HB
              have HO_4 := n0_
              have HO_6 := n1_
              have BK302 := n2_
              have HB := n3_
              clear n0_ n1_ n2_ n3_
              have p310 : 0 ≤ (x9_2 : Int) := of_decide_eq_true (by first | (with_reducible assumption) | assumption)
              have q310 : x9_2 < (t290.length : Int) := of_decide_eq_true (by first | (with_reducible assumption) | assumption)
              obtain ⟨ad310, e310, hx310_0, hx310_1, hx310_2, hx310_3⟩ := at_T29 (Kd.R_reads' HO_4.out).2.2 x9_2 p310 q310
              cases e310
              replace p310 := eq_true p310
              replace q310 := eq_true q310
              obtain ⟨Ao49, co49, eo49⟩ := Kd.R_slice HO_6.out
              (first | subst eo49 | (injection eo49 with f1_ f2_ f3_; have f4_ := f1_.symm; have f5_ := f3_.symm; clear f1_ f2_ f3_; subst f4_; subst f5_))
              have p311 : 0 ≤ (x9_2 : Int) := of_decide_eq_true (by first | (with_reducible assumption) | assumption)
              have q311 : x9_2 < (t294.length : Int) := of_decide_eq_true (by first | (with_reducible assumption) | assumption)
              obtain ⟨ad311, e311, hx311_0, hx311_1, hx311_2, hx311_3⟩ := at_T29 (Kd.R_reads' HO_6.out).2.2 x9_2 p311 q311
              cases e311
              replace p311 := eq_true p311
              replace q311 := eq_true q311
              refine start_ (n := 37) (S := fun w' => w'.cell? (ad310.add ((x9_2).toNat * 4)) = some (.int .i64 ((rd_T29 t290 x9_2).f0)) ∧ w'.cell? ⟨(ad310.add ((x9_2).toNat * 4)).block, (ad310.add ((x9_2).toNat * 4)).off + 1, none⟩ = some (.string ((rd_T29 t290 x9_2).f1)) ∧ w'.cell? ⟨(ad310.add ((x9_2).toNat * 4)).block, (ad310.add ((x9_2).toNat * 4)).off + 2, none⟩ = some (.int .i64 ((rd_T29 t290 x9_2).f2)) ∧ w'.cell? ⟨(ad310.add ((x9_2).toNat * 4)).block, (ad310.add ((x9_2).toNat * 4)).off + 3, none⟩ = some (.int .i64 ((rd_T29 t290 x9_2).f3)) ∧ w'.cell? (ad311.add ((x9_2).toNat * 4)) = some (.int .i64 ((rd_T29 t294 x9_2).f0)) ∧ w'.cell? ⟨(ad311.add ((x9_2).toNat * 4)).block, (ad311.add ((x9_2).toNat * 4)).off + 1, none⟩ = some (.string ((rd_T29 t294 x9_2).f1)) ∧ w'.cell? ⟨(ad311.add ((x9_2).toNat * 4)).block, (ad311.add ((x9_2).toNat * 4)).off + 2, none⟩ = some (.int .i64 ((rd_T29 t294 x9_2).f2)) ∧ w'.cell? ⟨(ad311.add ((x9_2).toNat * 4)).block, (ad311.add ((x9_2).toNat * 4)).off + 3, none⟩ = some (.int .i64 ((rd_T29 t294 x9_2).f3))) (ds := []) (Array.replicate 37 false) (by kernel_rfl) rfl rfl ⟨hx310_0, hx310_1, hx310_2, hx310_3, hx311_0, hx311_1, hx311_2, hx311_3⟩ (fun hHeld => ?_); refine with_tabW laws_FnTokens.tab16 laws_FnTokens.bits16 (fun HT_ HW_ => ?_)
              generalize wr.drew = w48 at HO_4 HO_6 BK302 HB hx310_0 hx310_1 hx310_2 hx310_3 hx311_0 hx311_1 hx311_2 hx311_3 hHeld ⊢
              refine pv_ 0 (some 55) (bm 37 1) ?_
              refine pv_ 1 (some 56) (bm 37 3) ?_
              refine pv_ 2 (some 57) (bm 37 7) ?_
              refine pv_ 4 (some 59) (bm 37 23) ?_
              refine pv_ 5 (some 60) (bm 37 55) ?_
              refine pv_ 6 (some 61) (bm 37 119) ?_
              refine tv_ 3 (some 58) (bm 37 127) hHeld ?_
              refine tv_ 7 (some 62) (bm 37 255) hHeld ?_
              refine pv_ 8 (some 63) (bm 37 511) ?_
              refine pv_ 9 (some 64) (bm 37 1023) ?_
              refine pure_ (i := 10) (N := some 65) (v := undef) (a' := ?_) (bm 37 2047) rfl rfl (any_of HT_.out (by kernel_rfl)) (fun _ _ _ h => h) (Or.inr ⟨by rfl, rfl⟩) ?_ ?_
              rotate_left; (simp only [Act.put, List.setIfInBounds_toArray, List.set_cons_zero, List.set_cons_succ, i64_w, i32_w]; rfl)
              refine pure_ (i := 11) (N := some 66) (v := undef) (a' := ?_) (bm 37 4095) rfl rfl (any_of HT_.out (by kernel_rfl)) (fun _ _ _ h => h) (Or.inr ⟨by rfl, rfl⟩) ?_ ?_
              rotate_left; (simp only [Act.put, List.setIfInBounds_toArray, List.set_cons_zero, List.set_cons_succ, i64_w, i32_w]; rfl)
              refine pure_ (i := 12) (N := some 67) (v := undef) (a' := ?_) (bm 37 8191) rfl rfl (any_of HT_.out (by kernel_rfl)) (fun _ _ _ h => h) (Or.inr ⟨by rfl, rfl⟩) ?_ ?_
              rotate_left; (simp only [Act.put, List.setIfInBounds_toArray, List.set_cons_zero, List.set_cons_succ, i64_w, i32_w]; rfl)
              refine pure_ (i := 13) (N := some 68) (v := undef) (a' := ?_) (bm 37 16383) rfl rfl (any_of HT_.out (by kernel_rfl)) (fun _ _ _ h => h) (Or.inr ⟨by rfl, rfl⟩) ?_ ?_
              rotate_left; (simp only [Act.put, List.setIfInBounds_toArray, List.set_cons_zero, List.set_cons_succ, i64_w, i32_w]; rfl)
              refine pure_ (i := 14) (N := some 69) (v := undef) (a' := ?_) (bm 37 32767) rfl rfl (any_of HT_.out (by kernel_rfl)) (fun _ _ _ h => h) (Or.inr ⟨by rfl, rfl⟩) ?_ ?_
              rotate_left; (simp only [Act.put, List.setIfInBounds_toArray, List.set_cons_zero, List.set_cons_succ, i64_w, i32_w]; rfl)
              refine pure_ (i := 15) (N := some 70) (v := undef) (a' := ?_) (bm 37 65535) rfl rfl (any_of HT_.out (by kernel_rfl)) (fun _ _ _ h => h) (Or.inr ⟨by rfl, rfl⟩) ?_ ?_
              rotate_left; (simp only [Act.put, List.setIfInBounds_toArray, List.set_cons_zero, List.set_cons_succ, i64_w, i32_w]; rfl)
              refine pure_ (i := 16) (N := some 71) (v := undef) (a' := ?_) (bm 37 131071) rfl rfl (any_of HT_.out (by kernel_rfl)) (fun _ _ _ h => h) (Or.inr ⟨by rfl, rfl⟩) ?_ ?_
              rotate_left; (simp only [Act.put, List.setIfInBounds_toArray, List.set_cons_zero, List.set_cons_succ, i64_w, i32_w]; rfl)
              refine pure_ (i := 17) (N := some 72) (v := undef) (a' := ?_) (bm 37 262143) rfl rfl (any_of HT_.out (by kernel_rfl)) (fun _ _ _ h => h) (Or.inr ⟨by rfl, rfl⟩) ?_ ?_
              rotate_left; (simp only [Act.put, List.setIfInBounds_toArray, List.set_cons_zero, List.set_cons_succ, i64_w, i32_w]; rfl)
              refine pure_ (i := 18) (N := some 73) (v := undef) (a' := ?_) (bm 37 524287) rfl rfl (any_of HT_.out (by kernel_rfl)) (fun _ _ _ h => h) (Or.inr ⟨by rfl, rfl⟩) ?_ ?_
              rotate_left; (simp only [Act.put, List.setIfInBounds_toArray, List.set_cons_zero, List.set_cons_succ, i64_w, i32_w]; rfl)
              refine pure_ (i := 19) (N := some 74) (v := undef) (a' := ?_) (bm 37 1048575) rfl rfl (any_of HT_.out (by kernel_rfl)) (fun _ _ _ h => h) (Or.inr ⟨by rfl, rfl⟩) ?_ ?_
              rotate_left; (simp only [Act.put, List.setIfInBounds_toArray, List.set_cons_zero, List.set_cons_succ, i64_w, i32_w]; rfl)
              refine pure_ (i := 20) (N := some 75) (v := undef) (a' := ?_) (bm 37 2097151) rfl rfl (any_of HT_.out (by kernel_rfl)) (fun _ _ _ h => h) (Or.inr ⟨by rfl, rfl⟩) ?_ ?_
              rotate_left; (simp only [Act.put, List.setIfInBounds_toArray, List.set_cons_zero, List.set_cons_succ, i64_w, i32_w]; rfl)
              refine pure_ (i := 21) (N := some 76) (v := undef) (a' := ?_) (bm 37 4194303) rfl rfl (any_of HT_.out (by kernel_rfl)) (fun _ _ _ h => h) (Or.inr ⟨by rfl, rfl⟩) ?_ ?_
              rotate_left; (simp only [Act.put, List.setIfInBounds_toArray, List.set_cons_zero, List.set_cons_succ, i64_w, i32_w]; rfl)
              refine pure_ (i := 22) (N := some 77) (v := undef) (a' := ?_) (bm 37 8388607) rfl rfl (any_of HT_.out (by kernel_rfl)) (fun _ _ _ h => h) (Or.inr ⟨by rfl, rfl⟩) ?_ ?_
              rotate_left; (simp only [Act.put, List.setIfInBounds_toArray, List.set_cons_zero, List.set_cons_succ, i64_w, i32_w]; rfl)
              refine pure_ (i := 23) (N := some 78) (v := undef) (a' := ?_) (bm 37 16777215) rfl rfl (any_of HT_.out (by kernel_rfl)) (fun _ _ _ h => h) (Or.inr ⟨by rfl, rfl⟩) ?_ ?_
              rotate_left; (simp only [Act.put, List.setIfInBounds_toArray, List.set_cons_zero, List.set_cons_succ, i64_w, i32_w]; rfl)
              refine pure_ (i := 24) (N := some 79) (v := undef) (a' := ?_) (bm 37 33554431) rfl rfl (any_of HT_.out (by kernel_rfl)) (fun _ _ _ h => h) (Or.inr ⟨by rfl, rfl⟩) ?_ ?_
              rotate_left; (simp only [Act.put, List.setIfInBounds_toArray, List.set_cons_zero, List.set_cons_succ, i64_w, i32_w]; rfl)
              refine pure_ (i := 25) (N := some 80) (v := undef) (a' := ?_) (bm 37 67108863) rfl rfl (any_of HT_.out (by kernel_rfl)) (fun _ _ _ h => h) (Or.inr ⟨by rfl, rfl⟩) ?_ ?_
              rotate_left; (simp only [Act.put, List.setIfInBounds_toArray, List.set_cons_zero, List.set_cons_succ, i64_w, i32_w]; rfl)
              refine pv_ 26 (some 81) (bm 37 134217727) ?_
              refine pv_ 27 (some 82) (bm 37 268435455) ?_
              refine pure_ (i := 28) (N := some 83) (v := undef) (a' := ?_) (bm 37 536870911) rfl rfl (any_of HT_.out (by kernel_rfl)) (fun _ _ _ h => h) (Or.inr ⟨by rfl, rfl⟩) ?_ ?_
              rotate_left; (simp only [Act.put, List.setIfInBounds_toArray, List.set_cons_zero, List.set_cons_succ, i64_w, i32_w]; rfl)
              refine pure_ (i := 29) (N := some 84) (v := undef) (a' := ?_) (bm 37 1073741823) rfl rfl (any_of HT_.out (by kernel_rfl)) (fun _ _ _ h => h) (Or.inr ⟨by rfl, rfl⟩) ?_ ?_
              rotate_left; (simp only [Act.put, List.setIfInBounds_toArray, List.set_cons_zero, List.set_cons_succ, i64_w, i32_w]; rfl)
              refine pure_ (i := 30) (N := some 85) (v := undef) (a' := ?_) (bm 37 2147483647) rfl rfl (any_of HT_.out (by kernel_rfl)) (fun _ _ _ h => h) (Or.inr ⟨by rfl, rfl⟩) ?_ ?_
              rotate_left; (simp only [Act.put, List.setIfInBounds_toArray, List.set_cons_zero, List.set_cons_succ, i64_w, i32_w]; rfl)
              refine pure_ (i := 31) (N := some 86) (v := undef) (a' := ?_) (bm 37 4294967295) rfl rfl (any_of HT_.out (by kernel_rfl)) (fun _ _ _ h => h) (Or.inr ⟨by rfl, rfl⟩) ?_ ?_
              rotate_left; (simp only [Act.put, List.setIfInBounds_toArray, List.set_cons_zero, List.set_cons_succ, i64_w, i32_w]; rfl)
              refine pure_ (i := 32) (N := some 87) (v := undef) (a' := ?_) (bm 37 8589934591) rfl rfl (any_of HT_.out (by kernel_rfl)) (fun _ _ _ h => h) (Or.inr ⟨by rfl, rfl⟩) ?_ ?_
              rotate_left; (simp only [Act.put, List.setIfInBounds_toArray, List.set_cons_zero, List.set_cons_succ, i64_w, i32_w]; rfl)
              refine pure_ (i := 33) (N := some 88) (v := undef) (a' := ?_) (bm 37 17179869183) rfl rfl (any_of HT_.out (by kernel_rfl)) (fun _ _ _ h => h) (Or.inr ⟨by rfl, rfl⟩) ?_ ?_
              rotate_left; (simp only [Act.put, List.setIfInBounds_toArray, List.set_cons_zero, List.set_cons_succ, i64_w, i32_w]; rfl)
              refine pure_ (i := 34) (N := some 89) (v := undef) (a' := ?_) (bm 37 34359738367) rfl rfl (any_of HT_.out (by kernel_rfl)) (fun _ _ _ h => h) (Or.inr ⟨by rfl, rfl⟩) ?_ ?_
              rotate_left; (simp only [Act.put, List.setIfInBounds_toArray, List.set_cons_zero, List.set_cons_succ, i64_w, i32_w]; rfl)
              refine pure_ (i := 35) (N := some 90) (v := undef) (a' := ?_) (bm 37 68719476735) rfl rfl (any_of HT_.out (by kernel_rfl)) (fun _ _ _ h => h) (Or.inr ⟨by rfl, rfl⟩) ?_ ?_
              rotate_left; (simp only [Act.put, List.setIfInBounds_toArray, List.set_cons_zero, List.set_cons_succ, i64_w, i32_w]; rfl)
              refine pv_ 36 (some 91) (bm 37 137438953471) ?_
              refine done_ (done_of HT_.out (by kernel_rfl)) ?_
              try go_wp2
              go_meet
              case rel => exact ⟨_, (true), (by first | rfl | (simp; done) | (simp [*]; done)), H', ⟨by have := HJ6.out; have := HK2.out; first | omega | exact Nat.le_refl _⟩, ⟨by (with_reducible repeat (first | apply Kd.R_alloc | apply Kd.R_drewN | apply Kd.R_drew)); exact HO_4.out⟩, ⟨by (with_reducible repeat (first | apply Kd.R_alloc | apply Kd.R_drewN | apply Kd.R_drew)); exact HO_6.out⟩, ⟨by refine tn_ ?_; exact BK302.out⟩, ⟨tf6d_⟩⟩
             ·
              rw [if_neg c47] at H
              have c47b0 : (!(((rd_T29 t290 x9_2).f0) == ((rd_T29 t294 x9_2).f0)) || (!((((rd_T29 t290 x9_2).f1).toList) == (((rd_T29 t294 x9_2).f1).toList)) || (!(((rd_T29 t290 x9_2).f2) == ((rd_T29 t294 x9_2).f2)) || (!(((rd_T29 t290 x9_2).f3) == ((rd_T29 t294 x9_2).f3)))))) = false := by simpa using c47
              clear c47
              by_cases c50 : x9_2 > 0
              ·
               rw [if_pos c50] at H
               have c50b0 : decide (0 < x9_2) = true := decide_eq_true c50
               clear c50
               obtain ⟨ji51, hji51⟩ : ∃ j_ : Int, (wrap64 (x9_2 - 1)) = j_ := ⟨_, rfl⟩
               replace H : (if 0 ≤ (ji51) then (if (ji51) < (t290.length : Int) then (if ((rd_T29 t290 (ji51)).f3) ≥ ((rd_T29 t290 x9_2).f3) then (laws_FnTokens.j2 k2 t289 t290 t294 x9_2 true) else (laws_FnTokens.j2 k2 t289 t290 t294 x9_2 (decide (((rd_T29 t290 x9_2).f3) > (t289.size : Int))))) else (none)) else (none)) = some r := by first | (rw [hji51] at H; exact H) | (simp only [hji51] at H ⊢; exact H)
               have hji51w : (IntKind.i64.wrap (x9_2 - 1)) = ji51 := (i64_w _).trans hji51
               by_cases c52 : 0 ≤ (ji51)
               ·
                rw [if_pos c52] at H
                have c52b0 : decide (0 ≤ (ji51)) = true := decide_eq_true c52
                clear c52
                by_cases c53 : (ji51) < (t290.length : Int)
                ·
                 rw [if_pos c53] at H
                 have c53b0 : decide ((ji51) < (t290.length : Int)) = true := decide_eq_true c53
                 clear c53
                 by_cases c54 : ((rd_T29 t290 (ji51)).f3) ≥ ((rd_T29 t290 x9_2).f3)
                 ·
                  rw [if_pos c54] at H
                  have c54b0 : decide (((rd_T29 t290 x9_2).f3) ≤ ((rd_T29 t290 (ji51)).f3)) = true := decide_eq_true c54
                  clear c54
                  have H' := Aside0.mk H
                  clear H
                  try go_wp2
                  have n0_ := Aside0.mk (Kd.R_drew HO_4.out)
                  have n1_ := Aside0.mk (Kd.R_drew HO_6.out)
                  have n2_ := Aside0.mk (blk_drew BK302.out)
                  have n3_ := Aside0.mk (below_drew1 HB.out)
                  clear HO_4
                  clear HO_6
                  clear BK302
                  clear HB
                  have HO_4 := n0_
                  have HO_6 := n1_
                  have BK302 := n2_
                  have HB := n3_
                  clear n0_ n1_ n2_ n3_
                  have p310 : 0 ≤ (x9_2 : Int) := of_decide_eq_true (by first | (with_reducible assumption) | assumption)
                  have q310 : x9_2 < (t290.length : Int) := of_decide_eq_true (by first | (with_reducible assumption) | assumption)
                  obtain ⟨ad310, e310, hx310_0, hx310_1, hx310_2, hx310_3⟩ := at_T29 (Kd.R_reads' HO_4.out).2.2 x9_2 p310 q310
                  cases e310
                  replace p310 := eq_true p310
                  replace q310 := eq_true q310
                  obtain ⟨Ao56, co56, eo56⟩ := Kd.R_slice HO_6.out
                  (first | subst eo56 | (injection eo56 with f1_ f2_ f3_; have f4_ := f1_.symm; have f5_ := f3_.symm; clear f1_ f2_ f3_; subst f4_; subst f5_))
                  have p311 : 0 ≤ (x9_2 : Int) := of_decide_eq_true (by first | (with_reducible assumption) | assumption)
                  have q311 : x9_2 < (t294.length : Int) := of_decide_eq_true (by first | (with_reducible assumption) | assumption)
                  obtain ⟨ad311, e311, hx311_0, hx311_1, hx311_2, hx311_3⟩ := at_T29 (Kd.R_reads' HO_6.out).2.2 x9_2 p311 q311
                  cases e311
                  replace p311 := eq_true p311
                  replace q311 := eq_true q311
                  have p312 : 0 ≤ ((ji51) : Int) := of_decide_eq_true (by first | (with_reducible assumption) | assumption)
                  have q312 : (ji51) < (t290.length : Int) := of_decide_eq_true (by first | (with_reducible assumption) | assumption)
                  obtain ⟨ad312, e312, hx312_0, hx312_1, hx312_2, hx312_3⟩ := at_T29 (Kd.R_reads' HO_4.out).2.2 (ji51) p312 q312
                  obtain rfl : ad310 = ad312 := (by injection e312)
                  replace p312 := eq_true p312
                  replace q312 := eq_true q312
                  have p313 : 0 ≤ (x9_2 : Int) := of_decide_eq_true (by first | (with_reducible assumption) | assumption)
                  have q313 : x9_2 < (t290.length : Int) := of_decide_eq_true (by first | (with_reducible assumption) | assumption)
                  obtain ⟨ad313, e313, hx313_0, hx313_1, hx313_2, hx313_3⟩ := at_T29 (Kd.R_reads' HO_4.out).2.2 x9_2 p313 q313
                  obtain rfl : ad310 = ad313 := (by injection e313)
                  replace p313 := eq_true p313
                  replace q313 := eq_true q313
                  refine start_ (n := 37) (S := fun w' => w'.cell? (ad310.add ((x9_2).toNat * 4)) = some (.int .i64 ((rd_T29 t290 x9_2).f0)) ∧ w'.cell? ⟨(ad310.add ((x9_2).toNat * 4)).block, (ad310.add ((x9_2).toNat * 4)).off + 1, none⟩ = some (.string ((rd_T29 t290 x9_2).f1)) ∧ w'.cell? ⟨(ad310.add ((x9_2).toNat * 4)).block, (ad310.add ((x9_2).toNat * 4)).off + 2, none⟩ = some (.int .i64 ((rd_T29 t290 x9_2).f2)) ∧ w'.cell? ⟨(ad310.add ((x9_2).toNat * 4)).block, (ad310.add ((x9_2).toNat * 4)).off + 3, none⟩ = some (.int .i64 ((rd_T29 t290 x9_2).f3)) ∧ w'.cell? (ad311.add ((x9_2).toNat * 4)) = some (.int .i64 ((rd_T29 t294 x9_2).f0)) ∧ w'.cell? ⟨(ad311.add ((x9_2).toNat * 4)).block, (ad311.add ((x9_2).toNat * 4)).off + 1, none⟩ = some (.string ((rd_T29 t294 x9_2).f1)) ∧ w'.cell? ⟨(ad311.add ((x9_2).toNat * 4)).block, (ad311.add ((x9_2).toNat * 4)).off + 2, none⟩ = some (.int .i64 ((rd_T29 t294 x9_2).f2)) ∧ w'.cell? ⟨(ad311.add ((x9_2).toNat * 4)).block, (ad311.add ((x9_2).toNat * 4)).off + 3, none⟩ = some (.int .i64 ((rd_T29 t294 x9_2).f3)) ∧ w'.cell? (ad310.add (((ji51)).toNat * 4)) = some (.int .i64 ((rd_T29 t290 (ji51)).f0)) ∧ w'.cell? ⟨(ad310.add (((ji51)).toNat * 4)).block, (ad310.add (((ji51)).toNat * 4)).off + 1, none⟩ = some (.string ((rd_T29 t290 (ji51)).f1)) ∧ w'.cell? ⟨(ad310.add (((ji51)).toNat * 4)).block, (ad310.add (((ji51)).toNat * 4)).off + 2, none⟩ = some (.int .i64 ((rd_T29 t290 (ji51)).f2)) ∧ w'.cell? ⟨(ad310.add (((ji51)).toNat * 4)).block, (ad310.add (((ji51)).toNat * 4)).off + 3, none⟩ = some (.int .i64 ((rd_T29 t290 (ji51)).f3)) ∧ w'.cell? (ad310.add ((x9_2).toNat * 4)) = some (.int .i64 ((rd_T29 t290 x9_2).f0)) ∧ w'.cell? ⟨(ad310.add ((x9_2).toNat * 4)).block, (ad310.add ((x9_2).toNat * 4)).off + 1, none⟩ = some (.string ((rd_T29 t290 x9_2).f1)) ∧ w'.cell? ⟨(ad310.add ((x9_2).toNat * 4)).block, (ad310.add ((x9_2).toNat * 4)).off + 2, none⟩ = some (.int .i64 ((rd_T29 t290 x9_2).f2)) ∧ w'.cell? ⟨(ad310.add ((x9_2).toNat * 4)).block, (ad310.add ((x9_2).toNat * 4)).off + 3, none⟩ = some (.int .i64 ((rd_T29 t290 x9_2).f3))) (ds := []) (Array.replicate 37 false) (by kernel_rfl) rfl rfl ⟨hx310_0, hx310_1, hx310_2, hx310_3, hx311_0, hx311_1, hx311_2, hx311_3, hx312_0, hx312_1, hx312_2, hx312_3, hx313_0, hx313_1, hx313_2, hx313_3⟩ (fun hHeld => ?_); refine with_tabW laws_FnTokens.tab16 laws_FnTokens.bits16 (fun HT_ HW_ => ?_)
                  generalize wr.drew = w55 at HO_4 HO_6 BK302 HB hx310_0 hx310_1 hx310_2 hx310_3 hx311_0 hx311_1 hx311_2 hx311_3 hx312_0 hx312_1 hx312_2 hx312_3 hx313_0 hx313_1 hx313_2 hx313_3 hHeld ⊢
                  refine pv_ 0 (some 55) (bm 37 1) ?_
                  refine pv_ 1 (some 56) (bm 37 3) ?_
                  refine pv_ 2 (some 57) (bm 37 7) ?_
                  refine pv_ 4 (some 59) (bm 37 23) ?_
                  refine pv_ 5 (some 60) (bm 37 55) ?_
                  refine pv_ 6 (some 61) (bm 37 119) ?_
                  refine tv_ 3 (some 58) (bm 37 127) hHeld ?_
                  refine tv_ 7 (some 62) (bm 37 255) hHeld ?_
                  refine pv_ 8 (some 63) (bm 37 511) ?_
                  refine pv_ 9 (some 64) (bm 37 1023) ?_
                  refine pv_ 10 (some 65) (bm 37 2047) ?_
                  refine pv_ 11 (some 66) (bm 37 4095) ?_
                  refine pv_ 12 (some 67) (bm 37 8191) ?_
                  refine pv_ 13 (some 68) (bm 37 16383) ?_
                  refine pv_ 14 (some 69) (bm 37 32767) ?_
                  refine pv_ 15 (some 70) (bm 37 65535) ?_
                  refine pv_ 16 (some 71) (bm 37 131071) ?_
                  refine pv_ 17 (some 72) (bm 37 262143) ?_
                  refine pv_ 19 (some 74) (bm 37 786431) ?_
                  refine pv_ 20 (some 75) (bm 37 1835007) ?_
                  refine pv_ 21 (some 76) (bm 37 3932159) ?_
                  refine pv_ 22 (some 77) (bm 37 8126463) ?_
                  refine tv_ 18 (some 73) (bm 37 8388607) hHeld ?_
                  refine tv_ 23 (some 78) (bm 37 16777215) hHeld ?_
                  refine pv_ 24 (some 79) (bm 37 33554431) ?_
                  refine pv_ 25 (some 80) (bm 37 67108863) ?_
                  refine pv_ 26 (some 81) (bm 37 134217727) ?_
                  refine pv_ 27 (some 82) (bm 37 268435455) ?_
                  refine pure_ (i := 28) (N := some 83) (v := undef) (a' := ?_) (bm 37 536870911) rfl rfl (any_of HT_.out (by kernel_rfl)) (fun _ _ _ h => h) (Or.inr ⟨by rfl, rfl⟩) ?_ ?_
                  rotate_left; (simp only [Act.put, List.setIfInBounds_toArray, List.set_cons_zero, List.set_cons_succ, i64_w, i32_w]; rfl)
                  refine pure_ (i := 29) (N := some 84) (v := undef) (a' := ?_) (bm 37 1073741823) rfl rfl (any_of HT_.out (by kernel_rfl)) (fun _ _ _ h => h) (Or.inr ⟨by rfl, rfl⟩) ?_ ?_
                  rotate_left; (simp only [Act.put, List.setIfInBounds_toArray, List.set_cons_zero, List.set_cons_succ, i64_w, i32_w]; rfl)
                  refine pure_ (i := 30) (N := some 85) (v := undef) (a' := ?_) (bm 37 2147483647) rfl rfl (any_of HT_.out (by kernel_rfl)) (fun _ _ _ h => h) (Or.inr ⟨by rfl, rfl⟩) ?_ ?_
                  rotate_left; (simp only [Act.put, List.setIfInBounds_toArray, List.set_cons_zero, List.set_cons_succ, i64_w, i32_w]; rfl)
                  refine pure_ (i := 31) (N := some 86) (v := undef) (a' := ?_) (bm 37 4294967295) rfl rfl (any_of HT_.out (by kernel_rfl)) (fun _ _ _ h => h) (Or.inr ⟨by rfl, rfl⟩) ?_ ?_
                  rotate_left; (simp only [Act.put, List.setIfInBounds_toArray, List.set_cons_zero, List.set_cons_succ, i64_w, i32_w]; rfl)
                  refine pure_ (i := 32) (N := some 87) (v := undef) (a' := ?_) (bm 37 8589934591) rfl rfl (any_of HT_.out (by kernel_rfl)) (fun _ _ _ h => h) (Or.inr ⟨by rfl, rfl⟩) ?_ ?_
                  rotate_left; (simp only [Act.put, List.setIfInBounds_toArray, List.set_cons_zero, List.set_cons_succ, i64_w, i32_w]; rfl)
                  refine pure_ (i := 33) (N := some 88) (v := undef) (a' := ?_) (bm 37 17179869183) rfl rfl (any_of HT_.out (by kernel_rfl)) (fun _ _ _ h => h) (Or.inr ⟨by rfl, rfl⟩) ?_ ?_
                  rotate_left; (simp only [Act.put, List.setIfInBounds_toArray, List.set_cons_zero, List.set_cons_succ, i64_w, i32_w]; rfl)
                  refine pure_ (i := 34) (N := some 89) (v := undef) (a' := ?_) (bm 37 34359738367) rfl rfl (any_of HT_.out (by kernel_rfl)) (fun _ _ _ h => h) (Or.inr ⟨by rfl, rfl⟩) ?_ ?_
                  rotate_left; (simp only [Act.put, List.setIfInBounds_toArray, List.set_cons_zero, List.set_cons_succ, i64_w, i32_w]; rfl)
                  refine pure_ (i := 35) (N := some 90) (v := undef) (a' := ?_) (bm 37 68719476735) rfl rfl (any_of HT_.out (by kernel_rfl)) (fun _ _ _ h => h) (Or.inr ⟨by rfl, rfl⟩) ?_ ?_
                  rotate_left; (simp only [Act.put, List.setIfInBounds_toArray, List.set_cons_zero, List.set_cons_succ, i64_w, i32_w]; rfl)
                  refine pv_ 36 (some 91) (bm 37 137438953471) ?_
                  refine done_ (done_of HT_.out (by kernel_rfl)) ?_
                  try go_wp2
                  go_meet
                  case rel => exact ⟨_, (true), (by first | rfl | (simp; done) | (simp [*]; done)), H', ⟨by have := HJ6.out; have := HK2.out; first | omega | exact Nat.le_refl _⟩, ⟨by (with_reducible repeat (first | apply Kd.R_alloc | apply Kd.R_drewN | apply Kd.R_drew)); exact HO_4.out⟩, ⟨by (with_reducible repeat (first | apply Kd.R_alloc | apply Kd.R_drewN | apply Kd.R_drew)); exact HO_6.out⟩, ⟨by refine tn_ ?_; exact BK302.out⟩, ⟨tf6d_⟩⟩
                 ·
                  rw [if_neg c54] at H
                  have c54b0 : decide (((rd_T29 t290 x9_2).f3) ≤ ((rd_T29 t290 (ji51)).f3)) = false := decide_eq_false c54
                  clear c54
                  have H' := Aside0.mk H
                  clear H
                  try go_wp2
                  have n0_ := Aside0.mk (Kd.R_drew HO_4.out)
                  have n1_ := Aside0.mk (Kd.R_drew HO_6.out)
                  have n2_ := Aside0.mk (blk_drew BK302.out)
                  have n3_ := Aside0.mk (below_drew1 HB.out)
                  clear HO_4
                  clear HO_6
                  clear BK302
                  clear HB
                  have HO_4 := n0_
                  have HO_6 := n1_
                  have BK302 := n2_
                  have HB := n3_
                  clear n0_ n1_ n2_ n3_
                  have p310 : 0 ≤ (x9_2 : Int) := of_decide_eq_true (by first | (with_reducible assumption) | assumption)
                  have q310 : x9_2 < (t290.length : Int) := of_decide_eq_true (by first | (with_reducible assumption) | assumption)
                  obtain ⟨ad310, e310, hx310_0, hx310_1, hx310_2, hx310_3⟩ := at_T29 (Kd.R_reads' HO_4.out).2.2 x9_2 p310 q310
                  cases e310
                  replace p310 := eq_true p310
                  replace q310 := eq_true q310
                  obtain ⟨Ao58, co58, eo58⟩ := Kd.R_slice HO_6.out
                  (first | subst eo58 | (injection eo58 with f1_ f2_ f3_; have f4_ := f1_.symm; have f5_ := f3_.symm; clear f1_ f2_ f3_; subst f4_; subst f5_))
                  have p311 : 0 ≤ (x9_2 : Int) := of_decide_eq_true (by first | (with_reducible assumption) | assumption)
                  have q311 : x9_2 < (t294.length : Int) := of_decide_eq_true (by first | (with_reducible assumption) | assumption)
                  obtain ⟨ad311, e311, hx311_0, hx311_1, hx311_2, hx311_3⟩ := at_T29 (Kd.R_reads' HO_6.out).2.2 x9_2 p311 q311
                  cases e311
                  replace p311 := eq_true p311
                  replace q311 := eq_true q311
                  have p312 : 0 ≤ ((ji51) : Int) := of_decide_eq_true (by first | (with_reducible assumption) | assumption)
                  have q312 : (ji51) < (t290.length : Int) := of_decide_eq_true (by first | (with_reducible assumption) | assumption)
                  obtain ⟨ad312, e312, hx312_0, hx312_1, hx312_2, hx312_3⟩ := at_T29 (Kd.R_reads' HO_4.out).2.2 (ji51) p312 q312
                  obtain rfl : ad310 = ad312 := (by injection e312)
                  replace p312 := eq_true p312
                  replace q312 := eq_true q312
                  have p313 : 0 ≤ (x9_2 : Int) := of_decide_eq_true (by first | (with_reducible assumption) | assumption)
                  have q313 : x9_2 < (t290.length : Int) := of_decide_eq_true (by first | (with_reducible assumption) | assumption)
                  obtain ⟨ad313, e313, hx313_0, hx313_1, hx313_2, hx313_3⟩ := at_T29 (Kd.R_reads' HO_4.out).2.2 x9_2 p313 q313
                  obtain rfl : ad310 = ad313 := (by injection e313)
                  replace p313 := eq_true p313
                  replace q313 := eq_true q313
                  have p314 : 0 ≤ (x9_2 : Int) := of_decide_eq_true (by first | (with_reducible assumption) | assumption)
                  have q314 : x9_2 < (t290.length : Int) := of_decide_eq_true (by first | (with_reducible assumption) | assumption)
                  obtain ⟨ad314, e314, hx314_0, hx314_1, hx314_2, hx314_3⟩ := at_T29 (Kd.R_reads' HO_4.out).2.2 x9_2 p314 q314
                  obtain rfl : ad310 = ad314 := (by injection e314)
                  replace p314 := eq_true p314
                  replace q314 := eq_true q314
                  refine start_ (n := 37) (S := fun w' => w'.cell? (ad310.add ((x9_2).toNat * 4)) = some (.int .i64 ((rd_T29 t290 x9_2).f0)) ∧ w'.cell? ⟨(ad310.add ((x9_2).toNat * 4)).block, (ad310.add ((x9_2).toNat * 4)).off + 1, none⟩ = some (.string ((rd_T29 t290 x9_2).f1)) ∧ w'.cell? ⟨(ad310.add ((x9_2).toNat * 4)).block, (ad310.add ((x9_2).toNat * 4)).off + 2, none⟩ = some (.int .i64 ((rd_T29 t290 x9_2).f2)) ∧ w'.cell? ⟨(ad310.add ((x9_2).toNat * 4)).block, (ad310.add ((x9_2).toNat * 4)).off + 3, none⟩ = some (.int .i64 ((rd_T29 t290 x9_2).f3)) ∧ w'.cell? (ad311.add ((x9_2).toNat * 4)) = some (.int .i64 ((rd_T29 t294 x9_2).f0)) ∧ w'.cell? ⟨(ad311.add ((x9_2).toNat * 4)).block, (ad311.add ((x9_2).toNat * 4)).off + 1, none⟩ = some (.string ((rd_T29 t294 x9_2).f1)) ∧ w'.cell? ⟨(ad311.add ((x9_2).toNat * 4)).block, (ad311.add ((x9_2).toNat * 4)).off + 2, none⟩ = some (.int .i64 ((rd_T29 t294 x9_2).f2)) ∧ w'.cell? ⟨(ad311.add ((x9_2).toNat * 4)).block, (ad311.add ((x9_2).toNat * 4)).off + 3, none⟩ = some (.int .i64 ((rd_T29 t294 x9_2).f3)) ∧ w'.cell? (ad310.add (((ji51)).toNat * 4)) = some (.int .i64 ((rd_T29 t290 (ji51)).f0)) ∧ w'.cell? ⟨(ad310.add (((ji51)).toNat * 4)).block, (ad310.add (((ji51)).toNat * 4)).off + 1, none⟩ = some (.string ((rd_T29 t290 (ji51)).f1)) ∧ w'.cell? ⟨(ad310.add (((ji51)).toNat * 4)).block, (ad310.add (((ji51)).toNat * 4)).off + 2, none⟩ = some (.int .i64 ((rd_T29 t290 (ji51)).f2)) ∧ w'.cell? ⟨(ad310.add (((ji51)).toNat * 4)).block, (ad310.add (((ji51)).toNat * 4)).off + 3, none⟩ = some (.int .i64 ((rd_T29 t290 (ji51)).f3)) ∧ w'.cell? (ad310.add ((x9_2).toNat * 4)) = some (.int .i64 ((rd_T29 t290 x9_2).f0)) ∧ w'.cell? ⟨(ad310.add ((x9_2).toNat * 4)).block, (ad310.add ((x9_2).toNat * 4)).off + 1, none⟩ = some (.string ((rd_T29 t290 x9_2).f1)) ∧ w'.cell? ⟨(ad310.add ((x9_2).toNat * 4)).block, (ad310.add ((x9_2).toNat * 4)).off + 2, none⟩ = some (.int .i64 ((rd_T29 t290 x9_2).f2)) ∧ w'.cell? ⟨(ad310.add ((x9_2).toNat * 4)).block, (ad310.add ((x9_2).toNat * 4)).off + 3, none⟩ = some (.int .i64 ((rd_T29 t290 x9_2).f3)) ∧ w'.cell? (ad310.add ((x9_2).toNat * 4)) = some (.int .i64 ((rd_T29 t290 x9_2).f0)) ∧ w'.cell? ⟨(ad310.add ((x9_2).toNat * 4)).block, (ad310.add ((x9_2).toNat * 4)).off + 1, none⟩ = some (.string ((rd_T29 t290 x9_2).f1)) ∧ w'.cell? ⟨(ad310.add ((x9_2).toNat * 4)).block, (ad310.add ((x9_2).toNat * 4)).off + 2, none⟩ = some (.int .i64 ((rd_T29 t290 x9_2).f2)) ∧ w'.cell? ⟨(ad310.add ((x9_2).toNat * 4)).block, (ad310.add ((x9_2).toNat * 4)).off + 3, none⟩ = some (.int .i64 ((rd_T29 t290 x9_2).f3))) (ds := []) (Array.replicate 37 false) (by kernel_rfl) rfl rfl ⟨hx310_0, hx310_1, hx310_2, hx310_3, hx311_0, hx311_1, hx311_2, hx311_3, hx312_0, hx312_1, hx312_2, hx312_3, hx313_0, hx313_1, hx313_2, hx313_3, hx314_0, hx314_1, hx314_2, hx314_3⟩ (fun hHeld => ?_); refine with_tabW laws_FnTokens.tab16 laws_FnTokens.bits16 (fun HT_ HW_ => ?_)
                  generalize wr.drew = w57 at HO_4 HO_6 BK302 HB hx310_0 hx310_1 hx310_2 hx310_3 hx311_0 hx311_1 hx311_2 hx311_3 hx312_0 hx312_1 hx312_2 hx312_3 hx313_0 hx313_1 hx313_2 hx313_3 hx314_0 hx314_1 hx314_2 hx314_3 hHeld ⊢
                  refine pv_ 0 (some 55) (bm 37 1) ?_
                  refine pv_ 1 (some 56) (bm 37 3) ?_
                  refine pv_ 2 (some 57) (bm 37 7) ?_
                  refine pv_ 4 (some 59) (bm 37 23) ?_
                  refine pv_ 5 (some 60) (bm 37 55) ?_
                  refine pv_ 6 (some 61) (bm 37 119) ?_
                  refine tv_ 3 (some 58) (bm 37 127) hHeld ?_
                  refine tv_ 7 (some 62) (bm 37 255) hHeld ?_
                  refine pv_ 8 (some 63) (bm 37 511) ?_
                  refine pv_ 9 (some 64) (bm 37 1023) ?_
                  refine pv_ 10 (some 65) (bm 37 2047) ?_
                  refine pv_ 11 (some 66) (bm 37 4095) ?_
                  refine pv_ 12 (some 67) (bm 37 8191) ?_
                  refine pv_ 13 (some 68) (bm 37 16383) ?_
                  refine pv_ 14 (some 69) (bm 37 32767) ?_
                  refine pv_ 15 (some 70) (bm 37 65535) ?_
                  refine pv_ 16 (some 71) (bm 37 131071) ?_
                  refine pv_ 17 (some 72) (bm 37 262143) ?_
                  refine pv_ 19 (some 74) (bm 37 786431) ?_
                  refine pv_ 20 (some 75) (bm 37 1835007) ?_
                  refine pv_ 21 (some 76) (bm 37 3932159) ?_
                  refine pv_ 22 (some 77) (bm 37 8126463) ?_
                  refine tv_ 18 (some 73) (bm 37 8388607) hHeld ?_
                  refine tv_ 23 (some 78) (bm 37 16777215) hHeld ?_
                  refine pv_ 24 (some 79) (bm 37 33554431) ?_
                  refine pv_ 25 (some 80) (bm 37 67108863) ?_
                  refine pv_ 26 (some 81) (bm 37 134217727) ?_
                  refine pv_ 27 (some 82) (bm 37 268435455) ?_
                  refine pv_ 28 (some 83) (bm 37 536870911) ?_
                  refine pv_ 29 (some 84) (bm 37 1073741823) ?_
                  refine pv_ 30 (some 85) (bm 37 2147483647) ?_
                  refine pv_ 31 (some 86) (bm 37 4294967295) ?_
                  refine pv_ 33 (some 88) (bm 37 12884901887) ?_
                  refine pv_ 34 (some 89) (bm 37 30064771071) ?_
                  refine tv_ 32 (some 87) (bm 37 34359738367) hHeld ?_
                  refine pv_ 35 (some 90) (bm 37 68719476735) ?_
                  refine pv_ 36 (some 91) (bm 37 137438953471) ?_
                  refine done_ (done_of HT_.out (by kernel_rfl)) ?_
                  try go_wp2
                  go_meet
                  case rel => exact ⟨_, (decide (((rd_T29 t290 x9_2).f3) > (t289.size : Int))), (by first | rfl | (simp; done) | (simp [*]; done)), H', ⟨by have := HJ6.out; have := HK2.out; first | omega | exact Nat.le_refl _⟩, ⟨by (with_reducible repeat (first | apply Kd.R_alloc | apply Kd.R_drewN | apply Kd.R_drew)); exact HO_4.out⟩, ⟨by (with_reducible repeat (first | apply Kd.R_alloc | apply Kd.R_drewN | apply Kd.R_drew)); exact HO_6.out⟩, ⟨by refine tn_ ?_; exact BK302.out⟩, ⟨tf6d_⟩⟩
                ·
                 rw [if_neg c53] at H
                 exact absurd H (by simp)
               ·
                rw [if_neg c52] at H
                exact absurd H (by simp)
              ·
               rw [if_neg c50] at H
               have c50b0 : decide (0 < x9_2) = false := decide_eq_false c50
               clear c50
               have H' := Aside0.mk H
               clear H
               try go_wp2
               have n0_ := Aside0.mk (Kd.R_drew HO_4.out)
               have n1_ := Aside0.mk (Kd.R_drew HO_6.out)
               have n2_ := Aside0.mk (blk_drew BK302.out)
               have n3_ := Aside0.mk (below_drew1 HB.out)
               clear HO_4
               clear HO_6
               clear BK302
               clear HB
               have HO_4 := n0_
               have HO_6 := n1_
               have BK302 := n2_
               have HB := n3_
               clear n0_ n1_ n2_ n3_
               have p310 : 0 ≤ (x9_2 : Int) := of_decide_eq_true (by first | (with_reducible assumption) | assumption)
               have q310 : x9_2 < (t290.length : Int) := of_decide_eq_true (by first | (with_reducible assumption) | assumption)
               obtain ⟨ad310, e310, hx310_0, hx310_1, hx310_2, hx310_3⟩ := at_T29 (Kd.R_reads' HO_4.out).2.2 x9_2 p310 q310
               cases e310
               replace p310 := eq_true p310
               replace q310 := eq_true q310
               obtain ⟨Ao60, co60, eo60⟩ := Kd.R_slice HO_6.out
               (first | subst eo60 | (injection eo60 with f1_ f2_ f3_; have f4_ := f1_.symm; have f5_ := f3_.symm; clear f1_ f2_ f3_; subst f4_; subst f5_))
               have p311 : 0 ≤ (x9_2 : Int) := of_decide_eq_true (by first | (with_reducible assumption) | assumption)
               have q311 : x9_2 < (t294.length : Int) := of_decide_eq_true (by first | (with_reducible assumption) | assumption)
               obtain ⟨ad311, e311, hx311_0, hx311_1, hx311_2, hx311_3⟩ := at_T29 (Kd.R_reads' HO_6.out).2.2 x9_2 p311 q311
               cases e311
               replace p311 := eq_true p311
               replace q311 := eq_true q311
               have p315 : 0 ≤ (x9_2 : Int) := of_decide_eq_true (by first | (with_reducible assumption) | assumption)
               have q315 : x9_2 < (t290.length : Int) := of_decide_eq_true (by first | (with_reducible assumption) | assumption)
               obtain ⟨ad315, e315, hx315_0, hx315_1, hx315_2, hx315_3⟩ := at_T29 (Kd.R_reads' HO_4.out).2.2 x9_2 p315 q315
               obtain rfl : ad310 = ad315 := (by injection e315)
               replace p315 := eq_true p315
               replace q315 := eq_true q315
               refine start_ (n := 37) (S := fun w' => w'.cell? (ad310.add ((x9_2).toNat * 4)) = some (.int .i64 ((rd_T29 t290 x9_2).f0)) ∧ w'.cell? ⟨(ad310.add ((x9_2).toNat * 4)).block, (ad310.add ((x9_2).toNat * 4)).off + 1, none⟩ = some (.string ((rd_T29 t290 x9_2).f1)) ∧ w'.cell? ⟨(ad310.add ((x9_2).toNat * 4)).block, (ad310.add ((x9_2).toNat * 4)).off + 2, none⟩ = some (.int .i64 ((rd_T29 t290 x9_2).f2)) ∧ w'.cell? ⟨(ad310.add ((x9_2).toNat * 4)).block, (ad310.add ((x9_2).toNat * 4)).off + 3, none⟩ = some (.int .i64 ((rd_T29 t290 x9_2).f3)) ∧ w'.cell? (ad311.add ((x9_2).toNat * 4)) = some (.int .i64 ((rd_T29 t294 x9_2).f0)) ∧ w'.cell? ⟨(ad311.add ((x9_2).toNat * 4)).block, (ad311.add ((x9_2).toNat * 4)).off + 1, none⟩ = some (.string ((rd_T29 t294 x9_2).f1)) ∧ w'.cell? ⟨(ad311.add ((x9_2).toNat * 4)).block, (ad311.add ((x9_2).toNat * 4)).off + 2, none⟩ = some (.int .i64 ((rd_T29 t294 x9_2).f2)) ∧ w'.cell? ⟨(ad311.add ((x9_2).toNat * 4)).block, (ad311.add ((x9_2).toNat * 4)).off + 3, none⟩ = some (.int .i64 ((rd_T29 t294 x9_2).f3)) ∧ w'.cell? (ad310.add ((x9_2).toNat * 4)) = some (.int .i64 ((rd_T29 t290 x9_2).f0)) ∧ w'.cell? ⟨(ad310.add ((x9_2).toNat * 4)).block, (ad310.add ((x9_2).toNat * 4)).off + 1, none⟩ = some (.string ((rd_T29 t290 x9_2).f1)) ∧ w'.cell? ⟨(ad310.add ((x9_2).toNat * 4)).block, (ad310.add ((x9_2).toNat * 4)).off + 2, none⟩ = some (.int .i64 ((rd_T29 t290 x9_2).f2)) ∧ w'.cell? ⟨(ad310.add ((x9_2).toNat * 4)).block, (ad310.add ((x9_2).toNat * 4)).off + 3, none⟩ = some (.int .i64 ((rd_T29 t290 x9_2).f3))) (ds := []) (Array.replicate 37 false) (by kernel_rfl) rfl rfl ⟨hx310_0, hx310_1, hx310_2, hx310_3, hx311_0, hx311_1, hx311_2, hx311_3, hx315_0, hx315_1, hx315_2, hx315_3⟩ (fun hHeld => ?_); refine with_tabW laws_FnTokens.tab16 laws_FnTokens.bits16 (fun HT_ HW_ => ?_)
               generalize wr.drew = w59 at HO_4 HO_6 BK302 HB hx310_0 hx310_1 hx310_2 hx310_3 hx311_0 hx311_1 hx311_2 hx311_3 hx315_0 hx315_1 hx315_2 hx315_3 hHeld ⊢
               refine pv_ 0 (some 55) (bm 37 1) ?_
               refine pv_ 1 (some 56) (bm 37 3) ?_
               refine pv_ 2 (some 57) (bm 37 7) ?_
               refine pv_ 4 (some 59) (bm 37 23) ?_
               refine pv_ 5 (some 60) (bm 37 55) ?_
               refine pv_ 6 (some 61) (bm 37 119) ?_
               refine tv_ 3 (some 58) (bm 37 127) hHeld ?_
               refine tv_ 7 (some 62) (bm 37 255) hHeld ?_
               refine pv_ 8 (some 63) (bm 37 511) ?_
               refine pv_ 9 (some 64) (bm 37 1023) ?_
               refine pv_ 10 (some 65) (bm 37 2047) ?_
               refine pv_ 11 (some 66) (bm 37 4095) ?_
               refine pv_ 12 (some 67) (bm 37 8191) ?_
               refine pure_ (i := 13) (N := some 68) (v := undef) (a' := ?_) (bm 37 16383) rfl rfl (any_of HT_.out (by kernel_rfl)) (fun _ _ _ h => h) (Or.inr ⟨by rfl, rfl⟩) ?_ ?_
               rotate_left; (simp only [Act.put, List.setIfInBounds_toArray, List.set_cons_zero, List.set_cons_succ, i64_w, i32_w]; rfl)
               refine pure_ (i := 14) (N := some 69) (v := undef) (a' := ?_) (bm 37 32767) rfl rfl (any_of HT_.out (by kernel_rfl)) (fun _ _ _ h => h) (Or.inr ⟨by rfl, rfl⟩) ?_ ?_
               rotate_left; (simp only [Act.put, List.setIfInBounds_toArray, List.set_cons_zero, List.set_cons_succ, i64_w, i32_w]; rfl)
               refine pure_ (i := 15) (N := some 70) (v := undef) (a' := ?_) (bm 37 65535) rfl rfl (any_of HT_.out (by kernel_rfl)) (fun _ _ _ h => h) (Or.inr ⟨by rfl, rfl⟩) ?_ ?_
               rotate_left; (simp only [Act.put, List.setIfInBounds_toArray, List.set_cons_zero, List.set_cons_succ, i64_w, i32_w]; rfl)
               refine pure_ (i := 16) (N := some 71) (v := undef) (a' := ?_) (bm 37 131071) rfl rfl (any_of HT_.out (by kernel_rfl)) (fun _ _ _ h => h) (Or.inr ⟨by rfl, rfl⟩) ?_ ?_
               rotate_left; (simp only [Act.put, List.setIfInBounds_toArray, List.set_cons_zero, List.set_cons_succ, i64_w, i32_w]; rfl)
               refine pure_ (i := 17) (N := some 72) (v := undef) (a' := ?_) (bm 37 262143) rfl rfl (any_of HT_.out (by kernel_rfl)) (fun _ _ _ h => h) (Or.inr ⟨by rfl, rfl⟩) ?_ ?_
               rotate_left; (simp only [Act.put, List.setIfInBounds_toArray, List.set_cons_zero, List.set_cons_succ, i64_w, i32_w]; rfl)
               refine pure_ (i := 18) (N := some 73) (v := undef) (a' := ?_) (bm 37 524287) rfl rfl (any_of HT_.out (by kernel_rfl)) (fun _ _ _ h => h) (Or.inr ⟨by rfl, rfl⟩) ?_ ?_
               rotate_left; (simp only [Act.put, List.setIfInBounds_toArray, List.set_cons_zero, List.set_cons_succ, i64_w, i32_w]; rfl)
               refine pure_ (i := 19) (N := some 74) (v := undef) (a' := ?_) (bm 37 1048575) rfl rfl (any_of HT_.out (by kernel_rfl)) (fun _ _ _ h => h) (Or.inr ⟨by rfl, rfl⟩) ?_ ?_
               rotate_left; (simp only [Act.put, List.setIfInBounds_toArray, List.set_cons_zero, List.set_cons_succ, i64_w, i32_w]; rfl)
               refine pure_ (i := 20) (N := some 75) (v := undef) (a' := ?_) (bm 37 2097151) rfl rfl (any_of HT_.out (by kernel_rfl)) (fun _ _ _ h => h) (Or.inr ⟨by rfl, rfl⟩) ?_ ?_
               rotate_left; (simp only [Act.put, List.setIfInBounds_toArray, List.set_cons_zero, List.set_cons_succ, i64_w, i32_w]; rfl)
               refine pure_ (i := 21) (N := some 76) (v := undef) (a' := ?_) (bm 37 4194303) rfl rfl (any_of HT_.out (by kernel_rfl)) (fun _ _ _ h => h) (Or.inr ⟨by rfl, rfl⟩) ?_ ?_
               rotate_left; (simp only [Act.put, List.setIfInBounds_toArray, List.set_cons_zero, List.set_cons_succ, i64_w, i32_w]; rfl)
               refine pure_ (i := 22) (N := some 77) (v := undef) (a' := ?_) (bm 37 8388607) rfl rfl (any_of HT_.out (by kernel_rfl)) (fun _ _ _ h => h) (Or.inr ⟨by rfl, rfl⟩) ?_ ?_
               rotate_left; (simp only [Act.put, List.setIfInBounds_toArray, List.set_cons_zero, List.set_cons_succ, i64_w, i32_w]; rfl)
               refine pure_ (i := 23) (N := some 78) (v := undef) (a' := ?_) (bm 37 16777215) rfl rfl (any_of HT_.out (by kernel_rfl)) (fun _ _ _ h => h) (Or.inr ⟨by rfl, rfl⟩) ?_ ?_
               rotate_left; (simp only [Act.put, List.setIfInBounds_toArray, List.set_cons_zero, List.set_cons_succ, i64_w, i32_w]; rfl)
               refine pure_ (i := 24) (N := some 79) (v := undef) (a' := ?_) (bm 37 33554431) rfl rfl (any_of HT_.out (by kernel_rfl)) (fun _ _ _ h => h) (Or.inr ⟨by rfl, rfl⟩) ?_ ?_
               rotate_left; (simp only [Act.put, List.setIfInBounds_toArray, List.set_cons_zero, List.set_cons_succ, i64_w, i32_w]; rfl)
               refine pv_ 25 (some 80) (bm 37 67108863) ?_
               refine pv_ 26 (some 81) (bm 37 134217727) ?_
               refine pv_ 27 (some 82) (bm 37 268435455) ?_
               refine pv_ 28 (some 83) (bm 37 536870911) ?_
               refine pv_ 29 (some 84) (bm 37 1073741823) ?_
               refine pv_ 30 (some 85) (bm 37 2147483647) ?_
               refine pv_ 31 (some 86) (bm 37 4294967295) ?_
               refine pv_ 33 (some 88) (bm 37 12884901887) ?_
               refine pv_ 34 (some 89) (bm 37 30064771071) ?_
               refine tv_ 32 (some 87) (bm 37 34359738367) hHeld ?_
               refine pv_ 35 (some 90) (bm 37 68719476735) ?_
               refine pv_ 36 (some 91) (bm 37 137438953471) ?_
               refine done_ (done_of HT_.out (by kernel_rfl)) ?_
               try go_wp2
               go_meet
               case rel => exact ⟨_, (decide (((rd_T29 t290 x9_2).f3) > (t289.size : Int))), (by first | rfl | (simp; done) | (simp [*]; done)), H', ⟨by have := HJ6.out; have := HK2.out; first | omega | exact Nat.le_refl _⟩, ⟨by (with_reducible repeat (first | apply Kd.R_alloc | apply Kd.R_drewN | apply Kd.R_drew)); exact HO_4.out⟩, ⟨by (with_reducible repeat (first | apply Kd.R_alloc | apply Kd.R_drewN | apply Kd.R_drew)); exact HO_6.out⟩, ⟨by refine tn_ ?_; exact BK302.out⟩, ⟨tf6d_⟩⟩
            ·
             rw [if_neg c46] at H
             exact absurd H (by simp)
           ·
            rw [if_neg c45] at H
            exact absurd H (by simp)
          case rest =>
           clear HC43
           try clear p2
           try clear p3
           try clear q3
           try clear hx3
           try clear c4
           try clear c5
           try clear p31
           try clear q31
           try clear hx31
           try clear c45
           try clear c46
           try clear c50
           try clear c50b0
           try clear c52
           try clear c53
           try clear hx310_0
           try clear hx310_1
           try clear hx310_2
           try clear hx310_3
           try clear hx311_0
           try clear hx311_1
           try clear hx311_2
           try clear hx311_3
           try clear hx315_0
           try clear hx315_1
           try clear hx315_2
           try clear hx315_3
           try clear p310
           try clear p311
           try clear p315
           try clear q310
           try clear q311
           try clear q315
           obtain ⟨kq, x91_42, rfl, HA, HJ42, HO_4, HO_6, BK302, HB⟩ := hcut
           cases kq with
           | zero => exact absurd HA.out (by simp [laws_FnTokens.j2])
           | succ kj42 =>
            have H := HA.out
            clear HA
            simp only [laws_FnTokens.j2] at H
            by_cases c61 : x91_42 = true
            ·
             subst c61
             have H1 : (some false) = some r := by rw [if_pos rfl] at H; exact H
             clear H
             have H := H1
             clear H1
             obtain rfl := Option.some.inj H
             go_wp2
             go_ret
             exact ⟨by first | rfl | (simp [errW_none, errW_some] <;> rfl) | (simp [*, errW_none, errW_some] <;> rfl), tf6d_⟩
            ·
             replace c61 := Bool.eq_false_iff.mpr c61
             subst c61
             rw [if_neg (show ¬ (false = true) by decide)] at H
             have H1 := H
             clear H
             have H := H1
             clear H1
             by_cases c62 : 0 ≤ x9_2
             ·
              rw [if_pos c62] at H
              have c62b0 : decide (0 ≤ x9_2) = true := decide_eq_true c62
              clear c62
              by_cases c63 : x9_2 < (t290.length : Int)
              ·
               rw [if_pos c63] at H
               have c63b0 : decide (x9_2 < (t290.length : Int)) = true := decide_eq_true c63
               clear c63
               by_cases c64 : ((rd_T29 t290 x9_2).f0) = 3
               ·
                rw [if_pos c64] at H
                have c64b0 : (((rd_T29 t290 x9_2).f0) == 3) = true := beq_iff_eq.mpr c64
                have c64b1 : (((rd_T29 t290 x9_2).f0) != 3) = false := bne_eq_false_iff_eq.mpr c64
                clear c64
                have H' := Aside0.mk H
                clear H
                have p316 : 0 ≤ (x9_2 : Int) := of_decide_eq_true (by first | (with_reducible assumption) | assumption)
                have q316 : x9_2 < (t290.length : Int) := of_decide_eq_true (by first | (with_reducible assumption) | assumption)
                obtain ⟨ad316, e316, hx316_0, hx316_1, hx316_2, hx316_3⟩ := at_T29 (Kd.R_reads' HO_4.out).2.2 x9_2 p316 q316
                cases e316
                replace p316 := eq_true p316
                replace q316 := eq_true q316
                try go_wp2_with (first | ((with_reducible refine gate_dst (N := 10) rfl ?_); (try (refine gate_guard (by rfl) ?_; dsimp only)); refine be_ 10 #[.int .i64 0, .string (⟨#[]⟩ : ByteArray), .int .i64 0, .int .i64 0] 29 ?_; intro gb317 hg w65 hbox hb; have n0_ := Aside0.mk (Kd.R_below (Kd.R_elderB (tkR_ HO_4.out) gb317 (Nat.le_of_eq hg.symm)) hb); have n1_ := Aside0.mk (Kd.R_below (Kd.R_elderB (tkR_ HO_6.out) gb317 (Nat.le_of_eq hg.symm)) hb); have n2_ := Aside0.mk (blk_below (g := gb302) (o := .cells #[.int .i64 t298, .string t299, .int .i64 t300, .int .i64 t301] 29 (0, 0)) (tn_ BK302.out) hb); have n3_ := Aside0.mk (below_step (tf6d_) hb); have n4_ := Aside0.mk (hbox); have n5_ := Aside0.mk ((by rw [hg]; exact (below_size (tf6d_)) : w.heap.size ≤ gb317)); have n6_ := Aside0.mk ((by rw [hg]; exact (below_size (tf6d_)) : w.heap.size ≤ gb317)); have n7_ := Aside0.mk ((by rw [hg]; exact Nat.ne_of_lt (blk_lt (g := gb302) (o := .cells #[.int .i64 t298, .string t299, .int .i64 t300, .int .i64 t301] 29 (0, 0)) (tn_ BK302.out)) : gb302 ≠ gb317)); have n8_ := Aside0.mk ((by rw [hg]; exact Nat.ne_of_gt (blk_lt (g := gb302) (o := .cells #[.int .i64 t298, .string t299, .int .i64 t300, .int .i64 t301] 29 (0, 0)) (tn_ BK302.out)) : gb317 ≠ gb302)); clear HO_4; clear HO_6; clear BK302; clear HB; have HO_4 := n0_; have HO_6 := n1_; have BK302 := n2_; have HB := n3_; have BK317 := n4_; have GW317 := n5_; have GE317 := n6_; have NB302_317 := n7_; have NB317_302 := n8_; clear n0_ n1_ n2_ n3_ n4_ n5_ n6_ n7_ n8_; clear hb hbox hg; have hnb66 := NB317_302.out; have hnc66 := NB302_317.out; have hcz67_0 : w65.cell? ⟨gb317, 0, none⟩ = some (.int .i64 0) := (blk_cell BK317.out 0).trans rfl; have hcz67_1 : w65.cell? ⟨gb317, 1, none⟩ = some (.string (⟨#[]⟩ : ByteArray)) := (blk_cell BK317.out 1).trans rfl; have hcz67_2 : w65.cell? ⟨gb317, 2, none⟩ = some (.int .i64 0) := (blk_cell BK317.out 2).trans rfl; have hcz67_3 : w65.cell? ⟨gb317, 3, none⟩ = some (.int .i64 0) := (blk_cell BK317.out 3).trans rfl; have hfz67_0 := blk_frozen BK317.out 0; have hfz67_1 := blk_frozen BK317.out 1; have hfz67_2 := blk_frozen BK317.out 2; have hfz67_3 := blk_frozen BK317.out 3))
                have n0_ : Aside0 (Kd.R k29 29 ((((w65.setCell ⟨gb317, 0, none⟩ (.int .i64 ((rd_T29 t290 x9_2).f0))).setCell ⟨gb317, 1, none⟩ (.string ((rd_T29 t290 x9_2).f1))).setCell ⟨gb317, 2, none⟩ (.int .i64 ((rd_T29 t290 x9_2).f2))).setCell ⟨gb317, 3, none⟩ (.int .i64 ((rd_T29 t290 x9_2).f3))) w.heap.size (fun k_ => some k_ ≠ (v296 : Value).ownBlock ∧ k_ ≠ gb302 ∧ k_ ≠ gb317) (.slice (some ad316) t290.length co44) t290) := ⟨by (with_reducible repeat (first | apply Kd.R_alloc | apply Kd.R_drewN | apply Kd.R_drew)); exact Kd.R_mono (Kd.R_far (p := ⟨gb317, 3, none⟩) (Kd.R_far (p := ⟨gb317, 2, none⟩) (Kd.R_far (p := ⟨gb317, 1, none⟩) (Kd.R_far (p := ⟨gb317, 0, none⟩) (Kd.R_mono HO_4.out (fun k_ hk => (⟨hk, hk.2⟩ : _ ∧ k_ ≠ gb317))) (fun _ hk => hk.2) (.int .i64 ((rd_T29 t290 x9_2).f0))) (fun _ hk => hk.2) (.string ((rd_T29 t290 x9_2).f1))) (fun _ hk => hk.2) (.int .i64 ((rd_T29 t290 x9_2).f2))) (fun _ hk => hk.2) (.int .i64 ((rd_T29 t290 x9_2).f3))) (fun _ hk => ⟨hk.1.1.1, ⟨hk.1.1.2, hk.1.2⟩⟩)⟩
                have n1_ : Aside0 (Kd.R k29 29 ((((w65.setCell ⟨gb317, 0, none⟩ (.int .i64 ((rd_T29 t290 x9_2).f0))).setCell ⟨gb317, 1, none⟩ (.string ((rd_T29 t290 x9_2).f1))).setCell ⟨gb317, 2, none⟩ (.int .i64 ((rd_T29 t290 x9_2).f2))).setCell ⟨gb317, 3, none⟩ (.int .i64 ((rd_T29 t290 x9_2).f3))) w.heap.size (fun k_ => some k_ ≠ (.slice (some ad316) t290.length co44 : Value).ownBlock ∧ k_ ≠ gb302 ∧ k_ ≠ gb317) v296 t294) := ⟨by (with_reducible repeat (first | apply Kd.R_alloc | apply Kd.R_drewN | apply Kd.R_drew)); exact Kd.R_mono (Kd.R_far (p := ⟨gb317, 3, none⟩) (Kd.R_far (p := ⟨gb317, 2, none⟩) (Kd.R_far (p := ⟨gb317, 1, none⟩) (Kd.R_far (p := ⟨gb317, 0, none⟩) (Kd.R_mono HO_6.out (fun k_ hk => (⟨hk, hk.2⟩ : _ ∧ k_ ≠ gb317))) (fun _ hk => hk.2) (.int .i64 ((rd_T29 t290 x9_2).f0))) (fun _ hk => hk.2) (.string ((rd_T29 t290 x9_2).f1))) (fun _ hk => hk.2) (.int .i64 ((rd_T29 t290 x9_2).f2))) (fun _ hk => hk.2) (.int .i64 ((rd_T29 t290 x9_2).f3))) (fun _ hk => ⟨hk.1.1.1, ⟨hk.1.1.2, hk.1.2⟩⟩)⟩
                have n2_ : Aside0 (((((w65.setCell ⟨gb317, 0, none⟩ (.int .i64 ((rd_T29 t290 x9_2).f0))).setCell ⟨gb317, 1, none⟩ (.string ((rd_T29 t290 x9_2).f1))).setCell ⟨gb317, 2, none⟩ (.int .i64 ((rd_T29 t290 x9_2).f2))).setCell ⟨gb317, 3, none⟩ (.int .i64 ((rd_T29 t290 x9_2).f3))).heap[gb302]? = some (.cells #[.int .i64 t298, .string t299, .int .i64 t300, .int .i64 t301] 29 (0, 0))) := ⟨by refine tf_ NB302_317.out ?_; refine tf_ NB302_317.out ?_; refine tf_ NB302_317.out ?_; refine tf_ NB302_317.out ?_; refine tn_ ?_; exact BK302.out⟩
                have n3_ : Aside0 (((((w65.setCell ⟨gb317, 0, none⟩ (.int .i64 ((rd_T29 t290 x9_2).f0))).setCell ⟨gb317, 1, none⟩ (.string ((rd_T29 t290 x9_2).f1))).setCell ⟨gb317, 2, none⟩ (.int .i64 ((rd_T29 t290 x9_2).f2))).setCell ⟨gb317, 3, none⟩ (.int .i64 ((rd_T29 t290 x9_2).f3))).heap[gb317]? = some (.cells #[.int .i64 ((rd_T29 t290 x9_2).f0), .string ((rd_T29 t290 x9_2).f1), .int .i64 ((rd_T29 t290 x9_2).f2), .int .i64 ((rd_T29 t290 x9_2).f3)] 29 (0, 0))) := ⟨by refine tp_ #[.int .i64 ((rd_T29 t290 x9_2).f0), .string ((rd_T29 t290 x9_2).f1), .int .i64 ((rd_T29 t290 x9_2).f2), .int .i64 0] 3 ?_; refine tp_ #[.int .i64 ((rd_T29 t290 x9_2).f0), .string ((rd_T29 t290 x9_2).f1), .int .i64 0, .int .i64 0] 2 ?_; refine tp_ #[.int .i64 ((rd_T29 t290 x9_2).f0), .string (⟨#[]⟩ : ByteArray), .int .i64 0, .int .i64 0] 1 ?_; refine tp_ #[.int .i64 0, .string (⟨#[]⟩ : ByteArray), .int .i64 0, .int .i64 0] 0 ?_; refine tn_ ?_; exact BK317.out⟩
                have n4_ : Aside0 (Below w.heap.size w ((((w65.setCell ⟨gb317, 0, none⟩ (.int .i64 ((rd_T29 t290 x9_2).f0))).setCell ⟨gb317, 1, none⟩ (.string ((rd_T29 t290 x9_2).f1))).setCell ⟨gb317, 2, none⟩ (.int .i64 ((rd_T29 t290 x9_2).f2))).setCell ⟨gb317, 3, none⟩ (.int .i64 ((rd_T29 t290 x9_2).f3)))) := ⟨tf6d_⟩
                (try clear HO_4)
                (try clear HO_6)
                (try clear BK302)
                (try clear BK317)
                (try clear HB)
                generalize ((((w65.setCell ⟨gb317, 0, none⟩ (.int .i64 ((rd_T29 t290 x9_2).f0))).setCell ⟨gb317, 1, none⟩ (.string ((rd_T29 t290 x9_2).f1))).setCell ⟨gb317, 2, none⟩ (.int .i64 ((rd_T29 t290 x9_2).f2))).setCell ⟨gb317, 3, none⟩ (.int .i64 ((rd_T29 t290 x9_2).f3))) = w68 at n0_ n1_ n2_ n3_ n4_ ⊢
                have HO_4 := n0_
                have HO_6 := n1_
                have BK302 := n2_
                have BK317 := n3_
                have HB := n4_
                clear n0_ n1_ n2_ n3_ n4_
                have n0_ := Aside0.mk (Kd.R_drew HO_4.out)
                have n1_ := Aside0.mk (Kd.R_drew HO_6.out)
                have n2_ := Aside0.mk (blk_drew BK302.out)
                have n3_ := Aside0.mk (blk_drew BK317.out)
                have n4_ := Aside0.mk (below_drew1 HB.out)
                clear HO_4
                clear HO_6
                clear BK302
                clear BK317
                clear HB
                have HO_4 := n0_
                have HO_6 := n1_
                have BK302 := n2_
                have BK317 := n3_
                have HB := n4_
                clear n0_ n1_ n2_ n3_ n4_
                refine start_ (n := 28) (S := fun w' => w'.cell? ⟨gb317, 0, none⟩ = some (.int .i64 ((rd_T29 t290 x9_2).f0)) ∧ w'.cell? ⟨gb317, 1, none⟩ = some (.string ((rd_T29 t290 x9_2).f1)) ∧ w'.cell? ⟨gb317, 2, none⟩ = some (.int .i64 ((rd_T29 t290 x9_2).f2)) ∧ w'.cell? ⟨gb317, 3, none⟩ = some (.int .i64 ((rd_T29 t290 x9_2).f3))) (ds := []) (Array.replicate 28 false) (by kernel_rfl) rfl rfl ⟨(blk_cell BK317.out 0).trans rfl, (blk_cell BK317.out 1).trans rfl, (blk_cell BK317.out 2).trans rfl, (blk_cell BK317.out 3).trans rfl⟩ (fun hHeld => ?_); refine with_tabW laws_FnTokens.tab19 laws_FnTokens.bits19 (fun HT_ HW_ => ?_)
                generalize w68.drew = w69 at HO_4 HO_6 BK302 BK317 HB hHeld ⊢
                refine pv_ 0 (some 96) (bm 28 1) ?_
                refine tv_ 1 (some 97) (bm 28 3) hHeld ?_
                refine pv_ 2 (some 98) (bm 28 7) ?_
                refine pv_ 3 (some 99) (bm 28 15) ?_
                refine pure_ (i := 4) (N := some 100) (v := undef) (a' := ?_) (bm 28 31) rfl rfl (any_of HT_.out (by kernel_rfl)) (fun _ _ _ h => h) (Or.inr ⟨by rfl, rfl⟩) ?_ ?_
                rotate_left; (simp only [Act.put, List.setIfInBounds_toArray, List.set_cons_zero, List.set_cons_succ, i64_w, i32_w]; rfl)
                refine pure_ (i := 5) (N := some 101) (v := undef) (a' := ?_) (bm 28 63) rfl rfl (any_of HT_.out (by kernel_rfl)) (fun _ _ _ h => h) (Or.inr ⟨by rfl, rfl⟩) ?_ ?_
                rotate_left; (simp only [Act.put, List.setIfInBounds_toArray, List.set_cons_zero, List.set_cons_succ, i64_w, i32_w]; rfl)
                refine pure_ (i := 6) (N := some 102) (v := undef) (a' := ?_) (bm 28 127) rfl rfl (any_of HT_.out (by kernel_rfl)) (fun _ _ _ h => h) (Or.inr ⟨by rfl, rfl⟩) ?_ ?_
                rotate_left; (simp only [Act.put, List.setIfInBounds_toArray, List.set_cons_zero, List.set_cons_succ, i64_w, i32_w]; rfl)
                refine pv_ 7 (some 103) (bm 28 255) ?_
                refine pv_ 8 (some 104) (bm 28 511) ?_
                refine pure_ (i := 9) (N := some 105) (v := undef) (a' := ?_) (bm 28 1023) rfl rfl (any_of HT_.out (by kernel_rfl)) (fun _ _ _ h => h) (Or.inr ⟨by rfl, rfl⟩) ?_ ?_
                rotate_left; (simp only [Act.put, List.setIfInBounds_toArray, List.set_cons_zero, List.set_cons_succ, i64_w, i32_w]; rfl)
                refine pure_ (i := 10) (N := some 106) (v := undef) (a' := ?_) (bm 28 2047) rfl rfl (any_of HT_.out (by kernel_rfl)) (fun _ _ _ h => h) (Or.inr ⟨by rfl, rfl⟩) ?_ ?_
                rotate_left; (simp only [Act.put, List.setIfInBounds_toArray, List.set_cons_zero, List.set_cons_succ, i64_w, i32_w]; rfl)
                refine pure_ (i := 11) (N := some 107) (v := undef) (a' := ?_) (bm 28 4095) rfl rfl (any_of HT_.out (by kernel_rfl)) (fun _ _ _ h => h) (Or.inr ⟨by rfl, rfl⟩) ?_ ?_
                rotate_left; (simp only [Act.put, List.setIfInBounds_toArray, List.set_cons_zero, List.set_cons_succ, i64_w, i32_w]; rfl)
                refine pv_ 12 (some 108) (bm 28 8191) ?_
                refine pv_ 13 (some 109) (bm 28 16383) ?_
                refine pure_ (i := 14) (N := some 110) (v := undef) (a' := ?_) (bm 28 32767) rfl rfl (any_of HT_.out (by kernel_rfl)) (fun _ _ _ h => h) (Or.inr ⟨by rfl, rfl⟩) ?_ ?_
                rotate_left; (simp only [Act.put, List.setIfInBounds_toArray, List.set_cons_zero, List.set_cons_succ, i64_w, i32_w]; rfl)
                refine pure_ (i := 15) (N := some 111) (v := undef) (a' := ?_) (bm 28 65535) rfl rfl (any_of HT_.out (by kernel_rfl)) (fun _ _ _ h => h) (Or.inr ⟨by rfl, rfl⟩) ?_ ?_
                rotate_left; (simp only [Act.put, List.setIfInBounds_toArray, List.set_cons_zero, List.set_cons_succ, i64_w, i32_w]; rfl)
                refine pure_ (i := 16) (N := some 112) (v := undef) (a' := ?_) (bm 28 131071) rfl rfl (any_of HT_.out (by kernel_rfl)) (fun _ _ _ h => h) (Or.inr ⟨by rfl, rfl⟩) ?_ ?_
                rotate_left; (simp only [Act.put, List.setIfInBounds_toArray, List.set_cons_zero, List.set_cons_succ, i64_w, i32_w]; rfl)
                refine pure_ (i := 17) (N := some 113) (v := undef) (a' := ?_) (bm 28 262143) rfl rfl (any_of HT_.out (by kernel_rfl)) (fun _ _ _ h => h) (Or.inr ⟨by rfl, rfl⟩) ?_ ?_
                rotate_left; (simp only [Act.put, List.setIfInBounds_toArray, List.set_cons_zero, List.set_cons_succ, i64_w, i32_w]; rfl)
                refine pure_ (i := 18) (N := some 114) (v := undef) (a' := ?_) (bm 28 524287) rfl rfl (any_of HT_.out (by kernel_rfl)) (fun _ _ _ h => h) (Or.inr ⟨by rfl, rfl⟩) ?_ ?_
                rotate_left; (simp only [Act.put, List.setIfInBounds_toArray, List.set_cons_zero, List.set_cons_succ, i64_w, i32_w]; rfl)
                refine pure_ (i := 19) (N := some 115) (v := undef) (a' := ?_) (bm 28 1048575) rfl rfl (any_of HT_.out (by kernel_rfl)) (fun _ _ _ h => h) (Or.inr ⟨by rfl, rfl⟩) ?_ ?_
                rotate_left; (simp only [Act.put, List.setIfInBounds_toArray, List.set_cons_zero, List.set_cons_succ, i64_w, i32_w]; rfl)
                refine pure_ (i := 20) (N := some 116) (v := undef) (a' := ?_) (bm 28 2097151) rfl rfl (any_of HT_.out (by kernel_rfl)) (fun _ _ _ h => h) (Or.inr ⟨by rfl, rfl⟩) ?_ ?_
                rotate_left; (simp only [Act.put, List.setIfInBounds_toArray, List.set_cons_zero, List.set_cons_succ, i64_w, i32_w]; rfl)
                refine pure_ (i := 21) (N := some 117) (v := undef) (a' := ?_) (bm 28 4194303) rfl rfl (any_of HT_.out (by kernel_rfl)) (fun _ _ _ h => h) (Or.inr ⟨by rfl, rfl⟩) ?_ ?_
                rotate_left; (simp only [Act.put, List.setIfInBounds_toArray, List.set_cons_zero, List.set_cons_succ, i64_w, i32_w]; rfl)
                refine pure_ (i := 22) (N := some 118) (v := undef) (a' := ?_) (bm 28 8388607) rfl rfl (any_of HT_.out (by kernel_rfl)) (fun _ _ _ h => h) (Or.inr ⟨by rfl, rfl⟩) ?_ ?_
                rotate_left; (simp only [Act.put, List.setIfInBounds_toArray, List.set_cons_zero, List.set_cons_succ, i64_w, i32_w]; rfl)
                refine pure_ (i := 23) (N := some 119) (v := undef) (a' := ?_) (bm 28 16777215) rfl rfl (any_of HT_.out (by kernel_rfl)) (fun _ _ _ h => h) (Or.inr ⟨by rfl, rfl⟩) ?_ ?_
                rotate_left; (simp only [Act.put, List.setIfInBounds_toArray, List.set_cons_zero, List.set_cons_succ, i64_w, i32_w]; rfl)
                refine pure_ (i := 24) (N := some 120) (v := undef) (a' := ?_) (bm 28 33554431) rfl rfl (any_of HT_.out (by kernel_rfl)) (fun _ _ _ h => h) (Or.inr ⟨by rfl, rfl⟩) ?_ ?_
                rotate_left; (simp only [Act.put, List.setIfInBounds_toArray, List.set_cons_zero, List.set_cons_succ, i64_w, i32_w]; rfl)
                refine pure_ (i := 25) (N := some 121) (v := undef) (a' := ?_) (bm 28 67108863) rfl rfl (any_of HT_.out (by kernel_rfl)) (fun _ _ _ h => h) (Or.inr ⟨by rfl, rfl⟩) ?_ ?_
                rotate_left; (simp only [Act.put, List.setIfInBounds_toArray, List.set_cons_zero, List.set_cons_succ, i64_w, i32_w]; rfl)
                refine pure_ (i := 26) (N := some 122) (v := undef) (a' := ?_) (bm 28 134217727) rfl rfl (any_of HT_.out (by kernel_rfl)) (fun _ _ _ h => h) (Or.inr ⟨by rfl, rfl⟩) ?_ ?_
                rotate_left; (simp only [Act.put, List.setIfInBounds_toArray, List.set_cons_zero, List.set_cons_succ, i64_w, i32_w]; rfl)
                refine pv_ 27 (some 123) (bm 28 268435455) ?_
                refine done_ (done_of HT_.out (by kernel_rfl)) ?_
                try go_wp2
                go_roundg kj42
                case measure => have := HJ6.out; have := HK2.out; have := HJ42.out; omega
                case rel => exact ⟨(wrap64 (x9_2 + 1)), (by first | rfl | (simp; done) | (simp [*]; done)), H', ⟨by have := HJ6.out; have := HK2.out; have := HJ42.out; omega⟩, ⟨by (with_reducible repeat (first | apply Kd.R_alloc | apply Kd.R_drewN | apply Kd.R_drew)); exact Kd.R_mono HO_4.out (fun _ hk => ⟨hk.1, hk.2.1⟩)⟩, ⟨by (with_reducible repeat (first | apply Kd.R_alloc | apply Kd.R_drewN | apply Kd.R_drew)); exact Kd.R_mono HO_6.out (fun _ hk => ⟨hk.1, hk.2.1⟩)⟩, ⟨by refine tn_ ?_; exact BK302.out⟩, ⟨tf6d_⟩⟩
               ·
                rw [if_neg c64] at H
                have c64b0 : (((rd_T29 t290 x9_2).f0) == 3) = false := beq_eq_false_iff_ne.mpr c64
                have c64b1 : (((rd_T29 t290 x9_2).f0) != 3) = true := bne_iff_ne.mpr c64
                by_cases c70 : ((rd_T29 t290 x9_2).f0) = 2
                ·
                 rw [if_pos c70] at H
                 have c70b0 : (((rd_T29 t290 x9_2).f0) == 2) = true := beq_iff_eq.mpr c70
                 have c70b1 : (((rd_T29 t290 x9_2).f0) != 2) = false := bne_eq_false_iff_eq.mpr c70
                 clear c70
                 have H' := Aside0.mk H
                 clear H
                 have p316 : 0 ≤ (x9_2 : Int) := of_decide_eq_true (by first | (with_reducible assumption) | assumption)
                 have q316 : x9_2 < (t290.length : Int) := of_decide_eq_true (by first | (with_reducible assumption) | assumption)
                 obtain ⟨ad316, e316, hx316_0, hx316_1, hx316_2, hx316_3⟩ := at_T29 (Kd.R_reads' HO_4.out).2.2 x9_2 p316 q316
                 cases e316
                 replace p316 := eq_true p316
                 replace q316 := eq_true q316
                 try go_wp2_with (first | ((with_reducible refine gate_dst (N := 10) rfl ?_); (try (refine gate_guard (by rfl) ?_; dsimp only)); refine be_ 10 #[.int .i64 0, .string (⟨#[]⟩ : ByteArray), .int .i64 0, .int .i64 0] 29 ?_; intro gb317 hg w71 hbox hb; have n0_ := Aside0.mk (Kd.R_below (Kd.R_elderB (tkR_ HO_4.out) gb317 (Nat.le_of_eq hg.symm)) hb); have n1_ := Aside0.mk (Kd.R_below (Kd.R_elderB (tkR_ HO_6.out) gb317 (Nat.le_of_eq hg.symm)) hb); have n2_ := Aside0.mk (blk_below (g := gb302) (o := .cells #[.int .i64 t298, .string t299, .int .i64 t300, .int .i64 t301] 29 (0, 0)) (tn_ BK302.out) hb); have n3_ := Aside0.mk (below_step (tf6d_) hb); have n4_ := Aside0.mk (hbox); have n5_ := Aside0.mk ((by rw [hg]; exact (below_size (tf6d_)) : w.heap.size ≤ gb317)); have n6_ := Aside0.mk ((by rw [hg]; exact (below_size (tf6d_)) : w.heap.size ≤ gb317)); have n7_ := Aside0.mk ((by rw [hg]; exact Nat.ne_of_lt (blk_lt (g := gb302) (o := .cells #[.int .i64 t298, .string t299, .int .i64 t300, .int .i64 t301] 29 (0, 0)) (tn_ BK302.out)) : gb302 ≠ gb317)); have n8_ := Aside0.mk ((by rw [hg]; exact Nat.ne_of_gt (blk_lt (g := gb302) (o := .cells #[.int .i64 t298, .string t299, .int .i64 t300, .int .i64 t301] 29 (0, 0)) (tn_ BK302.out)) : gb317 ≠ gb302)); clear HO_4; clear HO_6; clear BK302; clear HB; have HO_4 := n0_; have HO_6 := n1_; have BK302 := n2_; have HB := n3_; have BK317 := n4_; have GW317 := n5_; have GE317 := n6_; have NB302_317 := n7_; have NB317_302 := n8_; clear n0_ n1_ n2_ n3_ n4_ n5_ n6_ n7_ n8_; clear hb hbox hg; have hnb72 := NB317_302.out; have hnc72 := NB302_317.out; have hcz73_0 : w71.cell? ⟨gb317, 0, none⟩ = some (.int .i64 0) := (blk_cell BK317.out 0).trans rfl; have hcz73_1 : w71.cell? ⟨gb317, 1, none⟩ = some (.string (⟨#[]⟩ : ByteArray)) := (blk_cell BK317.out 1).trans rfl; have hcz73_2 : w71.cell? ⟨gb317, 2, none⟩ = some (.int .i64 0) := (blk_cell BK317.out 2).trans rfl; have hcz73_3 : w71.cell? ⟨gb317, 3, none⟩ = some (.int .i64 0) := (blk_cell BK317.out 3).trans rfl; have hfz73_0 := blk_frozen BK317.out 0; have hfz73_1 := blk_frozen BK317.out 1; have hfz73_2 := blk_frozen BK317.out 2; have hfz73_3 := blk_frozen BK317.out 3))
                 have n0_ : Aside0 (Kd.R k29 29 ((((w71.setCell ⟨gb317, 0, none⟩ (.int .i64 ((rd_T29 t290 x9_2).f0))).setCell ⟨gb317, 1, none⟩ (.string ((rd_T29 t290 x9_2).f1))).setCell ⟨gb317, 2, none⟩ (.int .i64 ((rd_T29 t290 x9_2).f2))).setCell ⟨gb317, 3, none⟩ (.int .i64 ((rd_T29 t290 x9_2).f3))) w.heap.size (fun k_ => some k_ ≠ (v296 : Value).ownBlock ∧ k_ ≠ gb302 ∧ k_ ≠ gb317) (.slice (some ad316) t290.length co44) t290) := ⟨by (with_reducible repeat (first | apply Kd.R_alloc | apply Kd.R_drewN | apply Kd.R_drew)); exact Kd.R_mono (Kd.R_far (p := ⟨gb317, 3, none⟩) (Kd.R_far (p := ⟨gb317, 2, none⟩) (Kd.R_far (p := ⟨gb317, 1, none⟩) (Kd.R_far (p := ⟨gb317, 0, none⟩) (Kd.R_mono HO_4.out (fun k_ hk => (⟨hk, hk.2⟩ : _ ∧ k_ ≠ gb317))) (fun _ hk => hk.2) (.int .i64 ((rd_T29 t290 x9_2).f0))) (fun _ hk => hk.2) (.string ((rd_T29 t290 x9_2).f1))) (fun _ hk => hk.2) (.int .i64 ((rd_T29 t290 x9_2).f2))) (fun _ hk => hk.2) (.int .i64 ((rd_T29 t290 x9_2).f3))) (fun _ hk => ⟨hk.1.1.1, ⟨hk.1.1.2, hk.1.2⟩⟩)⟩
                 have n1_ : Aside0 (Kd.R k29 29 ((((w71.setCell ⟨gb317, 0, none⟩ (.int .i64 ((rd_T29 t290 x9_2).f0))).setCell ⟨gb317, 1, none⟩ (.string ((rd_T29 t290 x9_2).f1))).setCell ⟨gb317, 2, none⟩ (.int .i64 ((rd_T29 t290 x9_2).f2))).setCell ⟨gb317, 3, none⟩ (.int .i64 ((rd_T29 t290 x9_2).f3))) w.heap.size (fun k_ => some k_ ≠ (.slice (some ad316) t290.length co44 : Value).ownBlock ∧ k_ ≠ gb302 ∧ k_ ≠ gb317) v296 t294) := ⟨by (with_reducible repeat (first | apply Kd.R_alloc | apply Kd.R_drewN | apply Kd.R_drew)); exact Kd.R_mono (Kd.R_far (p := ⟨gb317, 3, none⟩) (Kd.R_far (p := ⟨gb317, 2, none⟩) (Kd.R_far (p := ⟨gb317, 1, none⟩) (Kd.R_far (p := ⟨gb317, 0, none⟩) (Kd.R_mono HO_6.out (fun k_ hk => (⟨hk, hk.2⟩ : _ ∧ k_ ≠ gb317))) (fun _ hk => hk.2) (.int .i64 ((rd_T29 t290 x9_2).f0))) (fun _ hk => hk.2) (.string ((rd_T29 t290 x9_2).f1))) (fun _ hk => hk.2) (.int .i64 ((rd_T29 t290 x9_2).f2))) (fun _ hk => hk.2) (.int .i64 ((rd_T29 t290 x9_2).f3))) (fun _ hk => ⟨hk.1.1.1, ⟨hk.1.1.2, hk.1.2⟩⟩)⟩
                 have n2_ : Aside0 (((((w71.setCell ⟨gb317, 0, none⟩ (.int .i64 ((rd_T29 t290 x9_2).f0))).setCell ⟨gb317, 1, none⟩ (.string ((rd_T29 t290 x9_2).f1))).setCell ⟨gb317, 2, none⟩ (.int .i64 ((rd_T29 t290 x9_2).f2))).setCell ⟨gb317, 3, none⟩ (.int .i64 ((rd_T29 t290 x9_2).f3))).heap[gb302]? = some (.cells #[.int .i64 t298, .string t299, .int .i64 t300, .int .i64 t301] 29 (0, 0))) := ⟨by refine tf_ NB302_317.out ?_; refine tf_ NB302_317.out ?_; refine tf_ NB302_317.out ?_; refine tf_ NB302_317.out ?_; refine tn_ ?_; exact BK302.out⟩
                 have n3_ : Aside0 (((((w71.setCell ⟨gb317, 0, none⟩ (.int .i64 ((rd_T29 t290 x9_2).f0))).setCell ⟨gb317, 1, none⟩ (.string ((rd_T29 t290 x9_2).f1))).setCell ⟨gb317, 2, none⟩ (.int .i64 ((rd_T29 t290 x9_2).f2))).setCell ⟨gb317, 3, none⟩ (.int .i64 ((rd_T29 t290 x9_2).f3))).heap[gb317]? = some (.cells #[.int .i64 ((rd_T29 t290 x9_2).f0), .string ((rd_T29 t290 x9_2).f1), .int .i64 ((rd_T29 t290 x9_2).f2), .int .i64 ((rd_T29 t290 x9_2).f3)] 29 (0, 0))) := ⟨by refine tp_ #[.int .i64 ((rd_T29 t290 x9_2).f0), .string ((rd_T29 t290 x9_2).f1), .int .i64 ((rd_T29 t290 x9_2).f2), .int .i64 0] 3 ?_; refine tp_ #[.int .i64 ((rd_T29 t290 x9_2).f0), .string ((rd_T29 t290 x9_2).f1), .int .i64 0, .int .i64 0] 2 ?_; refine tp_ #[.int .i64 ((rd_T29 t290 x9_2).f0), .string (⟨#[]⟩ : ByteArray), .int .i64 0, .int .i64 0] 1 ?_; refine tp_ #[.int .i64 0, .string (⟨#[]⟩ : ByteArray), .int .i64 0, .int .i64 0] 0 ?_; refine tn_ ?_; exact BK317.out⟩
                 have n4_ : Aside0 (Below w.heap.size w ((((w71.setCell ⟨gb317, 0, none⟩ (.int .i64 ((rd_T29 t290 x9_2).f0))).setCell ⟨gb317, 1, none⟩ (.string ((rd_T29 t290 x9_2).f1))).setCell ⟨gb317, 2, none⟩ (.int .i64 ((rd_T29 t290 x9_2).f2))).setCell ⟨gb317, 3, none⟩ (.int .i64 ((rd_T29 t290 x9_2).f3)))) := ⟨tf6d_⟩
                 (try clear HO_4)
                 (try clear HO_6)
                 (try clear BK302)
                 (try clear BK317)
                 (try clear HB)
                 generalize ((((w71.setCell ⟨gb317, 0, none⟩ (.int .i64 ((rd_T29 t290 x9_2).f0))).setCell ⟨gb317, 1, none⟩ (.string ((rd_T29 t290 x9_2).f1))).setCell ⟨gb317, 2, none⟩ (.int .i64 ((rd_T29 t290 x9_2).f2))).setCell ⟨gb317, 3, none⟩ (.int .i64 ((rd_T29 t290 x9_2).f3))) = w74 at n0_ n1_ n2_ n3_ n4_ ⊢
                 have HO_4 := n0_
                 have HO_6 := n1_
                 have BK302 := n2_
                 have BK317 := n3_
                 have HB := n4_
                 clear n0_ n1_ n2_ n3_ n4_
                 have n0_ := Aside0.mk (Kd.R_drew HO_4.out)
                 have n1_ := Aside0.mk (Kd.R_drew HO_6.out)
                 have n2_ := Aside0.mk (blk_drew BK302.out)
                 have n3_ := Aside0.mk (blk_drew BK317.out)
                 have n4_ := Aside0.mk (below_drew1 HB.out)
                 clear HO_4
                 clear HO_6
                 clear BK302
                 clear BK317
                 clear HB
                 have HO_4 := n0_
                 have HO_6 := n1_
                 have BK302 := n2_
                 have BK317 := n3_
                 have HB := n4_
                 clear n0_ n1_ n2_ n3_ n4_
                 refine start_ (n := 28) (S := fun w' => w'.cell? ⟨gb317, 0, none⟩ = some (.int .i64 ((rd_T29 t290 x9_2).f0)) ∧ w'.cell? ⟨gb317, 1, none⟩ = some (.string ((rd_T29 t290 x9_2).f1)) ∧ w'.cell? ⟨gb317, 2, none⟩ = some (.int .i64 ((rd_T29 t290 x9_2).f2)) ∧ w'.cell? ⟨gb317, 3, none⟩ = some (.int .i64 ((rd_T29 t290 x9_2).f3))) (ds := []) (Array.replicate 28 false) (by kernel_rfl) rfl rfl ⟨(blk_cell BK317.out 0).trans rfl, (blk_cell BK317.out 1).trans rfl, (blk_cell BK317.out 2).trans rfl, (blk_cell BK317.out 3).trans rfl⟩ (fun hHeld => ?_); refine with_tabW laws_FnTokens.tab19 laws_FnTokens.bits19 (fun HT_ HW_ => ?_)
                 generalize w74.drew = w75 at HO_4 HO_6 BK302 BK317 HB hHeld ⊢
                 refine pv_ 0 (some 96) (bm 28 1) ?_
                 refine tv_ 1 (some 97) (bm 28 3) hHeld ?_
                 refine pv_ 2 (some 98) (bm 28 7) ?_
                 refine pv_ 3 (some 99) (bm 28 15) ?_
                 refine pv_ 4 (some 100) (bm 28 31) ?_
                 refine tv_ 5 (some 101) (bm 28 63) hHeld ?_
                 refine pv_ 6 (some 102) (bm 28 127) ?_
                 refine pv_ 7 (some 103) (bm 28 255) ?_
                 refine pv_ 8 (some 104) (bm 28 511) ?_
                 refine pure_ (i := 9) (N := some 105) (v := undef) (a' := ?_) (bm 28 1023) rfl rfl (any_of HT_.out (by kernel_rfl)) (fun _ _ _ h => h) (Or.inr ⟨by rfl, rfl⟩) ?_ ?_
                 rotate_left; (simp only [Act.put, List.setIfInBounds_toArray, List.set_cons_zero, List.set_cons_succ, i64_w, i32_w]; rfl)
                 refine pure_ (i := 10) (N := some 106) (v := undef) (a' := ?_) (bm 28 2047) rfl rfl (any_of HT_.out (by kernel_rfl)) (fun _ _ _ h => h) (Or.inr ⟨by rfl, rfl⟩) ?_ ?_
                 rotate_left; (simp only [Act.put, List.setIfInBounds_toArray, List.set_cons_zero, List.set_cons_succ, i64_w, i32_w]; rfl)
                 refine pure_ (i := 11) (N := some 107) (v := undef) (a' := ?_) (bm 28 4095) rfl rfl (any_of HT_.out (by kernel_rfl)) (fun _ _ _ h => h) (Or.inr ⟨by rfl, rfl⟩) ?_ ?_
                 rotate_left; (simp only [Act.put, List.setIfInBounds_toArray, List.set_cons_zero, List.set_cons_succ, i64_w, i32_w]; rfl)
                 refine pv_ 12 (some 108) (bm 28 8191) ?_
                 refine pv_ 13 (some 109) (bm 28 16383) ?_
                 refine pure_ (i := 14) (N := some 110) (v := undef) (a' := ?_) (bm 28 32767) rfl rfl (any_of HT_.out (by kernel_rfl)) (fun _ _ _ h => h) (Or.inr ⟨by rfl, rfl⟩) ?_ ?_
                 rotate_left; (simp only [Act.put, List.setIfInBounds_toArray, List.set_cons_zero, List.set_cons_succ, i64_w, i32_w]; rfl)
                 refine pure_ (i := 15) (N := some 111) (v := undef) (a' := ?_) (bm 28 65535) rfl rfl (any_of HT_.out (by kernel_rfl)) (fun _ _ _ h => h) (Or.inr ⟨by rfl, rfl⟩) ?_ ?_
                 rotate_left; (simp only [Act.put, List.setIfInBounds_toArray, List.set_cons_zero, List.set_cons_succ, i64_w, i32_w]; rfl)
                 refine pure_ (i := 16) (N := some 112) (v := undef) (a' := ?_) (bm 28 131071) rfl rfl (any_of HT_.out (by kernel_rfl)) (fun _ _ _ h => h) (Or.inr ⟨by rfl, rfl⟩) ?_ ?_
                 rotate_left; (simp only [Act.put, List.setIfInBounds_toArray, List.set_cons_zero, List.set_cons_succ, i64_w, i32_w]; rfl)
                 refine pure_ (i := 17) (N := some 113) (v := undef) (a' := ?_) (bm 28 262143) rfl rfl (any_of HT_.out (by kernel_rfl)) (fun _ _ _ h => h) (Or.inr ⟨by rfl, rfl⟩) ?_ ?_
                 rotate_left; (simp only [Act.put, List.setIfInBounds_toArray, List.set_cons_zero, List.set_cons_succ, i64_w, i32_w]; rfl)
                 refine pure_ (i := 18) (N := some 114) (v := undef) (a' := ?_) (bm 28 524287) rfl rfl (any_of HT_.out (by kernel_rfl)) (fun _ _ _ h => h) (Or.inr ⟨by rfl, rfl⟩) ?_ ?_
                 rotate_left; (simp only [Act.put, List.setIfInBounds_toArray, List.set_cons_zero, List.set_cons_succ, i64_w, i32_w]; rfl)
                 refine pure_ (i := 19) (N := some 115) (v := undef) (a' := ?_) (bm 28 1048575) rfl rfl (any_of HT_.out (by kernel_rfl)) (fun _ _ _ h => h) (Or.inr ⟨by rfl, rfl⟩) ?_ ?_
                 rotate_left; (simp only [Act.put, List.setIfInBounds_toArray, List.set_cons_zero, List.set_cons_succ, i64_w, i32_w]; rfl)
                 refine pure_ (i := 20) (N := some 116) (v := undef) (a' := ?_) (bm 28 2097151) rfl rfl (any_of HT_.out (by kernel_rfl)) (fun _ _ _ h => h) (Or.inr ⟨by rfl, rfl⟩) ?_ ?_
                 rotate_left; (simp only [Act.put, List.setIfInBounds_toArray, List.set_cons_zero, List.set_cons_succ, i64_w, i32_w]; rfl)
                 refine pure_ (i := 21) (N := some 117) (v := undef) (a' := ?_) (bm 28 4194303) rfl rfl (any_of HT_.out (by kernel_rfl)) (fun _ _ _ h => h) (Or.inr ⟨by rfl, rfl⟩) ?_ ?_
                 rotate_left; (simp only [Act.put, List.setIfInBounds_toArray, List.set_cons_zero, List.set_cons_succ, i64_w, i32_w]; rfl)
                 refine pure_ (i := 22) (N := some 118) (v := undef) (a' := ?_) (bm 28 8388607) rfl rfl (any_of HT_.out (by kernel_rfl)) (fun _ _ _ h => h) (Or.inr ⟨by rfl, rfl⟩) ?_ ?_
                 rotate_left; (simp only [Act.put, List.setIfInBounds_toArray, List.set_cons_zero, List.set_cons_succ, i64_w, i32_w]; rfl)
                 refine pure_ (i := 23) (N := some 119) (v := undef) (a' := ?_) (bm 28 16777215) rfl rfl (any_of HT_.out (by kernel_rfl)) (fun _ _ _ h => h) (Or.inr ⟨by rfl, rfl⟩) ?_ ?_
                 rotate_left; (simp only [Act.put, List.setIfInBounds_toArray, List.set_cons_zero, List.set_cons_succ, i64_w, i32_w]; rfl)
                 refine pure_ (i := 24) (N := some 120) (v := undef) (a' := ?_) (bm 28 33554431) rfl rfl (any_of HT_.out (by kernel_rfl)) (fun _ _ _ h => h) (Or.inr ⟨by rfl, rfl⟩) ?_ ?_
                 rotate_left; (simp only [Act.put, List.setIfInBounds_toArray, List.set_cons_zero, List.set_cons_succ, i64_w, i32_w]; rfl)
                 refine pure_ (i := 25) (N := some 121) (v := undef) (a' := ?_) (bm 28 67108863) rfl rfl (any_of HT_.out (by kernel_rfl)) (fun _ _ _ h => h) (Or.inr ⟨by rfl, rfl⟩) ?_ ?_
                 rotate_left; (simp only [Act.put, List.setIfInBounds_toArray, List.set_cons_zero, List.set_cons_succ, i64_w, i32_w]; rfl)
                 refine pure_ (i := 26) (N := some 122) (v := undef) (a' := ?_) (bm 28 134217727) rfl rfl (any_of HT_.out (by kernel_rfl)) (fun _ _ _ h => h) (Or.inr ⟨by rfl, rfl⟩) ?_ ?_
                 rotate_left; (simp only [Act.put, List.setIfInBounds_toArray, List.set_cons_zero, List.set_cons_succ, i64_w, i32_w]; rfl)
                 refine pv_ 27 (some 123) (bm 28 268435455) ?_
                 refine done_ (done_of HT_.out (by kernel_rfl)) ?_
                 try go_wp2
                 go_roundg kj42
                 case measure => have := HJ6.out; have := HK2.out; have := HJ42.out; omega
                 case rel => exact ⟨(wrap64 (x9_2 + 1)), (by first | rfl | (simp; done) | (simp [*]; done)), H', ⟨by have := HJ6.out; have := HK2.out; have := HJ42.out; omega⟩, ⟨by (with_reducible repeat (first | apply Kd.R_alloc | apply Kd.R_drewN | apply Kd.R_drew)); exact Kd.R_mono HO_4.out (fun _ hk => ⟨hk.1, hk.2.1⟩)⟩, ⟨by (with_reducible repeat (first | apply Kd.R_alloc | apply Kd.R_drewN | apply Kd.R_drew)); exact Kd.R_mono HO_6.out (fun _ hk => ⟨hk.1, hk.2.1⟩)⟩, ⟨by refine tn_ ?_; exact BK302.out⟩, ⟨tf6d_⟩⟩
                ·
                 rw [if_neg c70] at H
                 have c70b0 : (((rd_T29 t290 x9_2).f0) == 2) = false := beq_eq_false_iff_ne.mpr c70
                 have c70b1 : (((rd_T29 t290 x9_2).f0) != 2) = true := bne_iff_ne.mpr c70
                 by_cases c76 : ((rd_T29 t290 x9_2).f0) = 0
                 ·
                  rw [if_pos c76] at H
                  have c76b0 : (((rd_T29 t290 x9_2).f0) == 0) = true := beq_iff_eq.mpr c76
                  have c76b1 : (((rd_T29 t290 x9_2).f0) != 0) = false := bne_eq_false_iff_eq.mpr c76
                  clear c76
                  have H' := Aside0.mk H
                  clear H
                  have p316 : 0 ≤ (x9_2 : Int) := of_decide_eq_true (by first | (with_reducible assumption) | assumption)
                  have q316 : x9_2 < (t290.length : Int) := of_decide_eq_true (by first | (with_reducible assumption) | assumption)
                  obtain ⟨ad316, e316, hx316_0, hx316_1, hx316_2, hx316_3⟩ := at_T29 (Kd.R_reads' HO_4.out).2.2 x9_2 p316 q316
                  cases e316
                  replace p316 := eq_true p316
                  replace q316 := eq_true q316
                  try go_wp2_with (first | ((with_reducible refine gate_dst (N := 10) rfl ?_); (try (refine gate_guard (by rfl) ?_; dsimp only)); refine be_ 10 #[.int .i64 0, .string (⟨#[]⟩ : ByteArray), .int .i64 0, .int .i64 0] 29 ?_; intro gb317 hg w77 hbox hb; have n0_ := Aside0.mk (Kd.R_below (Kd.R_elderB (tkR_ HO_4.out) gb317 (Nat.le_of_eq hg.symm)) hb); have n1_ := Aside0.mk (Kd.R_below (Kd.R_elderB (tkR_ HO_6.out) gb317 (Nat.le_of_eq hg.symm)) hb); have n2_ := Aside0.mk (blk_below (g := gb302) (o := .cells #[.int .i64 t298, .string t299, .int .i64 t300, .int .i64 t301] 29 (0, 0)) (tn_ BK302.out) hb); have n3_ := Aside0.mk (below_step (tf6d_) hb); have n4_ := Aside0.mk (hbox); have n5_ := Aside0.mk ((by rw [hg]; exact (below_size (tf6d_)) : w.heap.size ≤ gb317)); have n6_ := Aside0.mk ((by rw [hg]; exact (below_size (tf6d_)) : w.heap.size ≤ gb317)); have n7_ := Aside0.mk ((by rw [hg]; exact Nat.ne_of_lt (blk_lt (g := gb302) (o := .cells #[.int .i64 t298, .string t299, .int .i64 t300, .int .i64 t301] 29 (0, 0)) (tn_ BK302.out)) : gb302 ≠ gb317)); have n8_ := Aside0.mk ((by rw [hg]; exact Nat.ne_of_gt (blk_lt (g := gb302) (o := .cells #[.int .i64 t298, .string t299, .int .i64 t300, .int .i64 t301] 29 (0, 0)) (tn_ BK302.out)) : gb317 ≠ gb302)); clear HO_4; clear HO_6; clear BK302; clear HB; have HO_4 := n0_; have HO_6 := n1_; have BK302 := n2_; have HB := n3_; have BK317 := n4_; have GW317 := n5_; have GE317 := n6_; have NB302_317 := n7_; have NB317_302 := n8_; clear n0_ n1_ n2_ n3_ n4_ n5_ n6_ n7_ n8_; clear hb hbox hg; have hnb78 := NB317_302.out; have hnc78 := NB302_317.out; have hcz79_0 : w77.cell? ⟨gb317, 0, none⟩ = some (.int .i64 0) := (blk_cell BK317.out 0).trans rfl; have hcz79_1 : w77.cell? ⟨gb317, 1, none⟩ = some (.string (⟨#[]⟩ : ByteArray)) := (blk_cell BK317.out 1).trans rfl; have hcz79_2 : w77.cell? ⟨gb317, 2, none⟩ = some (.int .i64 0) := (blk_cell BK317.out 2).trans rfl; have hcz79_3 : w77.cell? ⟨gb317, 3, none⟩ = some (.int .i64 0) := (blk_cell BK317.out 3).trans rfl; have hfz79_0 := blk_frozen BK317.out 0; have hfz79_1 := blk_frozen BK317.out 1; have hfz79_2 := blk_frozen BK317.out 2; have hfz79_3 := blk_frozen BK317.out 3))
                  have n0_ : Aside0 (Kd.R k29 29 ((((w77.setCell ⟨gb317, 0, none⟩ (.int .i64 ((rd_T29 t290 x9_2).f0))).setCell ⟨gb317, 1, none⟩ (.string ((rd_T29 t290 x9_2).f1))).setCell ⟨gb317, 2, none⟩ (.int .i64 ((rd_T29 t290 x9_2).f2))).setCell ⟨gb317, 3, none⟩ (.int .i64 ((rd_T29 t290 x9_2).f3))) w.heap.size (fun k_ => some k_ ≠ (v296 : Value).ownBlock ∧ k_ ≠ gb302 ∧ k_ ≠ gb317) (.slice (some ad316) t290.length co44) t290) := ⟨by (with_reducible repeat (first | apply Kd.R_alloc | apply Kd.R_drewN | apply Kd.R_drew)); exact Kd.R_mono (Kd.R_far (p := ⟨gb317, 3, none⟩) (Kd.R_far (p := ⟨gb317, 2, none⟩) (Kd.R_far (p := ⟨gb317, 1, none⟩) (Kd.R_far (p := ⟨gb317, 0, none⟩) (Kd.R_mono HO_4.out (fun k_ hk => (⟨hk, hk.2⟩ : _ ∧ k_ ≠ gb317))) (fun _ hk => hk.2) (.int .i64 ((rd_T29 t290 x9_2).f0))) (fun _ hk => hk.2) (.string ((rd_T29 t290 x9_2).f1))) (fun _ hk => hk.2) (.int .i64 ((rd_T29 t290 x9_2).f2))) (fun _ hk => hk.2) (.int .i64 ((rd_T29 t290 x9_2).f3))) (fun _ hk => ⟨hk.1.1.1, ⟨hk.1.1.2, hk.1.2⟩⟩)⟩
                  have n1_ : Aside0 (Kd.R k29 29 ((((w77.setCell ⟨gb317, 0, none⟩ (.int .i64 ((rd_T29 t290 x9_2).f0))).setCell ⟨gb317, 1, none⟩ (.string ((rd_T29 t290 x9_2).f1))).setCell ⟨gb317, 2, none⟩ (.int .i64 ((rd_T29 t290 x9_2).f2))).setCell ⟨gb317, 3, none⟩ (.int .i64 ((rd_T29 t290 x9_2).f3))) w.heap.size (fun k_ => some k_ ≠ (.slice (some ad316) t290.length co44 : Value).ownBlock ∧ k_ ≠ gb302 ∧ k_ ≠ gb317) v296 t294) := ⟨by (with_reducible repeat (first | apply Kd.R_alloc | apply Kd.R_drewN | apply Kd.R_drew)); exact Kd.R_mono (Kd.R_far (p := ⟨gb317, 3, none⟩) (Kd.R_far (p := ⟨gb317, 2, none⟩) (Kd.R_far (p := ⟨gb317, 1, none⟩) (Kd.R_far (p := ⟨gb317, 0, none⟩) (Kd.R_mono HO_6.out (fun k_ hk => (⟨hk, hk.2⟩ : _ ∧ k_ ≠ gb317))) (fun _ hk => hk.2) (.int .i64 ((rd_T29 t290 x9_2).f0))) (fun _ hk => hk.2) (.string ((rd_T29 t290 x9_2).f1))) (fun _ hk => hk.2) (.int .i64 ((rd_T29 t290 x9_2).f2))) (fun _ hk => hk.2) (.int .i64 ((rd_T29 t290 x9_2).f3))) (fun _ hk => ⟨hk.1.1.1, ⟨hk.1.1.2, hk.1.2⟩⟩)⟩
                  have n2_ : Aside0 (((((w77.setCell ⟨gb317, 0, none⟩ (.int .i64 ((rd_T29 t290 x9_2).f0))).setCell ⟨gb317, 1, none⟩ (.string ((rd_T29 t290 x9_2).f1))).setCell ⟨gb317, 2, none⟩ (.int .i64 ((rd_T29 t290 x9_2).f2))).setCell ⟨gb317, 3, none⟩ (.int .i64 ((rd_T29 t290 x9_2).f3))).heap[gb302]? = some (.cells #[.int .i64 t298, .string t299, .int .i64 t300, .int .i64 t301] 29 (0, 0))) := ⟨by refine tf_ NB302_317.out ?_; refine tf_ NB302_317.out ?_; refine tf_ NB302_317.out ?_; refine tf_ NB302_317.out ?_; refine tn_ ?_; exact BK302.out⟩
                  have n3_ : Aside0 (((((w77.setCell ⟨gb317, 0, none⟩ (.int .i64 ((rd_T29 t290 x9_2).f0))).setCell ⟨gb317, 1, none⟩ (.string ((rd_T29 t290 x9_2).f1))).setCell ⟨gb317, 2, none⟩ (.int .i64 ((rd_T29 t290 x9_2).f2))).setCell ⟨gb317, 3, none⟩ (.int .i64 ((rd_T29 t290 x9_2).f3))).heap[gb317]? = some (.cells #[.int .i64 ((rd_T29 t290 x9_2).f0), .string ((rd_T29 t290 x9_2).f1), .int .i64 ((rd_T29 t290 x9_2).f2), .int .i64 ((rd_T29 t290 x9_2).f3)] 29 (0, 0))) := ⟨by refine tp_ #[.int .i64 ((rd_T29 t290 x9_2).f0), .string ((rd_T29 t290 x9_2).f1), .int .i64 ((rd_T29 t290 x9_2).f2), .int .i64 0] 3 ?_; refine tp_ #[.int .i64 ((rd_T29 t290 x9_2).f0), .string ((rd_T29 t290 x9_2).f1), .int .i64 0, .int .i64 0] 2 ?_; refine tp_ #[.int .i64 ((rd_T29 t290 x9_2).f0), .string (⟨#[]⟩ : ByteArray), .int .i64 0, .int .i64 0] 1 ?_; refine tp_ #[.int .i64 0, .string (⟨#[]⟩ : ByteArray), .int .i64 0, .int .i64 0] 0 ?_; refine tn_ ?_; exact BK317.out⟩
                  have n4_ : Aside0 (Below w.heap.size w ((((w77.setCell ⟨gb317, 0, none⟩ (.int .i64 ((rd_T29 t290 x9_2).f0))).setCell ⟨gb317, 1, none⟩ (.string ((rd_T29 t290 x9_2).f1))).setCell ⟨gb317, 2, none⟩ (.int .i64 ((rd_T29 t290 x9_2).f2))).setCell ⟨gb317, 3, none⟩ (.int .i64 ((rd_T29 t290 x9_2).f3)))) := ⟨tf6d_⟩
                  (try clear HO_4)
                  (try clear HO_6)
                  (try clear BK302)
                  (try clear BK317)
                  (try clear HB)
                  generalize ((((w77.setCell ⟨gb317, 0, none⟩ (.int .i64 ((rd_T29 t290 x9_2).f0))).setCell ⟨gb317, 1, none⟩ (.string ((rd_T29 t290 x9_2).f1))).setCell ⟨gb317, 2, none⟩ (.int .i64 ((rd_T29 t290 x9_2).f2))).setCell ⟨gb317, 3, none⟩ (.int .i64 ((rd_T29 t290 x9_2).f3))) = w80 at n0_ n1_ n2_ n3_ n4_ ⊢
                  have HO_4 := n0_
                  have HO_6 := n1_
                  have BK302 := n2_
                  have BK317 := n3_
                  have HB := n4_
                  clear n0_ n1_ n2_ n3_ n4_
                  have n0_ := Aside0.mk (Kd.R_drew HO_4.out)
                  have n1_ := Aside0.mk (Kd.R_drew HO_6.out)
                  have n2_ := Aside0.mk (blk_drew BK302.out)
                  have n3_ := Aside0.mk (blk_drew BK317.out)
                  have n4_ := Aside0.mk (below_drew1 HB.out)
                  clear HO_4
                  clear HO_6
                  clear BK302
                  clear BK317
                  clear HB
                  have HO_4 := n0_
                  have HO_6 := n1_
                  have BK302 := n2_
                  have BK317 := n3_
                  have HB := n4_
                  clear n0_ n1_ n2_ n3_ n4_
                  refine start_ (n := 28) (S := fun w' => w'.cell? ⟨gb317, 0, none⟩ = some (.int .i64 ((rd_T29 t290 x9_2).f0)) ∧ w'.cell? ⟨gb317, 1, none⟩ = some (.string ((rd_T29 t290 x9_2).f1)) ∧ w'.cell? ⟨gb317, 2, none⟩ = some (.int .i64 ((rd_T29 t290 x9_2).f2)) ∧ w'.cell? ⟨gb317, 3, none⟩ = some (.int .i64 ((rd_T29 t290 x9_2).f3))) (ds := []) (Array.replicate 28 false) (by kernel_rfl) rfl rfl ⟨(blk_cell BK317.out 0).trans rfl, (blk_cell BK317.out 1).trans rfl, (blk_cell BK317.out 2).trans rfl, (blk_cell BK317.out 3).trans rfl⟩ (fun hHeld => ?_); refine with_tabW laws_FnTokens.tab19 laws_FnTokens.bits19 (fun HT_ HW_ => ?_)
                  generalize w80.drew = w81 at HO_4 HO_6 BK302 BK317 HB hHeld ⊢
                  refine pv_ 0 (some 96) (bm 28 1) ?_
                  refine tv_ 1 (some 97) (bm 28 3) hHeld ?_
                  refine pv_ 2 (some 98) (bm 28 7) ?_
                  refine pv_ 3 (some 99) (bm 28 15) ?_
                  refine pv_ 4 (some 100) (bm 28 31) ?_
                  refine tv_ 5 (some 101) (bm 28 63) hHeld ?_
                  refine pv_ 6 (some 102) (bm 28 127) ?_
                  refine pv_ 7 (some 103) (bm 28 255) ?_
                  refine pv_ 8 (some 104) (bm 28 511) ?_
                  refine pv_ 9 (some 105) (bm 28 1023) ?_
                  refine tv_ 10 (some 106) (bm 28 2047) hHeld ?_
                  refine pv_ 11 (some 107) (bm 28 4095) ?_
                  refine pv_ 12 (some 108) (bm 28 8191) ?_
                  refine pv_ 13 (some 109) (bm 28 16383) ?_
                  refine pure_ (i := 14) (N := some 110) (v := undef) (a' := ?_) (bm 28 32767) rfl rfl (any_of HT_.out (by kernel_rfl)) (fun _ _ _ h => h) (Or.inr ⟨by rfl, rfl⟩) ?_ ?_
                  rotate_left; (simp only [Act.put, List.setIfInBounds_toArray, List.set_cons_zero, List.set_cons_succ, i64_w, i32_w]; rfl)
                  refine pure_ (i := 15) (N := some 111) (v := undef) (a' := ?_) (bm 28 65535) rfl rfl (any_of HT_.out (by kernel_rfl)) (fun _ _ _ h => h) (Or.inr ⟨by rfl, rfl⟩) ?_ ?_
                  rotate_left; (simp only [Act.put, List.setIfInBounds_toArray, List.set_cons_zero, List.set_cons_succ, i64_w, i32_w]; rfl)
                  refine pure_ (i := 16) (N := some 112) (v := undef) (a' := ?_) (bm 28 131071) rfl rfl (any_of HT_.out (by kernel_rfl)) (fun _ _ _ h => h) (Or.inr ⟨by rfl, rfl⟩) ?_ ?_
                  rotate_left; (simp only [Act.put, List.setIfInBounds_toArray, List.set_cons_zero, List.set_cons_succ, i64_w, i32_w]; rfl)
                  refine pure_ (i := 17) (N := some 113) (v := undef) (a' := ?_) (bm 28 262143) rfl rfl (any_of HT_.out (by kernel_rfl)) (fun _ _ _ h => h) (Or.inr ⟨by rfl, rfl⟩) ?_ ?_
                  rotate_left; (simp only [Act.put, List.setIfInBounds_toArray, List.set_cons_zero, List.set_cons_succ, i64_w, i32_w]; rfl)
                  refine pure_ (i := 18) (N := some 114) (v := undef) (a' := ?_) (bm 28 524287) rfl rfl (any_of HT_.out (by kernel_rfl)) (fun _ _ _ h => h) (Or.inr ⟨by rfl, rfl⟩) ?_ ?_
                  rotate_left; (simp only [Act.put, List.setIfInBounds_toArray, List.set_cons_zero, List.set_cons_succ, i64_w, i32_w]; rfl)
                  refine pure_ (i := 19) (N := some 115) (v := undef) (a' := ?_) (bm 28 1048575) rfl rfl (any_of HT_.out (by kernel_rfl)) (fun _ _ _ h => h) (Or.inr ⟨by rfl, rfl⟩) ?_ ?_
                  rotate_left; (simp only [Act.put, List.setIfInBounds_toArray, List.set_cons_zero, List.set_cons_succ, i64_w, i32_w]; rfl)
                  refine pure_ (i := 20) (N := some 116) (v := undef) (a' := ?_) (bm 28 2097151) rfl rfl (any_of HT_.out (by kernel_rfl)) (fun _ _ _ h => h) (Or.inr ⟨by rfl, rfl⟩) ?_ ?_
                  rotate_left; (simp only [Act.put, List.setIfInBounds_toArray, List.set_cons_zero, List.set_cons_succ, i64_w, i32_w]; rfl)
                  refine pure_ (i := 21) (N := some 117) (v := undef) (a' := ?_) (bm 28 4194303) rfl rfl (any_of HT_.out (by kernel_rfl)) (fun _ _ _ h => h) (Or.inr ⟨by rfl, rfl⟩) ?_ ?_
                  rotate_left; (simp only [Act.put, List.setIfInBounds_toArray, List.set_cons_zero, List.set_cons_succ, i64_w, i32_w]; rfl)
                  refine pure_ (i := 22) (N := some 118) (v := undef) (a' := ?_) (bm 28 8388607) rfl rfl (any_of HT_.out (by kernel_rfl)) (fun _ _ _ h => h) (Or.inr ⟨by rfl, rfl⟩) ?_ ?_
                  rotate_left; (simp only [Act.put, List.setIfInBounds_toArray, List.set_cons_zero, List.set_cons_succ, i64_w, i32_w]; rfl)
                  refine pure_ (i := 23) (N := some 119) (v := undef) (a' := ?_) (bm 28 16777215) rfl rfl (any_of HT_.out (by kernel_rfl)) (fun _ _ _ h => h) (Or.inr ⟨by rfl, rfl⟩) ?_ ?_
                  rotate_left; (simp only [Act.put, List.setIfInBounds_toArray, List.set_cons_zero, List.set_cons_succ, i64_w, i32_w]; rfl)
                  refine pure_ (i := 24) (N := some 120) (v := undef) (a' := ?_) (bm 28 33554431) rfl rfl (any_of HT_.out (by kernel_rfl)) (fun _ _ _ h => h) (Or.inr ⟨by rfl, rfl⟩) ?_ ?_
                  rotate_left; (simp only [Act.put, List.setIfInBounds_toArray, List.set_cons_zero, List.set_cons_succ, i64_w, i32_w]; rfl)
                  refine pure_ (i := 25) (N := some 121) (v := undef) (a' := ?_) (bm 28 67108863) rfl rfl (any_of HT_.out (by kernel_rfl)) (fun _ _ _ h => h) (Or.inr ⟨by rfl, rfl⟩) ?_ ?_
                  rotate_left; (simp only [Act.put, List.setIfInBounds_toArray, List.set_cons_zero, List.set_cons_succ, i64_w, i32_w]; rfl)
                  refine pure_ (i := 26) (N := some 122) (v := undef) (a' := ?_) (bm 28 134217727) rfl rfl (any_of HT_.out (by kernel_rfl)) (fun _ _ _ h => h) (Or.inr ⟨by rfl, rfl⟩) ?_ ?_
                  rotate_left; (simp only [Act.put, List.setIfInBounds_toArray, List.set_cons_zero, List.set_cons_succ, i64_w, i32_w]; rfl)
                  refine pv_ 27 (some 123) (bm 28 268435455) ?_
                  refine done_ (done_of HT_.out (by kernel_rfl)) ?_
                  try go_wp2
                  go_roundg kj42
                  case measure => have := HJ6.out; have := HK2.out; have := HJ42.out; omega
                  case rel => exact ⟨(wrap64 (x9_2 + 1)), (by first | rfl | (simp; done) | (simp [*]; done)), H', ⟨by have := HJ6.out; have := HK2.out; have := HJ42.out; omega⟩, ⟨by (with_reducible repeat (first | apply Kd.R_alloc | apply Kd.R_drewN | apply Kd.R_drew)); exact Kd.R_mono HO_4.out (fun _ hk => ⟨hk.1, hk.2.1⟩)⟩, ⟨by (with_reducible repeat (first | apply Kd.R_alloc | apply Kd.R_drewN | apply Kd.R_drew)); exact Kd.R_mono HO_6.out (fun _ hk => ⟨hk.1, hk.2.1⟩)⟩, ⟨by refine tn_ ?_; exact BK302.out⟩, ⟨tf6d_⟩⟩
                 ·
                  rw [if_neg c76] at H
                  have c76b0 : (((rd_T29 t290 x9_2).f0) == 0) = false := beq_eq_false_iff_ne.mpr c76
                  have c76b1 : (((rd_T29 t290 x9_2).f0) != 0) = true := bne_iff_ne.mpr c76
                  by_cases c82 : 0 ≤ ((rd_T29 t290 x9_2).f3)
                  ·
                   rw [if_pos c82] at H
                   have c82b0 := eq_true c82
                   have c82b1 : decide (0 ≤ ((rd_T29 t290 x9_2).f3)) = true := decide_eq_true c82
                   clear c82
                   by_cases c83 : ((rd_T29 t290 x9_2).f3) ≤ (wrap64 (((rd_T29 t290 x9_2).f3) + (((rd_T29 t290 x9_2).f1).size : Int)))
                   ·
                    rw [if_pos c83] at H
                    have c83b0 := eq_true c83
                    have c83b1 : decide (((rd_T29 t290 x9_2).f3) ≤ (wrap64 (((rd_T29 t290 x9_2).f3) + (((rd_T29 t290 x9_2).f1).size : Int)))) = true := decide_eq_true c83
                    by_cases c84 : (wrap64 (((rd_T29 t290 x9_2).f3) + (((rd_T29 t290 x9_2).f1).size : Int))) ≤ (t289.size : Int)
                    ·
                     rw [if_pos c84] at H
                     have c84b0 := eq_true c84
                     have c84b1 : decide ((wrap64 (((rd_T29 t290 x9_2).f3) + (((rd_T29 t290 x9_2).f1).size : Int))) ≤ (t289.size : Int)) = true := decide_eq_true c84
                     by_cases c85 : (t289.extract (((rd_T29 t290 x9_2).f3) : Int).toNat ((wrap64 (((rd_T29 t290 x9_2).f3) + (((rd_T29 t290 x9_2).f1).size : Int))) : Int).toNat).toList = ((rd_T29 t290 x9_2).f1).toList
                     ·
                      rw [if_pos c85] at H
                      have c85b0 : ((t289.extract (((rd_T29 t290 x9_2).f3) : Int).toNat ((wrap64 (((rd_T29 t290 x9_2).f3) + (((rd_T29 t290 x9_2).f1).size : Int))) : Int).toNat).toList == ((rd_T29 t290 x9_2).f1).toList) = true := beq_iff_eq.mpr c85
                      have c85b1 : ((t289.extract (((rd_T29 t290 x9_2).f3) : Int).toNat ((wrap64 (((rd_T29 t290 x9_2).f3) + (((rd_T29 t290 x9_2).f1).size : Int))) : Int).toNat).toList != ((rd_T29 t290 x9_2).f1).toList) = false := bne_eq_false_iff_eq.mpr c85
                      clear c85
                      have H' := Aside0.mk H
                      clear H
                      have p316 : 0 ≤ (x9_2 : Int) := of_decide_eq_true (by first | (with_reducible assumption) | assumption)
                      have q316 : x9_2 < (t290.length : Int) := of_decide_eq_true (by first | (with_reducible assumption) | assumption)
                      obtain ⟨ad316, e316, hx316_0, hx316_1, hx316_2, hx316_3⟩ := at_T29 (Kd.R_reads' HO_4.out).2.2 x9_2 p316 q316
                      cases e316
                      replace p316 := eq_true p316
                      replace q316 := eq_true q316
                      try go_wp2_with (first | ((with_reducible refine gate_dst (N := 10) rfl ?_); (try (refine gate_guard (by rfl) ?_; dsimp only)); refine be_ 10 #[.int .i64 0, .string (⟨#[]⟩ : ByteArray), .int .i64 0, .int .i64 0] 29 ?_; intro gb317 hg w86 hbox hb; have n0_ := Aside0.mk (Kd.R_below (Kd.R_elderB (tkR_ HO_4.out) gb317 (Nat.le_of_eq hg.symm)) hb); have n1_ := Aside0.mk (Kd.R_below (Kd.R_elderB (tkR_ HO_6.out) gb317 (Nat.le_of_eq hg.symm)) hb); have n2_ := Aside0.mk (blk_below (g := gb302) (o := .cells #[.int .i64 t298, .string t299, .int .i64 t300, .int .i64 t301] 29 (0, 0)) (tn_ BK302.out) hb); have n3_ := Aside0.mk (below_step (tf6d_) hb); have n4_ := Aside0.mk (hbox); have n5_ := Aside0.mk ((by rw [hg]; exact (below_size (tf6d_)) : w.heap.size ≤ gb317)); have n6_ := Aside0.mk ((by rw [hg]; exact (below_size (tf6d_)) : w.heap.size ≤ gb317)); have n7_ := Aside0.mk ((by rw [hg]; exact Nat.ne_of_lt (blk_lt (g := gb302) (o := .cells #[.int .i64 t298, .string t299, .int .i64 t300, .int .i64 t301] 29 (0, 0)) (tn_ BK302.out)) : gb302 ≠ gb317)); have n8_ := Aside0.mk ((by rw [hg]; exact Nat.ne_of_gt (blk_lt (g := gb302) (o := .cells #[.int .i64 t298, .string t299, .int .i64 t300, .int .i64 t301] 29 (0, 0)) (tn_ BK302.out)) : gb317 ≠ gb302)); clear HO_4; clear HO_6; clear BK302; clear HB; have HO_4 := n0_; have HO_6 := n1_; have BK302 := n2_; have HB := n3_; have BK317 := n4_; have GW317 := n5_; have GE317 := n6_; have NB302_317 := n7_; have NB317_302 := n8_; clear n0_ n1_ n2_ n3_ n4_ n5_ n6_ n7_ n8_; clear hb hbox hg; have hnb87 := NB317_302.out; have hnc87 := NB302_317.out; have hcz88_0 : w86.cell? ⟨gb317, 0, none⟩ = some (.int .i64 0) := (blk_cell BK317.out 0).trans rfl; have hcz88_1 : w86.cell? ⟨gb317, 1, none⟩ = some (.string (⟨#[]⟩ : ByteArray)) := (blk_cell BK317.out 1).trans rfl; have hcz88_2 : w86.cell? ⟨gb317, 2, none⟩ = some (.int .i64 0) := (blk_cell BK317.out 2).trans rfl; have hcz88_3 : w86.cell? ⟨gb317, 3, none⟩ = some (.int .i64 0) := (blk_cell BK317.out 3).trans rfl; have hfz88_0 := blk_frozen BK317.out 0; have hfz88_1 := blk_frozen BK317.out 1; have hfz88_2 := blk_frozen BK317.out 2; have hfz88_3 := blk_frozen BK317.out 3))
                      have n0_ : Aside0 (Kd.R k29 29 ((((w86.setCell ⟨gb317, 0, none⟩ (.int .i64 ((rd_T29 t290 x9_2).f0))).setCell ⟨gb317, 1, none⟩ (.string ((rd_T29 t290 x9_2).f1))).setCell ⟨gb317, 2, none⟩ (.int .i64 ((rd_T29 t290 x9_2).f2))).setCell ⟨gb317, 3, none⟩ (.int .i64 ((rd_T29 t290 x9_2).f3))) w.heap.size (fun k_ => some k_ ≠ (v296 : Value).ownBlock ∧ k_ ≠ gb302 ∧ k_ ≠ gb317) (.slice (some ad316) t290.length co44) t290) := ⟨by (with_reducible repeat (first | apply Kd.R_alloc | apply Kd.R_drewN | apply Kd.R_drew)); exact Kd.R_mono (Kd.R_far (p := ⟨gb317, 3, none⟩) (Kd.R_far (p := ⟨gb317, 2, none⟩) (Kd.R_far (p := ⟨gb317, 1, none⟩) (Kd.R_far (p := ⟨gb317, 0, none⟩) (Kd.R_mono HO_4.out (fun k_ hk => (⟨hk, hk.2⟩ : _ ∧ k_ ≠ gb317))) (fun _ hk => hk.2) (.int .i64 ((rd_T29 t290 x9_2).f0))) (fun _ hk => hk.2) (.string ((rd_T29 t290 x9_2).f1))) (fun _ hk => hk.2) (.int .i64 ((rd_T29 t290 x9_2).f2))) (fun _ hk => hk.2) (.int .i64 ((rd_T29 t290 x9_2).f3))) (fun _ hk => ⟨hk.1.1.1, ⟨hk.1.1.2, hk.1.2⟩⟩)⟩
                      have n1_ : Aside0 (Kd.R k29 29 ((((w86.setCell ⟨gb317, 0, none⟩ (.int .i64 ((rd_T29 t290 x9_2).f0))).setCell ⟨gb317, 1, none⟩ (.string ((rd_T29 t290 x9_2).f1))).setCell ⟨gb317, 2, none⟩ (.int .i64 ((rd_T29 t290 x9_2).f2))).setCell ⟨gb317, 3, none⟩ (.int .i64 ((rd_T29 t290 x9_2).f3))) w.heap.size (fun k_ => some k_ ≠ (.slice (some ad316) t290.length co44 : Value).ownBlock ∧ k_ ≠ gb302 ∧ k_ ≠ gb317) v296 t294) := ⟨by (with_reducible repeat (first | apply Kd.R_alloc | apply Kd.R_drewN | apply Kd.R_drew)); exact Kd.R_mono (Kd.R_far (p := ⟨gb317, 3, none⟩) (Kd.R_far (p := ⟨gb317, 2, none⟩) (Kd.R_far (p := ⟨gb317, 1, none⟩) (Kd.R_far (p := ⟨gb317, 0, none⟩) (Kd.R_mono HO_6.out (fun k_ hk => (⟨hk, hk.2⟩ : _ ∧ k_ ≠ gb317))) (fun _ hk => hk.2) (.int .i64 ((rd_T29 t290 x9_2).f0))) (fun _ hk => hk.2) (.string ((rd_T29 t290 x9_2).f1))) (fun _ hk => hk.2) (.int .i64 ((rd_T29 t290 x9_2).f2))) (fun _ hk => hk.2) (.int .i64 ((rd_T29 t290 x9_2).f3))) (fun _ hk => ⟨hk.1.1.1, ⟨hk.1.1.2, hk.1.2⟩⟩)⟩
                      have n2_ : Aside0 (((((w86.setCell ⟨gb317, 0, none⟩ (.int .i64 ((rd_T29 t290 x9_2).f0))).setCell ⟨gb317, 1, none⟩ (.string ((rd_T29 t290 x9_2).f1))).setCell ⟨gb317, 2, none⟩ (.int .i64 ((rd_T29 t290 x9_2).f2))).setCell ⟨gb317, 3, none⟩ (.int .i64 ((rd_T29 t290 x9_2).f3))).heap[gb302]? = some (.cells #[.int .i64 t298, .string t299, .int .i64 t300, .int .i64 t301] 29 (0, 0))) := ⟨by refine tf_ NB302_317.out ?_; refine tf_ NB302_317.out ?_; refine tf_ NB302_317.out ?_; refine tf_ NB302_317.out ?_; refine tn_ ?_; exact BK302.out⟩
                      have n3_ : Aside0 (((((w86.setCell ⟨gb317, 0, none⟩ (.int .i64 ((rd_T29 t290 x9_2).f0))).setCell ⟨gb317, 1, none⟩ (.string ((rd_T29 t290 x9_2).f1))).setCell ⟨gb317, 2, none⟩ (.int .i64 ((rd_T29 t290 x9_2).f2))).setCell ⟨gb317, 3, none⟩ (.int .i64 ((rd_T29 t290 x9_2).f3))).heap[gb317]? = some (.cells #[.int .i64 ((rd_T29 t290 x9_2).f0), .string ((rd_T29 t290 x9_2).f1), .int .i64 ((rd_T29 t290 x9_2).f2), .int .i64 ((rd_T29 t290 x9_2).f3)] 29 (0, 0))) := ⟨by refine tp_ #[.int .i64 ((rd_T29 t290 x9_2).f0), .string ((rd_T29 t290 x9_2).f1), .int .i64 ((rd_T29 t290 x9_2).f2), .int .i64 0] 3 ?_; refine tp_ #[.int .i64 ((rd_T29 t290 x9_2).f0), .string ((rd_T29 t290 x9_2).f1), .int .i64 0, .int .i64 0] 2 ?_; refine tp_ #[.int .i64 ((rd_T29 t290 x9_2).f0), .string (⟨#[]⟩ : ByteArray), .int .i64 0, .int .i64 0] 1 ?_; refine tp_ #[.int .i64 0, .string (⟨#[]⟩ : ByteArray), .int .i64 0, .int .i64 0] 0 ?_; refine tn_ ?_; exact BK317.out⟩
                      have n4_ : Aside0 (Below w.heap.size w ((((w86.setCell ⟨gb317, 0, none⟩ (.int .i64 ((rd_T29 t290 x9_2).f0))).setCell ⟨gb317, 1, none⟩ (.string ((rd_T29 t290 x9_2).f1))).setCell ⟨gb317, 2, none⟩ (.int .i64 ((rd_T29 t290 x9_2).f2))).setCell ⟨gb317, 3, none⟩ (.int .i64 ((rd_T29 t290 x9_2).f3)))) := ⟨tf6d_⟩
                      (try clear HO_4)
                      (try clear HO_6)
                      (try clear BK302)
                      (try clear BK317)
                      (try clear HB)
                      generalize ((((w86.setCell ⟨gb317, 0, none⟩ (.int .i64 ((rd_T29 t290 x9_2).f0))).setCell ⟨gb317, 1, none⟩ (.string ((rd_T29 t290 x9_2).f1))).setCell ⟨gb317, 2, none⟩ (.int .i64 ((rd_T29 t290 x9_2).f2))).setCell ⟨gb317, 3, none⟩ (.int .i64 ((rd_T29 t290 x9_2).f3))) = w89 at n0_ n1_ n2_ n3_ n4_ ⊢
                      have HO_4 := n0_
                      have HO_6 := n1_
                      have BK302 := n2_
                      have BK317 := n3_
                      have HB := n4_
                      clear n0_ n1_ n2_ n3_ n4_
                      have n0_ := Aside0.mk (Kd.R_drew HO_4.out)
                      have n1_ := Aside0.mk (Kd.R_drew HO_6.out)
                      have n2_ := Aside0.mk (blk_drew BK302.out)
                      have n3_ := Aside0.mk (blk_drew BK317.out)
                      have n4_ := Aside0.mk (below_drew1 HB.out)
                      clear HO_4
                      clear HO_6
                      clear BK302
                      clear BK317
                      clear HB
                      have HO_4 := n0_
                      have HO_6 := n1_
                      have BK302 := n2_
                      have BK317 := n3_
                      have HB := n4_
                      clear n0_ n1_ n2_ n3_ n4_
                      refine start_ (n := 28) (S := fun w' => w'.cell? ⟨gb317, 0, none⟩ = some (.int .i64 ((rd_T29 t290 x9_2).f0)) ∧ w'.cell? ⟨gb317, 1, none⟩ = some (.string ((rd_T29 t290 x9_2).f1)) ∧ w'.cell? ⟨gb317, 2, none⟩ = some (.int .i64 ((rd_T29 t290 x9_2).f2)) ∧ w'.cell? ⟨gb317, 3, none⟩ = some (.int .i64 ((rd_T29 t290 x9_2).f3))) (ds := []) (Array.replicate 28 false) (by kernel_rfl) rfl rfl ⟨(blk_cell BK317.out 0).trans rfl, (blk_cell BK317.out 1).trans rfl, (blk_cell BK317.out 2).trans rfl, (blk_cell BK317.out 3).trans rfl⟩ (fun hHeld => ?_); refine with_tabW laws_FnTokens.tab19 laws_FnTokens.bits19 (fun HT_ HW_ => ?_)
                      generalize w89.drew = w90 at HO_4 HO_6 BK302 BK317 HB hHeld ⊢
                      refine pv_ 0 (some 96) (bm 28 1) ?_
                      refine tv_ 1 (some 97) (bm 28 3) hHeld ?_
                      refine pv_ 2 (some 98) (bm 28 7) ?_
                      refine pv_ 3 (some 99) (bm 28 15) ?_
                      refine pv_ 4 (some 100) (bm 28 31) ?_
                      refine tv_ 5 (some 101) (bm 28 63) hHeld ?_
                      refine pv_ 6 (some 102) (bm 28 127) ?_
                      refine pv_ 7 (some 103) (bm 28 255) ?_
                      refine pv_ 8 (some 104) (bm 28 511) ?_
                      refine pv_ 9 (some 105) (bm 28 1023) ?_
                      refine tv_ 10 (some 106) (bm 28 2047) hHeld ?_
                      refine pv_ 11 (some 107) (bm 28 4095) ?_
                      refine pv_ 12 (some 108) (bm 28 8191) ?_
                      refine pv_ 13 (some 109) (bm 28 16383) ?_
                      refine pv_ 14 (some 110) (bm 28 32767) ?_
                      refine pv_ 15 (some 111) (bm 28 65535) ?_
                      refine pv_ 17 (some 113) (bm 28 196607) ?_
                      refine pv_ 19 (some 115) (bm 28 720895) ?_
                      refine pv_ 24 (some 120) (bm 28 17498111) ?_
                      refine tv_ 16 (some 112) (bm 28 17563647) hHeld ?_
                      refine tv_ 18 (some 114) (bm 28 17825791) hHeld ?_
                      refine tv_ 20 (some 116) (bm 28 18874367) hHeld ?_
                      refine pv_ 21 (some 117) (bm 28 20971519) ?_
                      refine pv_ 22 (some 118) (bm 28 25165823) ?_
                      refine pv_ 23 (some 119) (bm 28 33554431) ?_
                      refine tv_ 25 (some 121) (bm 28 67108863) hHeld ?_
                      refine pv_ 26 (some 122) (bm 28 134217727) ?_
                      refine pv_ 27 (some 123) (bm 28 268435455) ?_
                      refine done_ (done_of HT_.out (by kernel_rfl)) ?_
                      try go_wp2
                      go_roundg kj42
                      case measure => have := HJ6.out; have := HK2.out; have := HJ42.out; omega
                      case rel => exact ⟨(wrap64 (x9_2 + 1)), (by first | rfl | (simp; done) | (simp [*]; done)), H', ⟨by have := HJ6.out; have := HK2.out; have := HJ42.out; omega⟩, ⟨by (with_reducible repeat (first | apply Kd.R_alloc | apply Kd.R_drewN | apply Kd.R_drew)); exact Kd.R_mono HO_4.out (fun _ hk => ⟨hk.1, hk.2.1⟩)⟩, ⟨by (with_reducible repeat (first | apply Kd.R_alloc | apply Kd.R_drewN | apply Kd.R_drew)); exact Kd.R_mono HO_6.out (fun _ hk => ⟨hk.1, hk.2.1⟩)⟩, ⟨by refine tn_ ?_; exact BK302.out⟩, ⟨tf6d_⟩⟩
                     ·
                      rw [if_neg c85] at H
                      have c85b0 : ((t289.extract (((rd_T29 t290 x9_2).f3) : Int).toNat ((wrap64 (((rd_T29 t290 x9_2).f3) + (((rd_T29 t290 x9_2).f1).size : Int))) : Int).toNat).toList == ((rd_T29 t290 x9_2).f1).toList) = false := beq_eq_false_iff_ne.mpr c85
                      have c85b1 : ((t289.extract (((rd_T29 t290 x9_2).f3) : Int).toNat ((wrap64 (((rd_T29 t290 x9_2).f3) + (((rd_T29 t290 x9_2).f1).size : Int))) : Int).toNat).toList != ((rd_T29 t290 x9_2).f1).toList) = true := bne_iff_ne.mpr c85
                      obtain rfl := Option.some.inj H
                      have p316 : 0 ≤ (x9_2 : Int) := of_decide_eq_true (by first | (with_reducible assumption) | assumption)
                      have q316 : x9_2 < (t290.length : Int) := of_decide_eq_true (by first | (with_reducible assumption) | assumption)
                      obtain ⟨ad316, e316, hx316_0, hx316_1, hx316_2, hx316_3⟩ := at_T29 (Kd.R_reads' HO_4.out).2.2 x9_2 p316 q316
                      cases e316
                      replace p316 := eq_true p316
                      replace q316 := eq_true q316
                      try go_wp2_with (first | ((with_reducible refine gate_dst (N := 10) rfl ?_); (try (refine gate_guard (by rfl) ?_; dsimp only)); refine be_ 10 #[.int .i64 0, .string (⟨#[]⟩ : ByteArray), .int .i64 0, .int .i64 0] 29 ?_; intro gb317 hg w91 hbox hb; have n0_ := Aside0.mk (Kd.R_below (Kd.R_elderB (tkR_ HO_4.out) gb317 (Nat.le_of_eq hg.symm)) hb); have n1_ := Aside0.mk (Kd.R_below (Kd.R_elderB (tkR_ HO_6.out) gb317 (Nat.le_of_eq hg.symm)) hb); have n2_ := Aside0.mk (blk_below (g := gb302) (o := .cells #[.int .i64 t298, .string t299, .int .i64 t300, .int .i64 t301] 29 (0, 0)) (tn_ BK302.out) hb); have n3_ := Aside0.mk (below_step (tf6d_) hb); have n4_ := Aside0.mk (hbox); have n5_ := Aside0.mk ((by rw [hg]; exact (below_size (tf6d_)) : w.heap.size ≤ gb317)); have n6_ := Aside0.mk ((by rw [hg]; exact (below_size (tf6d_)) : w.heap.size ≤ gb317)); have n7_ := Aside0.mk ((by rw [hg]; exact Nat.ne_of_lt (blk_lt (g := gb302) (o := .cells #[.int .i64 t298, .string t299, .int .i64 t300, .int .i64 t301] 29 (0, 0)) (tn_ BK302.out)) : gb302 ≠ gb317)); have n8_ := Aside0.mk ((by rw [hg]; exact Nat.ne_of_gt (blk_lt (g := gb302) (o := .cells #[.int .i64 t298, .string t299, .int .i64 t300, .int .i64 t301] 29 (0, 0)) (tn_ BK302.out)) : gb317 ≠ gb302)); clear HO_4; clear HO_6; clear BK302; clear HB; have HO_4 := n0_; have HO_6 := n1_; have BK302 := n2_; have HB := n3_; have BK317 := n4_; have GW317 := n5_; have GE317 := n6_; have NB302_317 := n7_; have NB317_302 := n8_; clear n0_ n1_ n2_ n3_ n4_ n5_ n6_ n7_ n8_; clear hb hbox hg; have hnb92 := NB317_302.out; have hnc92 := NB302_317.out; have hcz93_0 : w91.cell? ⟨gb317, 0, none⟩ = some (.int .i64 0) := (blk_cell BK317.out 0).trans rfl; have hcz93_1 : w91.cell? ⟨gb317, 1, none⟩ = some (.string (⟨#[]⟩ : ByteArray)) := (blk_cell BK317.out 1).trans rfl; have hcz93_2 : w91.cell? ⟨gb317, 2, none⟩ = some (.int .i64 0) := (blk_cell BK317.out 2).trans rfl; have hcz93_3 : w91.cell? ⟨gb317, 3, none⟩ = some (.int .i64 0) := (blk_cell BK317.out 3).trans rfl; have hfz93_0 := blk_frozen BK317.out 0; have hfz93_1 := blk_frozen BK317.out 1; have hfz93_2 := blk_frozen BK317.out 2; have hfz93_3 := blk_frozen BK317.out 3))
                      have n0_ : Aside0 (Kd.R k29 29 ((((w91.setCell ⟨gb317, 0, none⟩ (.int .i64 ((rd_T29 t290 x9_2).f0))).setCell ⟨gb317, 1, none⟩ (.string ((rd_T29 t290 x9_2).f1))).setCell ⟨gb317, 2, none⟩ (.int .i64 ((rd_T29 t290 x9_2).f2))).setCell ⟨gb317, 3, none⟩ (.int .i64 ((rd_T29 t290 x9_2).f3))) w.heap.size (fun k_ => some k_ ≠ (v296 : Value).ownBlock ∧ k_ ≠ gb302 ∧ k_ ≠ gb317) (.slice (some ad316) t290.length co44) t290) := ⟨by (with_reducible repeat (first | apply Kd.R_alloc | apply Kd.R_drewN | apply Kd.R_drew)); exact Kd.R_mono (Kd.R_far (p := ⟨gb317, 3, none⟩) (Kd.R_far (p := ⟨gb317, 2, none⟩) (Kd.R_far (p := ⟨gb317, 1, none⟩) (Kd.R_far (p := ⟨gb317, 0, none⟩) (Kd.R_mono HO_4.out (fun k_ hk => (⟨hk, hk.2⟩ : _ ∧ k_ ≠ gb317))) (fun _ hk => hk.2) (.int .i64 ((rd_T29 t290 x9_2).f0))) (fun _ hk => hk.2) (.string ((rd_T29 t290 x9_2).f1))) (fun _ hk => hk.2) (.int .i64 ((rd_T29 t290 x9_2).f2))) (fun _ hk => hk.2) (.int .i64 ((rd_T29 t290 x9_2).f3))) (fun _ hk => ⟨hk.1.1.1, ⟨hk.1.1.2, hk.1.2⟩⟩)⟩
                      have n1_ : Aside0 (Kd.R k29 29 ((((w91.setCell ⟨gb317, 0, none⟩ (.int .i64 ((rd_T29 t290 x9_2).f0))).setCell ⟨gb317, 1, none⟩ (.string ((rd_T29 t290 x9_2).f1))).setCell ⟨gb317, 2, none⟩ (.int .i64 ((rd_T29 t290 x9_2).f2))).setCell ⟨gb317, 3, none⟩ (.int .i64 ((rd_T29 t290 x9_2).f3))) w.heap.size (fun k_ => some k_ ≠ (.slice (some ad316) t290.length co44 : Value).ownBlock ∧ k_ ≠ gb302 ∧ k_ ≠ gb317) v296 t294) := ⟨by (with_reducible repeat (first | apply Kd.R_alloc | apply Kd.R_drewN | apply Kd.R_drew)); exact Kd.R_mono (Kd.R_far (p := ⟨gb317, 3, none⟩) (Kd.R_far (p := ⟨gb317, 2, none⟩) (Kd.R_far (p := ⟨gb317, 1, none⟩) (Kd.R_far (p := ⟨gb317, 0, none⟩) (Kd.R_mono HO_6.out (fun k_ hk => (⟨hk, hk.2⟩ : _ ∧ k_ ≠ gb317))) (fun _ hk => hk.2) (.int .i64 ((rd_T29 t290 x9_2).f0))) (fun _ hk => hk.2) (.string ((rd_T29 t290 x9_2).f1))) (fun _ hk => hk.2) (.int .i64 ((rd_T29 t290 x9_2).f2))) (fun _ hk => hk.2) (.int .i64 ((rd_T29 t290 x9_2).f3))) (fun _ hk => ⟨hk.1.1.1, ⟨hk.1.1.2, hk.1.2⟩⟩)⟩
                      have n2_ : Aside0 (((((w91.setCell ⟨gb317, 0, none⟩ (.int .i64 ((rd_T29 t290 x9_2).f0))).setCell ⟨gb317, 1, none⟩ (.string ((rd_T29 t290 x9_2).f1))).setCell ⟨gb317, 2, none⟩ (.int .i64 ((rd_T29 t290 x9_2).f2))).setCell ⟨gb317, 3, none⟩ (.int .i64 ((rd_T29 t290 x9_2).f3))).heap[gb302]? = some (.cells #[.int .i64 t298, .string t299, .int .i64 t300, .int .i64 t301] 29 (0, 0))) := ⟨by refine tf_ NB302_317.out ?_; refine tf_ NB302_317.out ?_; refine tf_ NB302_317.out ?_; refine tf_ NB302_317.out ?_; refine tn_ ?_; exact BK302.out⟩
                      have n3_ : Aside0 (((((w91.setCell ⟨gb317, 0, none⟩ (.int .i64 ((rd_T29 t290 x9_2).f0))).setCell ⟨gb317, 1, none⟩ (.string ((rd_T29 t290 x9_2).f1))).setCell ⟨gb317, 2, none⟩ (.int .i64 ((rd_T29 t290 x9_2).f2))).setCell ⟨gb317, 3, none⟩ (.int .i64 ((rd_T29 t290 x9_2).f3))).heap[gb317]? = some (.cells #[.int .i64 ((rd_T29 t290 x9_2).f0), .string ((rd_T29 t290 x9_2).f1), .int .i64 ((rd_T29 t290 x9_2).f2), .int .i64 ((rd_T29 t290 x9_2).f3)] 29 (0, 0))) := ⟨by refine tp_ #[.int .i64 ((rd_T29 t290 x9_2).f0), .string ((rd_T29 t290 x9_2).f1), .int .i64 ((rd_T29 t290 x9_2).f2), .int .i64 0] 3 ?_; refine tp_ #[.int .i64 ((rd_T29 t290 x9_2).f0), .string ((rd_T29 t290 x9_2).f1), .int .i64 0, .int .i64 0] 2 ?_; refine tp_ #[.int .i64 ((rd_T29 t290 x9_2).f0), .string (⟨#[]⟩ : ByteArray), .int .i64 0, .int .i64 0] 1 ?_; refine tp_ #[.int .i64 0, .string (⟨#[]⟩ : ByteArray), .int .i64 0, .int .i64 0] 0 ?_; refine tn_ ?_; exact BK317.out⟩
                      have n4_ : Aside0 (Below w.heap.size w ((((w91.setCell ⟨gb317, 0, none⟩ (.int .i64 ((rd_T29 t290 x9_2).f0))).setCell ⟨gb317, 1, none⟩ (.string ((rd_T29 t290 x9_2).f1))).setCell ⟨gb317, 2, none⟩ (.int .i64 ((rd_T29 t290 x9_2).f2))).setCell ⟨gb317, 3, none⟩ (.int .i64 ((rd_T29 t290 x9_2).f3)))) := ⟨tf6d_⟩
                      (try clear HO_4)
                      (try clear HO_6)
                      (try clear BK302)
                      (try clear BK317)
                      (try clear HB)
                      generalize ((((w91.setCell ⟨gb317, 0, none⟩ (.int .i64 ((rd_T29 t290 x9_2).f0))).setCell ⟨gb317, 1, none⟩ (.string ((rd_T29 t290 x9_2).f1))).setCell ⟨gb317, 2, none⟩ (.int .i64 ((rd_T29 t290 x9_2).f2))).setCell ⟨gb317, 3, none⟩ (.int .i64 ((rd_T29 t290 x9_2).f3))) = w94 at n0_ n1_ n2_ n3_ n4_ ⊢
                      have HO_4 := n0_
                      have HO_6 := n1_
                      have BK302 := n2_
                      have BK317 := n3_
                      have HB := n4_
                      clear n0_ n1_ n2_ n3_ n4_
                      have n0_ := Aside0.mk (Kd.R_drew HO_4.out)
                      have n1_ := Aside0.mk (Kd.R_drew HO_6.out)
                      have n2_ := Aside0.mk (blk_drew BK302.out)
                      have n3_ := Aside0.mk (blk_drew BK317.out)
                      have n4_ := Aside0.mk (below_drew1 HB.out)
                      clear HO_4
                      clear HO_6
                      clear BK302
                      clear BK317
                      clear HB
                      have HO_4 := n0_
                      have HO_6 := n1_
                      have BK302 := n2_
                      have BK317 := n3_
                      have HB := n4_
                      clear n0_ n1_ n2_ n3_ n4_
                      refine start_ (n := 28) (S := fun w' => w'.cell? ⟨gb317, 0, none⟩ = some (.int .i64 ((rd_T29 t290 x9_2).f0)) ∧ w'.cell? ⟨gb317, 1, none⟩ = some (.string ((rd_T29 t290 x9_2).f1)) ∧ w'.cell? ⟨gb317, 2, none⟩ = some (.int .i64 ((rd_T29 t290 x9_2).f2)) ∧ w'.cell? ⟨gb317, 3, none⟩ = some (.int .i64 ((rd_T29 t290 x9_2).f3))) (ds := []) (Array.replicate 28 false) (by kernel_rfl) rfl rfl ⟨(blk_cell BK317.out 0).trans rfl, (blk_cell BK317.out 1).trans rfl, (blk_cell BK317.out 2).trans rfl, (blk_cell BK317.out 3).trans rfl⟩ (fun hHeld => ?_); refine with_tabW laws_FnTokens.tab19 laws_FnTokens.bits19 (fun HT_ HW_ => ?_)
                      generalize w94.drew = w95 at HO_4 HO_6 BK302 BK317 HB hHeld ⊢
                      refine pv_ 0 (some 96) (bm 28 1) ?_
                      refine tv_ 1 (some 97) (bm 28 3) hHeld ?_
                      refine pv_ 2 (some 98) (bm 28 7) ?_
                      refine pv_ 3 (some 99) (bm 28 15) ?_
                      refine pv_ 4 (some 100) (bm 28 31) ?_
                      refine tv_ 5 (some 101) (bm 28 63) hHeld ?_
                      refine pv_ 6 (some 102) (bm 28 127) ?_
                      refine pv_ 7 (some 103) (bm 28 255) ?_
                      refine pv_ 8 (some 104) (bm 28 511) ?_
                      refine pv_ 9 (some 105) (bm 28 1023) ?_
                      refine tv_ 10 (some 106) (bm 28 2047) hHeld ?_
                      refine pv_ 11 (some 107) (bm 28 4095) ?_
                      refine pv_ 12 (some 108) (bm 28 8191) ?_
                      refine pv_ 13 (some 109) (bm 28 16383) ?_
                      refine pv_ 14 (some 110) (bm 28 32767) ?_
                      refine pv_ 15 (some 111) (bm 28 65535) ?_
                      refine pv_ 17 (some 113) (bm 28 196607) ?_
                      refine pv_ 19 (some 115) (bm 28 720895) ?_
                      refine pv_ 24 (some 120) (bm 28 17498111) ?_
                      refine tv_ 16 (some 112) (bm 28 17563647) hHeld ?_
                      refine tv_ 18 (some 114) (bm 28 17825791) hHeld ?_
                      refine tv_ 20 (some 116) (bm 28 18874367) hHeld ?_
                      refine pv_ 21 (some 117) (bm 28 20971519) ?_
                      refine pv_ 22 (some 118) (bm 28 25165823) ?_
                      refine pv_ 23 (some 119) (bm 28 33554431) ?_
                      refine tv_ 25 (some 121) (bm 28 67108863) hHeld ?_
                      refine pv_ 26 (some 122) (bm 28 134217727) ?_
                      refine pv_ 27 (some 123) (bm 28 268435455) ?_
                      refine done_ (done_of HT_.out (by kernel_rfl)) ?_
                      try go_wp2
                      go_ret
                      exact ⟨by first | rfl | (simp [errW_none, errW_some] <;> rfl) | (simp [*, errW_none, errW_some] <;> rfl), tf6d_⟩
                    ·
                     rw [if_neg c84] at H
                     exact absurd H (by simp)
                   ·
                    rw [if_neg c83] at H
                    exact absurd H (by simp)
                  ·
                   rw [if_neg c82] at H
                   exact absurd H (by simp)
              ·
               rw [if_neg c63] at H
               exact absurd H (by simp)
             ·
              rw [if_neg c62] at H
              exact absurd H (by simp)
         ·
          rw [if_neg c42] at H
          have c42b0 : decide (x9_2 < (t290.length : Int)) = false := decide_eq_false c42
          clear c42
          by_cases c96 : t289.size + 1 ≤ 9223372036854775807
          ·
           rw [if_pos c96] at H
           have c96b0 := eq_true c96
           have c96b1 : decide (t289.size + 1 ≤ 9223372036854775807) = true := decide_eq_true c96
           try have c96b2 : (9223372036854775807 < t289.size + 1) = False := eq_false (Nat.not_lt.2 c96)
           replace H := Option.bind_eq_some_iff.mp H
           obtain ⟨⟨t305, t306⟩, A970, H⟩ := H
           replace H : (if 0 ≤ (wrap64 ((t290.length : Int) - 1)) then (if (wrap64 ((t290.length : Int) - 1)) < (t290.length : Int) then (if ((rd_T29 t290 (wrap64 ((t290.length : Int) - 1))).f0) = 0 then (if (t289.size : Int) ≥ 800 then (some true) else (if t306 = (-1) then (some ((t305.length : Int) == (t290.length : Int))) else (some false))) else (some false)) else (none)) else (none)) = some r := H
           have A97 := Aside0.mk A970
           clear A970
           obtain ⟨ji98, hji98⟩ : ∃ j_ : Int, (wrap64 ((t290.length : Int) - 1)) = j_ := ⟨_, rfl⟩
           replace H : (if 0 ≤ (ji98) then (if (ji98) < (t290.length : Int) then (if ((rd_T29 t290 (ji98)).f0) = 0 then (if (t289.size : Int) ≥ 800 then (some true) else (if t306 = (-1) then (some ((t305.length : Int) == (t290.length : Int))) else (some false))) else (some false)) else (none)) else (none)) = some r := by first | (rw [hji98] at H; exact H) | (simp only [hji98] at H ⊢; exact H)
           (try rw [hji98] at A97)
           have hji98w : (IntKind.i64.wrap ((t290.length : Int) - 1)) = ji98 := (i64_w _).trans hji98
           by_cases c99 : 0 ≤ (ji98)
           ·
            rw [if_pos c99] at H
            have c99b0 : decide (0 ≤ (ji98)) = true := decide_eq_true c99
            clear c99
            by_cases c100 : (ji98) < (t290.length : Int)
            ·
             rw [if_pos c100] at H
             have c100b0 : decide ((ji98) < (t290.length : Int)) = true := decide_eq_true c100
             clear c100
             by_cases c101 : ((rd_T29 t290 (ji98)).f0) = 0
             ·
              rw [if_pos c101] at H
              have c101b0 : (((rd_T29 t290 (ji98)).f0) == 0) = true := beq_iff_eq.mpr c101
              have c101b1 : (((rd_T29 t290 (ji98)).f0) != 0) = false := bne_eq_false_iff_eq.mpr c101
              clear c101
              by_cases c102 : (t289.size : Int) ≥ 800
              ·
               rw [if_pos c102] at H
               have c102b0 : decide (800 ≤ (t289.size : Int)) = true := decide_eq_true c102
               have c102b1 : decide (800 ≤ t289.size) = true := decide_eq_true (by omega)
               clear c102
               obtain rfl := Option.some.inj H
               obtain ⟨Ao103, co103, eo103⟩ := Kd.R_slice HO_4.out
               subst eo103
               go_wp2_with (first | ((with_reducible refine gate_callee (f := 6) rfl ?_); refine gl_ (some 127) Tryd.func6 #[.string (t289 ++ (⟨#[32]⟩ : ByteArray))] ?_; (with_reducible refine (impl_Tokens.calls k2 (t289 ++ (⟨#[32]⟩ : ByteArray)) t305 t306 _ ?sideT A97.out).mono ?_); (case sideT => exact tabBelow HT.out (tf6d_)); rintro e w104 ⟨v307, rfl, ho0, hb⟩; refine ⟨_, rfl, ?_⟩; have n0_ := Aside0.mk (Kd.R_elder' (tkR_ HO_4.out) (Kd.R_base ho0) hb); have n1_ := Aside0.mk (Kd.R_elder' (tkR_ HO_6.out) (Kd.R_base ho0) hb); have n2_ := Aside0.mk (Kd.R_lower (Kd.R_newB (Kd.R_new' (Kd.R_new' ho0 (Kd.R_lt (tkR_ HO_4.out))) (Kd.R_lt (tkR_ HO_6.out))) (g := gb302) (o := .cells #[.int .i64 t298, .string t299, .int .i64 t300, .int .i64 t301] 29 (0, 0)) (tn_ BK302.out)) (below_size (tf6d_))); have n3_ := Aside0.mk (blk_below (g := gb302) (o := .cells #[.int .i64 t298, .string t299, .int .i64 t300, .int .i64 t301] 29 (0, 0)) (tn_ BK302.out) hb); have n4_ := Aside0.mk (below_step (tf6d_) hb); clear HO_4; clear HO_6; clear BK302; clear HB; have HO_4 := n0_; have HO_6 := n1_; have HO308 := n2_; have BK302 := n3_; have HB := n4_; clear n0_ n1_ n2_ n3_ n4_; (try clear hb); (try clear hb2); (try clear hk); (try clear hi); (try clear ho0); have p309 : 0 ≤ ((ji98) : Int) := of_decide_eq_true (by first | (with_reducible assumption) | assumption); have q309 : (ji98) < (t290.length : Int) := of_decide_eq_true (by first | (with_reducible assumption) | assumption); obtain ⟨ad309, e309, hx309_0, hx309_1, hx309_2, hx309_3⟩ := at_T29 (Kd.R_reads' HO_4.out).2.2 (ji98) p309 q309; cases e309; replace p309 := eq_true p309; replace q309 := eq_true q309))
               go_ret
               exact ⟨by first | rfl | (simp [errW_none, errW_some] <;> rfl) | (simp only [← hji98]; first | rfl | (simp [errW_none, errW_some] <;> rfl)) | (simp [*, errW_none, errW_some] <;> rfl), tf6d_⟩
              ·
               rw [if_neg c102] at H
               have c102b0 : decide (800 ≤ (t289.size : Int)) = false := decide_eq_false c102
               have c102b1 : decide (800 ≤ t289.size) = false := decide_eq_false (by omega)
               clear c102
               by_cases c105 : t306 = (-1)
               ·
                rw [if_pos c105] at H
                have c105b0 : (t306 == (-1)) = true := beq_iff_eq.mpr c105
                have c105b1 : (t306 != (-1)) = false := bne_eq_false_iff_eq.mpr c105
                clear c105
                obtain rfl := Option.some.inj H
                obtain ⟨Ao106, co106, eo106⟩ := Kd.R_slice HO_4.out
                subst eo106
                go_wp2_with (first | ((with_reducible refine gate_callee (f := 6) rfl ?_); refine gl_ (some 127) Tryd.func6 #[.string (t289 ++ (⟨#[32]⟩ : ByteArray))] ?_; (with_reducible refine (impl_Tokens.calls k2 (t289 ++ (⟨#[32]⟩ : ByteArray)) t305 t306 _ ?sideT A97.out).mono ?_); (case sideT => exact tabBelow HT.out (tf6d_)); rintro e w107 ⟨v307, rfl, ho0, hb⟩; refine ⟨_, rfl, ?_⟩; have n0_ := Aside0.mk (Kd.R_elder' (tkR_ HO_4.out) (Kd.R_base ho0) hb); have n1_ := Aside0.mk (Kd.R_elder' (tkR_ HO_6.out) (Kd.R_base ho0) hb); have n2_ := Aside0.mk (Kd.R_lower (Kd.R_newB (Kd.R_new' (Kd.R_new' ho0 (Kd.R_lt (tkR_ HO_4.out))) (Kd.R_lt (tkR_ HO_6.out))) (g := gb302) (o := .cells #[.int .i64 t298, .string t299, .int .i64 t300, .int .i64 t301] 29 (0, 0)) (tn_ BK302.out)) (below_size (tf6d_))); have n3_ := Aside0.mk (blk_below (g := gb302) (o := .cells #[.int .i64 t298, .string t299, .int .i64 t300, .int .i64 t301] 29 (0, 0)) (tn_ BK302.out) hb); have n4_ := Aside0.mk (below_step (tf6d_) hb); clear HO_4; clear HO_6; clear BK302; clear HB; have HO_4 := n0_; have HO_6 := n1_; have HO308 := n2_; have BK302 := n3_; have HB := n4_; clear n0_ n1_ n2_ n3_ n4_; (try clear hb); (try clear hb2); (try clear hk); (try clear hi); (try clear ho0); have p309 : 0 ≤ ((ji98) : Int) := of_decide_eq_true (by first | (with_reducible assumption) | assumption); have q309 : (ji98) < (t290.length : Int) := of_decide_eq_true (by first | (with_reducible assumption) | assumption); obtain ⟨ad309, e309, hx309_0, hx309_1, hx309_2, hx309_3⟩ := at_T29 (Kd.R_reads' HO_4.out).2.2 (ji98) p309 q309; cases e309; replace p309 := eq_true p309; replace q309 := eq_true q309; obtain ⟨Ao108, co108, eo108⟩ := Kd.R_slice HO308.out; subst eo108))
                go_ret
                exact ⟨by first | rfl | (simp [errW_none, errW_some] <;> rfl) | (simp only [← hji98]; first | rfl | (simp [errW_none, errW_some] <;> rfl)) | (simp [*, errW_none, errW_some] <;> rfl), tf6d_⟩
               ·
                rw [if_neg c105] at H
                have c105b0 : (t306 == (-1)) = false := beq_eq_false_iff_ne.mpr c105
                have c105b1 : (t306 != (-1)) = true := bne_iff_ne.mpr c105
                obtain rfl := Option.some.inj H
                obtain ⟨Ao109, co109, eo109⟩ := Kd.R_slice HO_4.out
                subst eo109
                go_wp2_with (first | ((with_reducible refine gate_callee (f := 6) rfl ?_); refine gl_ (some 127) Tryd.func6 #[.string (t289 ++ (⟨#[32]⟩ : ByteArray))] ?_; (with_reducible refine (impl_Tokens.calls k2 (t289 ++ (⟨#[32]⟩ : ByteArray)) t305 t306 _ ?sideT A97.out).mono ?_); (case sideT => exact tabBelow HT.out (tf6d_)); rintro e w110 ⟨v307, rfl, ho0, hb⟩; refine ⟨_, rfl, ?_⟩; have n0_ := Aside0.mk (Kd.R_elder' (tkR_ HO_4.out) (Kd.R_base ho0) hb); have n1_ := Aside0.mk (Kd.R_elder' (tkR_ HO_6.out) (Kd.R_base ho0) hb); have n2_ := Aside0.mk (Kd.R_lower (Kd.R_newB (Kd.R_new' (Kd.R_new' ho0 (Kd.R_lt (tkR_ HO_4.out))) (Kd.R_lt (tkR_ HO_6.out))) (g := gb302) (o := .cells #[.int .i64 t298, .string t299, .int .i64 t300, .int .i64 t301] 29 (0, 0)) (tn_ BK302.out)) (below_size (tf6d_))); have n3_ := Aside0.mk (blk_below (g := gb302) (o := .cells #[.int .i64 t298, .string t299, .int .i64 t300, .int .i64 t301] 29 (0, 0)) (tn_ BK302.out) hb); have n4_ := Aside0.mk (below_step (tf6d_) hb); clear HO_4; clear HO_6; clear BK302; clear HB; have HO_4 := n0_; have HO_6 := n1_; have HO308 := n2_; have BK302 := n3_; have HB := n4_; clear n0_ n1_ n2_ n3_ n4_; (try clear hb); (try clear hb2); (try clear hk); (try clear hi); (try clear ho0); have p309 : 0 ≤ ((ji98) : Int) := of_decide_eq_true (by first | (with_reducible assumption) | assumption); have q309 : (ji98) < (t290.length : Int) := of_decide_eq_true (by first | (with_reducible assumption) | assumption); obtain ⟨ad309, e309, hx309_0, hx309_1, hx309_2, hx309_3⟩ := at_T29 (Kd.R_reads' HO_4.out).2.2 (ji98) p309 q309; cases e309; replace p309 := eq_true p309; replace q309 := eq_true q309))
                go_ret
                exact ⟨by first | rfl | (simp [errW_none, errW_some] <;> rfl) | (simp only [← hji98]; first | rfl | (simp [errW_none, errW_some] <;> rfl)) | (simp [*, errW_none, errW_some] <;> rfl), tf6d_⟩
             ·
              rw [if_neg c101] at H
              have c101b0 : (((rd_T29 t290 (ji98)).f0) == 0) = false := beq_eq_false_iff_ne.mpr c101
              have c101b1 : (((rd_T29 t290 (ji98)).f0) != 0) = true := bne_iff_ne.mpr c101
              obtain rfl := Option.some.inj H
              obtain ⟨Ao111, co111, eo111⟩ := Kd.R_slice HO_4.out
              subst eo111
              go_wp2_with (first | ((with_reducible refine gate_callee (f := 6) rfl ?_); refine gl_ (some 127) Tryd.func6 #[.string (t289 ++ (⟨#[32]⟩ : ByteArray))] ?_; (with_reducible refine (impl_Tokens.calls k2 (t289 ++ (⟨#[32]⟩ : ByteArray)) t305 t306 _ ?sideT A97.out).mono ?_); (case sideT => exact tabBelow HT.out (tf6d_)); rintro e w112 ⟨v307, rfl, ho0, hb⟩; refine ⟨_, rfl, ?_⟩; have n0_ := Aside0.mk (Kd.R_elder' (tkR_ HO_4.out) (Kd.R_base ho0) hb); have n1_ := Aside0.mk (Kd.R_elder' (tkR_ HO_6.out) (Kd.R_base ho0) hb); have n2_ := Aside0.mk (Kd.R_lower (Kd.R_newB (Kd.R_new' (Kd.R_new' ho0 (Kd.R_lt (tkR_ HO_4.out))) (Kd.R_lt (tkR_ HO_6.out))) (g := gb302) (o := .cells #[.int .i64 t298, .string t299, .int .i64 t300, .int .i64 t301] 29 (0, 0)) (tn_ BK302.out)) (below_size (tf6d_))); have n3_ := Aside0.mk (blk_below (g := gb302) (o := .cells #[.int .i64 t298, .string t299, .int .i64 t300, .int .i64 t301] 29 (0, 0)) (tn_ BK302.out) hb); have n4_ := Aside0.mk (below_step (tf6d_) hb); clear HO_4; clear HO_6; clear BK302; clear HB; have HO_4 := n0_; have HO_6 := n1_; have HO308 := n2_; have BK302 := n3_; have HB := n4_; clear n0_ n1_ n2_ n3_ n4_; (try clear hb); (try clear hb2); (try clear hk); (try clear hi); (try clear ho0); have p309 : 0 ≤ ((ji98) : Int) := of_decide_eq_true (by first | (with_reducible assumption) | assumption); have q309 : (ji98) < (t290.length : Int) := of_decide_eq_true (by first | (with_reducible assumption) | assumption); obtain ⟨ad309, e309, hx309_0, hx309_1, hx309_2, hx309_3⟩ := at_T29 (Kd.R_reads' HO_4.out).2.2 (ji98) p309 q309; cases e309; replace p309 := eq_true p309; replace q309 := eq_true q309))
              go_ret
              exact ⟨by first | rfl | (simp [errW_none, errW_some] <;> rfl) | (simp only [← hji98]; first | rfl | (simp [errW_none, errW_some] <;> rfl)) | (simp [*, errW_none, errW_some] <;> rfl), tf6d_⟩
            ·
             rw [if_neg c100] at H
             exact absurd H (by simp)
           ·
            rw [if_neg c99] at H
            exact absurd H (by simp)
          ·
           rw [if_neg c96] at H
           exact absurd H (by simp)

/-- THE ONE PURE STATEMENT of laws_FnTokens: yours. -/
def laws_FnTokens.Pure : Prop := ∀ (l0 : List Int), l0.length ≤ maxLen → l0.length * 1 ≤ 140737488351232 → (∀ x ∈ l0, (Lit.int .u8 x).wf = true) → ∃ k, laws_FnTokens.f k l0 = some true
end Go.Proofs.YtjlkkappngnbjaaDoor.XFnTokens
