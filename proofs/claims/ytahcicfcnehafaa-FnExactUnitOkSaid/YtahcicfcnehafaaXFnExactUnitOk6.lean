-- Written by xp.py of this workplace out of Lean's own print of the translation. Not trusted: Lean checks it.
import Derived.Test.YtahcicfcnehafaaXFnExactUnitOk0
import Derived.Test.YtahcicfcnehafaaXFnExactUnitOk4
import Derived.Test.YtahcicfcnehafaaXFnExactUnitOk5
namespace Go.Proofs.Ytahcicfcnehafaa.XFnExactUnitOk
open Go.RowKit Go.Proofs.YtahcicfcnehafaaW.PrintWords Go.Proofs.YtahcicfcnehafaaW.PrintLast Go.Proofs.YtahcicfcnehafaaW.PrintMore
attribute [local go_sem] max2_int min2_int max_two min_two max_three min_three max_four min_four   -- for this text's walks alone
set_option linter.unusedVariables false
set_option linter.unusedSimpArgs false

-- NOT PRINTED: function 50 (impl_UnitOk_2)

/-! ### slices_IndexFunc_string_string_f48: function 86 -/
def slices_IndexFunc_string_string_f48.l0 : Nat → List ByteArray → Int → Int → Option (Int)
 | 0, _, _, _ => none
 | k + 1, x0, x7, x8 => if x8 < x7 then (if 0 ≤ x8 then (if x8 < (x0.length : Int) then ((impl_UnitOk_1.f (rdOf ByteArray.empty x0 x8)).bind fun t191 => (if t191 = true then (some x8) else (slices_IndexFunc_string_string_f48.l0 k x0 x7 (wrap64 (x8 + 1))))) else (none)) else (none)) else (some (-1))
def slices_IndexFunc_string_string_f48.f (k : Nat) (l0 : List ByteArray) (a1 : Unit) : Option (Int) := slices_IndexFunc_string_string_f48.l0 k l0 (l0.length : Int) 0
theorem slices_IndexFunc_string_string_f48.mono_l : ∀ k, (∀ y0 y1 y2, LeO (slices_IndexFunc_string_string_f48.l0 k y0 y1 y2) (slices_IndexFunc_string_string_f48.l0 (k + 1) y0 y1 y2))
 | 0 => fun _ _ _ r h => by simp [slices_IndexFunc_string_string_f48.l0] at h
 | k + 1 => by
  have ih0 := slices_IndexFunc_string_string_f48.mono_l k
  ·
   intro y0 y1 y2
   unfold slices_IndexFunc_string_string_f48.l0
   repeat' first
   | (with_reducible exact ih0 _ _ _)
   | (with_reducible exact LeO.refl _)
   | (with_reducible exact LeO.none _)
   | (with_reducible refine LeO.ite ?_ ?_)
   | (with_reducible refine LeO.bind ?_ (fun _ => ?_))
   | exact ih0 _ _ _
   | exact LeO.none _
   | refine LeO.ite ?_ ?_
   | refine LeO.bind ?_ (fun _ => ?_)
theorem slices_IndexFunc_string_string_f48.mono : ∀ a0 a1 k, LeO (slices_IndexFunc_string_string_f48.f k a0 a1) (slices_IndexFunc_string_string_f48.f (k + 1) a0 a1) := by
 intro a0 a1 k
 have ih0 := slices_IndexFunc_string_string_f48.mono_l k
 unfold slices_IndexFunc_string_string_f48.f
 repeat' first
   | (with_reducible exact ih0 _ _ _)
   | (with_reducible exact LeO.refl _)
   | (with_reducible exact LeO.none _)
   | (with_reducible refine LeO.ite ?_ ?_)
   | (with_reducible refine LeO.bind ?_ (fun _ => ?_))
   | exact ih0 _ _ _
   | exact LeO.none _
   | refine LeO.ite ?_ ?_
   | refine LeO.bind ?_ (fun _ => ?_)
set_option maxHeartbeats 8000000 in
set_option maxRecDepth 100000 in
theorem slices_IndexFunc_string_string_f48.calls (k : Nat) (A0 : Option Addr) (c0 : Nat) (l0 : List ByteArray) (a1 : Unit) (r : Int) (w : World) (hr0 : Kd.C Kd.string w A0 l0.length l0) (hc0 : l0.length ≤ c0) (h : slices_IndexFunc_string_string_f48.f k l0 a1 = some r) :
  Calls Try.prog 86 #[.slice A0 l0.length c0, .func (.func 48) #[] #[]] w fun e w' => e = .returned (.int .i64 r) ∧ Drawn0 w w' := by
 have HR0 := Aside0.mk hr0
 have HC0 := Aside0.mk hc0
 clear hr0 hc0
 have H : (slices_IndexFunc_string_string_f48.l0 k l0 (l0.length : Int) 0) = some r := h
 clear h
 have H' := Aside0.mk H
 clear H
 go_enter Try.func86, Try.ntmps86
 go_wp2
 go_loopg [8] k (fun kq v8 w' => ∃ (x8_1 : Int), v8 = .int .i64 x8_1 ∧ Aside0 (slices_IndexFunc_string_string_f48.l0 kq l0 (l0.length : Int) x8_1 = some r) ∧ Aside0 (kq ≤ k) ∧ Drawn0 w w')
 case atStart => exact ⟨(0), (by first | rfl | (simp; done) | (simp [*]; done)), H', ⟨Nat.le_refl _⟩, by repeat (first | exact Drawn0.refl _ | apply Drawn0.step)⟩
 case round =>
  clear H'
  try clear p2
  obtain ⟨x8_1, rfl, HA, HK1, ⟨m1, rfl⟩⟩ := hrel
  cases gk with
  | zero => exact absurd HA.out (by simp [slices_IndexFunc_string_string_f48.l0])
  | succ k1 =>
   have H := HA.out
   clear HA
   simp only [slices_IndexFunc_string_string_f48.l0] at H
   by_cases c3 : x8_1 < (l0.length : Int)
   ·
    rw [if_pos c3] at H
    have c3b0 : decide (x8_1 < (l0.length : Int)) = true := decide_eq_true c3
    clear c3
    by_cases c4 : 0 ≤ x8_1
    ·
     rw [if_pos c4] at H
     have c4b0 : decide (0 ≤ x8_1) = true := decide_eq_true c4
     clear c4
     by_cases c5 : x8_1 < (l0.length : Int)
     ·
      rw [if_pos c5] at H
      have c5b0 : decide (x8_1 < (l0.length : Int)) = true := decide_eq_true c5
      clear c5
      replace H := Option.bind_eq_some_iff.mp H
      obtain ⟨t191, A60, H⟩ := H
      have A6 := Aside0.mk A60
      clear A60
      by_cases c7 : t191 = true
      ·
       subst c7
       have H1 : (some x8_1) = some r := by rw [if_pos rfl] at H; exact H
       clear H
       have H := H1
       clear H1
       obtain rfl := Option.some.inj H
       have p190 : 0 ≤ (x8_1 : Int) := of_decide_eq_true (by first | (with_reducible assumption) | assumption)
       have q190 : x8_1 < (l0.length : Int) := of_decide_eq_true (by first | (with_reducible assumption) | assumption)
       obtain ⟨ad190, e190, hx190_0⟩ := Kd.at_string HR0.out x8_1 p190 q190
       cases e190
       replace p190 := eq_true p190
       replace q190 := eq_true q190
       go_wp2_with (first | (go_at_call 48; (with_reducible refine (impl_UnitOk_1.calls (rdOf ByteArray.empty l0 x8_1) true _ A6.out).mono ?_); rintro e w' ⟨rfl, ⟨nd, rfl⟩⟩) | ((with_reducible refine gate_callee (f := 48) rfl ?_); refine goesL_ (some 16) rfl rfl Try.func48 (by kernel_rfl) rfl #[.string (rdOf ByteArray.empty l0 x8_1)] rfl (by (try simp only [List.map_toArray, List.map_cons, List.map_nil]); first | done | rfl | (simp only [List.length_drop, List.length_take]; rfl)) ?_; (with_reducible refine (impl_UnitOk_1.calls (rdOf ByteArray.empty l0 x8_1) true _ A6.out).mono ?_); rintro e w' ⟨rfl, ⟨nd, rfl⟩⟩; refine ⟨_, rfl, ?_⟩))
       go_ret
       exact ⟨by first | rfl | (simp; done) | (simp [*]; done), by repeat (first | exact Drawn0.refl _ | apply Drawn0.step)⟩
      ·
       replace c7 := Bool.eq_false_iff.mpr c7
       subst c7
       rw [if_neg (show ¬ (false = true) by decide)] at H
       have H1 := H
       clear H
       have H := H1
       clear H1
       have H' := Aside0.mk H
       clear H
       have p190 : 0 ≤ (x8_1 : Int) := of_decide_eq_true (by first | (with_reducible assumption) | assumption)
       have q190 : x8_1 < (l0.length : Int) := of_decide_eq_true (by first | (with_reducible assumption) | assumption)
       obtain ⟨ad190, e190, hx190_0⟩ := Kd.at_string HR0.out x8_1 p190 q190
       cases e190
       replace p190 := eq_true p190
       replace q190 := eq_true q190
       go_wp2_with (first | (go_at_call 48; (with_reducible refine (impl_UnitOk_1.calls (rdOf ByteArray.empty l0 x8_1) false _ A6.out).mono ?_); rintro e w' ⟨rfl, ⟨nd, rfl⟩⟩) | ((with_reducible refine gate_callee (f := 48) rfl ?_); refine goesL_ (some 16) rfl rfl Try.func48 (by kernel_rfl) rfl #[.string (rdOf ByteArray.empty l0 x8_1)] rfl (by (try simp only [List.map_toArray, List.map_cons, List.map_nil]); first | done | rfl | (simp only [List.length_drop, List.length_take]; rfl)) ?_; (with_reducible refine (impl_UnitOk_1.calls (rdOf ByteArray.empty l0 x8_1) false _ A6.out).mono ?_); rintro e w' ⟨rfl, ⟨nd, rfl⟩⟩; refine ⟨_, rfl, ?_⟩))
       go_roundg k1
       case measure => have := HK1.out; omega
       case rel => exact ⟨(wrap64 (x8_1 + 1)), (by first | rfl | (simp; done) | (simp [*]; done)), H', ⟨by have := HK1.out; omega⟩, by repeat (first | exact Drawn0.refl _ | apply Drawn0.step)⟩
     ·
      rw [if_neg c5] at H
      exact absurd H (by simp)
    ·
     rw [if_neg c4] at H
     exact absurd H (by simp)
   ·
    rw [if_neg c3] at H
    have c3b0 : decide (x8_1 < (l0.length : Int)) = false := decide_eq_false c3
    clear c3
    obtain rfl := Option.some.inj H
    go_wp2
    go_ret
    exact ⟨by first | rfl | (simp; done) | (simp [*]; done), by repeat (first | exact Drawn0.refl _ | apply Drawn0.step)⟩

/-! ### slices_ContainsFunc_string_string_f48: function 47 -/
def slices_ContainsFunc_string_string_f48.f (k : Nat) (l0 : List ByteArray) (a1 : Unit) : Option (Bool) := (slices_IndexFunc_string_string_f48.f k l0 a1).bind fun t192 => (some (decide (t192 ≥ 0)))
theorem slices_ContainsFunc_string_string_f48.mono : ∀ a0 a1 k, LeO (slices_ContainsFunc_string_string_f48.f k a0 a1) (slices_ContainsFunc_string_string_f48.f (k + 1) a0 a1) := by
 intro a0 a1 k
 unfold slices_ContainsFunc_string_string_f48.f
 repeat' first
   | (with_reducible exact slices_IndexFunc_string_string_f48.mono _ _ _)
   | (with_reducible exact LeO.refl _)
   | (with_reducible exact LeO.none _)
   | (with_reducible refine LeO.ite ?_ ?_)
   | (with_reducible refine LeO.bind ?_ (fun _ => ?_))
   | exact slices_IndexFunc_string_string_f48.mono _ _ _
   | exact LeO.none _
   | refine LeO.ite ?_ ?_
   | refine LeO.bind ?_ (fun _ => ?_)
set_option maxHeartbeats 8000000 in
set_option maxRecDepth 100000 in
theorem slices_ContainsFunc_string_string_f48.calls (k : Nat) (A0 : Option Addr) (c0 : Nat) (l0 : List ByteArray) (a1 : Unit) (r : Bool) (w : World) (hr0 : Kd.C Kd.string w A0 l0.length l0) (hc0 : l0.length ≤ c0) (h : slices_ContainsFunc_string_string_f48.f k l0 a1 = some r) :
  Calls Try.prog 47 #[.slice A0 l0.length c0, .func (.func 48) #[] #[]] w fun e w' => e = .returned (.bool r) ∧ Drawn0 w w' := by
 have HR0 := Aside0.mk hr0
 have HC0 := Aside0.mk hc0
 clear hr0 hc0
 have H : ((slices_IndexFunc_string_string_f48.f k l0 a1).bind fun t192 => (some (decide (t192 ≥ 0)))) = some r := h
 clear h
 replace H := Option.bind_eq_some_iff.mp H
 obtain ⟨t192, A30, H⟩ := H
 replace H : (some (decide (t192 ≥ 0))) = some r := H
 have A3 := Aside0.mk A30
 clear A30
 obtain rfl := Option.some.inj H
 go_enter Try.func47, Try.ntmps47
 go_wp2_with (first | (go_at_call 86; (with_reducible refine (slices_IndexFunc_string_string_f48.calls k _ _ l0 a1 t192 _ ?side1 ?side2 A3.out).mono ?_); (case side1 => repeat (first | exact HR0.out | (with_reducible refine Kd.C_alloc ?_ _) | (with_reducible refine Kd.C_drewN ?_ _) | (with_reducible refine Kd.C_drew ?_))); (case side2 => exact HC0.out); rintro e w' ⟨rfl, ⟨nd, rfl⟩⟩) | ((with_reducible refine gate_callee (f := 86) rfl ?_); refine goesL_ (some 7) rfl rfl Try.func86 (by kernel_rfl) rfl #[.slice A0 l0.length c0, .func (.func 48) #[] #[]] rfl (by (try simp only [List.map_toArray, List.map_cons, List.map_nil]); first | done | rfl | (simp only [List.length_drop, List.length_take]; rfl)) ?_; (with_reducible refine (slices_IndexFunc_string_string_f48.calls k _ _ l0 a1 t192 _ ?side1 ?side2 A3.out).mono ?_); (case side1 => repeat (first | exact HR0.out | (with_reducible refine Kd.C_alloc ?_ _) | (with_reducible refine Kd.C_drewN ?_ _) | (with_reducible refine Kd.C_drew ?_))); (case side2 => exact HC0.out); rintro e w' ⟨rfl, ⟨nd, rfl⟩⟩; refine ⟨_, rfl, ?_⟩))
 go_ret
 exact ⟨by first | rfl | (simp; done) | (simp [*]; done), by repeat (first | exact Drawn0.refl _ | apply Drawn0.step)⟩

-- NOT PRINTED: function 87 (impl_Step_87_f50)

/-! ### impl_Step_49_f50: function 49, by hand -/
abbrev impl_Step_49_f50.X := List (S76) × List ByteArray × Int × Int × List (S78)
def impl_Step_49_f50.g (k : Nat) (x : impl_Step_49_f50.X) (s : S78) : Option Bool := (impl_partsOk.f k x.1 x.2.1 x.2.2.1 x.2.2.2.1 x.2.2.2.2 s.f0 s.f1 s.f2).bind fun t => some (!t)
def impl_Step_49_f50.l0 : Nat → List (S78) → impl_Step_49_f50.X → Int → Option Int
 | 0, _, _, _ => none
 | k + 1, x0, x, x8 => if x8 < (x0.length : Int) then (if 0 ≤ x8 then ((impl_Step_49_f50.g k x (rd_T78 x0 x8)).bind fun t => (if t = true then (some x8) else (impl_Step_49_f50.l0 k x0 x (wrap64 (x8 + 1))))) else (none)) else (some (-1))
def impl_Step_49_f50.f (k : Nat) (l0 : List (S78)) (x : impl_Step_49_f50.X) : Option (Bool) := (impl_Step_49_f50.l0 k l0 x 0).bind fun t => (some (decide (t ≥ 0)))
theorem impl_Step_49_f50.mono_g (x : impl_Step_49_f50.X) (s : S78) (k : Nat) : LeO (impl_Step_49_f50.g k x s) (impl_Step_49_f50.g (k + 1) x s) := by
 unfold impl_Step_49_f50.g
 exact LeO.bind (impl_partsOk.mono _ _ _ _ _ _ _ _ _) (fun _ => LeO.refl _)
theorem impl_Step_49_f50.mono_l : ∀ k, (∀ y0 y1 y2, LeO (impl_Step_49_f50.l0 k y0 y1 y2) (impl_Step_49_f50.l0 (k + 1) y0 y1 y2))
 | 0 => fun _ _ _ r h => by simp [impl_Step_49_f50.l0] at h
 | k + 1 => by
  have ih0 := impl_Step_49_f50.mono_l k
  intro y0 y1 y2
  unfold impl_Step_49_f50.l0
  repeat' first
   | (with_reducible exact ih0 _ _ _)
   | (with_reducible exact impl_Step_49_f50.mono_g _ _ _)
   | (with_reducible exact LeO.refl _)
   | (with_reducible exact LeO.none _)
   | (with_reducible refine LeO.ite ?_ ?_)
   | (with_reducible refine LeO.bind ?_ (fun _ => ?_))
   | exact ih0 _ _ _
   | exact LeO.none _
   | refine LeO.ite ?_ ?_
   | refine LeO.bind ?_ (fun _ => ?_)
theorem impl_Step_49_f50.mono : ∀ a0 a1 k, LeO (impl_Step_49_f50.f k a0 a1) (impl_Step_49_f50.f (k + 1) a0 a1) := by
 intro a0 a1 k
 have ih0 := impl_Step_49_f50.mono_l k
 unfold impl_Step_49_f50.f
 exact LeO.bind (ih0 _ _ _) (fun _ => LeO.refl _)
def impl_Step_49_f50.Cx (w : World) (g0 g1 : Nat) (A0 A1 A2 : Option Addr) (c0 c1 c2 : Nat) (x : impl_Step_49_f50.X) : Prop :=
 w.heap[g0]? = some (.cells #[.slice A0 x.1.length c0, .slice A1 x.2.1.length c1] 30 (0, 0)) ∧ Kd.C k76 w A0 x.1.length x.1 ∧ x.1.length ≤ c0 ∧ Kd.C Kd.string w A1 x.2.1.length x.2.1 ∧ x.2.1.length ≤ c1 ∧
 w.heap[g1]? = some (.cells #[.int .i64 x.2.2.1, .int .i64 x.2.2.2.1, .slice A2 x.2.2.2.2.length c2] 76 (0, 0)) ∧ Kd.C k78 w A2 x.2.2.2.2.length x.2.2.2.2 ∧ x.2.2.2.2.length ≤ c2
theorem impl_Step_49_f50.Cx_below {w w1 : World} {g0 g1 : Nat} {A0 A1 A2 : Option Addr} {c0 c1 c2 : Nat} {x : impl_Step_49_f50.X} (h : impl_Step_49_f50.Cx w g0 g1 A0 A1 A2 c0 c1 c2 x) (hb : Below w.heap.size w w1) : impl_Step_49_f50.Cx w1 g0 g1 A0 A1 A2 c0 c1 c2 x := by
 obtain ⟨h1, h2, h3, h4, h5, h6, h7, h8⟩ := h
 exact ⟨blk_below h1 hb, Kd.C_below h2 hb, h3, Kd.C_below h4 hb, h5, blk_below h6 hb, Kd.C_below h7 hb, h8⟩
set_option maxHeartbeats 8000000 in
set_option maxRecDepth 100000 in
theorem impl_Step_49_f50.calls1 (k : Nat) (x : impl_Step_49_f50.X) (s : S78) (r : Bool) (w : World) {g0 g1 : Nat} {A0 A1 A2 : Option Addr} {c0 c1 c2 : Nat} (hx : impl_Step_49_f50.Cx w g0 g1 A0 A1 A2 c0 c1 c2 x) (h : impl_Step_49_f50.g k x s = some r) :
  Calls Try.prog 50 #[.agg #[.int .i64 s.f0, .int .i64 s.f1, .int .i64 s.f2], .pointer (some ⟨g0, 0, none⟩), .pointer (some ⟨g1, 0, none⟩)] w fun e w' => e = .returned (.bool r) ∧ Below w.heap.size w w' := by
 obtain ⟨l, tx, nm, vs, st⟩ := x
 obtain ⟨h1, h2, h3, h4, h5, h6, h7, h8⟩ := hx
 have B0 := Aside0.mk h1
 have B1 := Aside0.mk h6
 have R0 := Aside0.mk h2
 have R1 := Aside0.mk h4
 have R2 := Aside0.mk h7
 have C0 := Aside0.mk h3
 have C1 := Aside0.mk h5
 have C2 := Aside0.mk h8
 have HB := Aside0.mk (Below.refl w.heap.size w)
 replace h := Option.bind_eq_some_iff.mp h
 obtain ⟨t, A, H⟩ := h
 have AA := Aside0.mk A
 obtain rfl := Option.some.inj H
 have hu30 := Try.underlying30
 have hu76 := Try.underlying76
 have hu78 := Try.underlying78
 clear h1 h2 h3 h4 h5 h6 h7 h8 A H
 go_enter Try.func50, Try.ntmps50
 go_wp2_with (first | ((with_reducible refine gate_dst (N := 3) rfl ?_); (try (refine gate_guard (by rfl) ?_; dsimp only)); refine box_event ?hg (N := 3) ?hd (cs := #[.int .i64 s.f0, .int .i64 s.f1, .int .i64 s.f2]) (t := 78) ?hr ?_; (case hd => rfl); (case hg => rfl); (case hr => first | (go_simp; done) | (go_simp; rfl)); intro gb hg w1 hbox hb; have n0_ := Aside0.mk (below_step HB.out hb); clear HB; have HB := n0_; clear n0_; have y0 : w1.cell? ⟨gb, 0, none⟩ = some (.int .i64 s.f0) := (blk_cell hbox 0).trans rfl; have y1 : w1.cell? ⟨gb, 1, none⟩ = some (.int .i64 s.f1) := (blk_cell hbox 1).trans rfl; have y2 : w1.cell? ⟨gb, 2, none⟩ = some (.int .i64 s.f2) := (blk_cell hbox 2).trans rfl; have q0 := blk_below (g := g0) (o := .cells #[.slice A0 l.length c0, .slice A1 tx.length c1] 30 (0, 0)) B0.out HB.out; have q1 := blk_below (g := g1) (o := .cells #[.int .i64 nm, .int .i64 vs, .slice A2 st.length c2] 76 (0, 0)) B1.out HB.out; have z0 : w1.cell? ⟨g0, 0, none⟩ = some (.slice A0 l.length c0) := (blk_cell q0 0).trans rfl; have z1 : w1.cell? ⟨g0, 1, none⟩ = some (.slice A1 tx.length c1) := (blk_cell q0 1).trans rfl; have z2 : w1.cell? ⟨g1, 0, none⟩ = some (.int .i64 nm) := (blk_cell q1 0).trans rfl; have z3 : w1.cell? ⟨g1, 1, none⟩ = some (.int .i64 vs) := (blk_cell q1 1).trans rfl; have z4 : w1.cell? ⟨g1, 2, none⟩ = some (.slice A2 st.length c2) := (blk_cell q1 2).trans rfl; clear q0 q1 hb hbox hg) | ((with_reducible refine gate_callee (f := 51) rfl ?_); refine goesL_ (some 8) rfl rfl Try.func51 (by kernel_rfl) rfl #[.agg #[.slice A0 l.length c0, .slice A1 tx.length c1], .agg #[.int .i64 nm, .int .i64 vs, .slice A2 st.length c2], .agg #[.int .i64 s.f0, .int .i64 s.f1, .int .i64 s.f2]] rfl (by (try simp only [List.map_toArray, List.map_cons, List.map_nil]); first | done | rfl) ?_; (with_reducible refine (impl_partsOk.calls k _ _ l _ _ tx nm vs _ _ st s.f0 s.f1 s.f2 t _ ?side1 ?side2 ?side3 ?side4 ?side5 ?side6 AA.out).mono ?_); (case side1 => repeat (first | exact (Kd.C_below R0.out HB.out) | (with_reducible refine Kd.C_drewN ?_ _))); (case side2 => exact C0.out); (case side3 => repeat (first | exact (Kd.C_below R1.out HB.out) | (with_reducible refine Kd.C_drewN ?_ _))); (case side4 => exact C1.out); (case side5 => repeat (first | exact (Kd.C_below R2.out HB.out) | (with_reducible refine Kd.C_drewN ?_ _))); (case side6 => exact C2.out); rintro e w2 ⟨rfl, hb⟩; refine ⟨_, rfl, ?_⟩; have n0_ := Aside0.mk (below_step (by repeat (first | exact HB.out | apply pw_below_drewN | apply below_drew1)) hb); clear HB; have HB := n0_; clear n0_))
 go_ret
 exact ⟨by first | rfl | (simp; done) | (simp [*]; done), by repeat (first | exact HB.out | apply pw_below_drewN | apply below_drew1)⟩
set_option maxHeartbeats 8000000 in
set_option maxRecDepth 100000 in
theorem impl_Step_49_f50.calls2 (k : Nat) (A0 : Option Addr) (c0 : Nat) (l0 : List (S78)) (x : impl_Step_49_f50.X) (r : Int) (w : World) (hr0 : Kd.C k78 w A0 l0.length l0) (hc0 : l0.length ≤ c0) {g0 g1 : Nat} {B0 B1 B2 : Option Addr} {e0 e1 e2 : Nat} (hx : impl_Step_49_f50.Cx w g0 g1 B0 B1 B2 e0 e1 e2 x) (h : impl_Step_49_f50.l0 k l0 x 0 = some r) :
  Calls Try.prog 87 #[.slice A0 l0.length c0, .func (.func 50) #[] #[.pointer (some ⟨g0, 0, none⟩), .pointer (some ⟨g1, 0, none⟩)]] w fun e w' => e = .returned (.int .i64 r) ∧ Below w.heap.size w w' := by
 have HR0 := Aside0.mk hr0
 have HC0 := Aside0.mk hc0
 have HX := Aside0.mk hx
 have HB := Aside0.mk (Below.refl w.heap.size w)
 have H' := Aside0.mk h
 clear hr0 hc0 hx h
 go_enter Try.func87, Try.ntmps87
 go_wp2
 go_loopg [8] k (fun kq v8 w' => ∃ (x8_1 : Int), v8 = .int .i64 x8_1 ∧ Aside0 (impl_Step_49_f50.l0 kq l0 x x8_1 = some r) ∧ Aside0 (kq ≤ k) ∧ Aside0 (Below w.heap.size w w'))
 case atStart => exact ⟨(0), (by first | rfl | (simp; done) | (simp [*]; done)), H', ⟨Nat.le_refl _⟩, ⟨by repeat (first | exact HB.out | apply pw_below_drewN | apply below_drew1)⟩⟩
 case round =>
  clear H'
  try clear p2
  obtain ⟨x8_1, rfl, HA, HK1, HB⟩ := hrel
  cases gk with
  | zero => exact absurd HA.out (by simp [impl_Step_49_f50.l0])
  | succ k1 =>
   have H := HA.out
   clear HA
   simp only [impl_Step_49_f50.l0] at H
   by_cases c3 : x8_1 < (l0.length : Int)
   ·
    rw [if_pos c3] at H
    have c3b0 : decide (x8_1 < (l0.length : Int)) = true := decide_eq_true c3
    by_cases c4 : 0 ≤ x8_1
    ·
     rw [if_pos c4] at H
     have c4b0 : decide (0 ≤ x8_1) = true := decide_eq_true c4
     replace H := Option.bind_eq_some_iff.mp H
     obtain ⟨t, A60, H⟩ := H
     have A6 := Aside0.mk A60
     clear A60
     obtain ⟨ad, ea_, hx0, hx1, hx2⟩ := at_T78 (Kd.C_below HR0.out HB.out) x8_1 c4 c3
     cases ea_
     have p1 := eq_true c4
     have q1 := eq_true c3
     clear c3 c4
     by_cases c7 : t = true
     ·
      subst c7
      rw [if_pos rfl] at H
      obtain rfl := Option.some.inj H
      go_wp2_with (first | (go_at_call 50; (refine (impl_Step_49_f50.calls1 (A0 := B0) (A1 := B1) (A2 := B2) (c0 := e0) (c1 := e1) (c2 := e2) k1 x (rd_T78 l0 x8_1) true _ ?side1 A6.out).mono ?_); (case side1 => exact impl_Step_49_f50.Cx_below HX.out (by repeat (first | exact HB.out | apply pw_below_drewN | apply below_drew1))); rintro e w9 ⟨rfl, hb⟩; have n0_ := Aside0.mk (below_step (by repeat (first | exact HB.out | apply pw_below_drewN | apply below_drew1)) hb); clear HB; have HB := n0_; clear n0_))
      go_ret
      exact ⟨by first | rfl | (simp; done) | (simp [*]; done), by repeat (first | exact HB.out | apply pw_below_drewN | apply below_drew1)⟩
     ·
      replace c7 := Bool.eq_false_iff.mpr c7
      subst c7
      rw [if_neg (show ¬ (false = true) by decide)] at H
      have H' := Aside0.mk H
      clear H
      go_wp2_with (first | (go_at_call 50; (refine (impl_Step_49_f50.calls1 (A0 := B0) (A1 := B1) (A2 := B2) (c0 := e0) (c1 := e1) (c2 := e2) k1 x (rd_T78 l0 x8_1) false _ ?side1 A6.out).mono ?_); (case side1 => exact impl_Step_49_f50.Cx_below HX.out (by repeat (first | exact HB.out | apply pw_below_drewN | apply below_drew1))); rintro e w9 ⟨rfl, hb⟩; have n0_ := Aside0.mk (below_step (by repeat (first | exact HB.out | apply pw_below_drewN | apply below_drew1)) hb); clear HB; have HB := n0_; clear n0_))
      go_roundg k1
      case measure => have := HK1.out; omega
      case rel => exact ⟨(wrap64 (x8_1 + 1)), (by first | rfl | (simp; done) | (simp [*]; done)), H', ⟨by have := HK1.out; omega⟩, ⟨by repeat (first | exact HB.out | apply pw_below_drewN | apply below_drew1)⟩⟩
    ·
     rw [if_neg c4] at H
     exact absurd H (by simp)
   ·
    rw [if_neg c3] at H
    have c3b0 : decide (x8_1 < (l0.length : Int)) = false := decide_eq_false c3
    clear c3
    obtain rfl := Option.some.inj H
    go_wp2
    go_ret
    exact ⟨by first | rfl | (simp; done) | (simp [*]; done), by repeat (first | exact HB.out | apply pw_below_drewN | apply below_drew1)⟩
set_option maxHeartbeats 8000000 in
set_option maxRecDepth 100000 in
theorem impl_Step_49_f50.calls (k : Nat) (A0 : Option Addr) (c0 : Nat) (l0 : List (S78)) (x : impl_Step_49_f50.X) (r : Bool) (w : World) (hr0 : Kd.C k78 w A0 l0.length l0) (hc0 : l0.length ≤ c0) {g0 g1 : Nat} {B0 B1 B2 : Option Addr} {e0 e1 e2 : Nat}
  (hb0 : w.heap[g0]? = some (.cells #[.slice B0 x.1.length e0, .slice B1 x.2.1.length e1] 30 (0, 0))) (h00 : Kd.C k76 w B0 x.1.length x.1) (h01 : x.1.length ≤ e0) (h02 : Kd.C Kd.string w B1 x.2.1.length x.2.1) (h03 : x.2.1.length ≤ e1)
  (hb1 : w.heap[g1]? = some (.cells #[.int .i64 x.2.2.1, .int .i64 x.2.2.2.1, .slice B2 x.2.2.2.2.length e2] 76 (0, 0))) (h10 : Kd.C k78 w B2 x.2.2.2.2.length x.2.2.2.2) (h11 : x.2.2.2.2.length ≤ e2) (h : impl_Step_49_f50.f k l0 x = some r) :
  Calls Try.prog 49 #[.slice A0 l0.length c0, .func (.func 50) #[] #[.pointer (some ⟨g0, 0, none⟩), .pointer (some ⟨g1, 0, none⟩)]] w fun e w' => e = .returned (.bool r) ∧ Below w.heap.size w w' := by
 have HR0 := Aside0.mk hr0
 have HC0 := Aside0.mk hc0
 have HX := Aside0.mk (show impl_Step_49_f50.Cx w g0 g1 B0 B1 B2 e0 e1 e2 x from ⟨hb0, h00, h01, h02, h03, hb1, h10, h11⟩)
 have HB := Aside0.mk (Below.refl w.heap.size w)
 clear hr0 hc0 hb0 h00 h01 h02 h03 hb1 h10 h11
 replace h := Option.bind_eq_some_iff.mp h
 obtain ⟨t, A30, H⟩ := h
 have A3 := Aside0.mk A30
 clear A30
 obtain rfl := Option.some.inj H
 go_enter Try.func49, Try.ntmps49
 go_wp2_with (first | ((with_reducible refine gate_callee (f := 87) rfl ?_); refine goesL_ (some 7) rfl rfl Try.func87 (by kernel_rfl) rfl #[.slice A0 l0.length c0, .func (.func 50) #[] #[.pointer (some ⟨g0, 0, none⟩), .pointer (some ⟨g1, 0, none⟩)]] rfl (by (try simp only [List.map_toArray, List.map_cons, List.map_nil]); first | done | rfl) ?_; (refine (impl_Step_49_f50.calls2 (B0 := B0) (B1 := B1) (B2 := B2) (e0 := e0) (e1 := e1) (e2 := e2) k _ _ l0 x t _ ?side1 ?side2 ?side3 A3.out).mono ?_); (case side1 => repeat (first | exact HR0.out | (with_reducible refine Kd.C_drewN ?_ _))); (case side2 => exact HC0.out); (case side3 => exact impl_Step_49_f50.Cx_below HX.out (by repeat (first | exact HB.out | apply pw_below_drewN | apply below_drew1))); rintro e w9 ⟨rfl, hb⟩; refine ⟨_, rfl, ?_⟩; have n0_ := Aside0.mk (below_step (by repeat (first | exact HB.out | apply pw_below_drewN | apply below_drew1)) hb); clear HB; have HB := n0_; clear n0_))
 go_ret
 exact ⟨by first | rfl | (simp; done) | (simp [*]; done), by repeat (first | exact HB.out | apply pw_below_drewN | apply below_drew1)⟩

end Go.Proofs.Ytahcicfcnehafaa.XFnExactUnitOk
