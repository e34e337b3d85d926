-- Written by xp.py of this workplace out of Lean's own print of the translation. Not trusted: Lean checks it.
import Derived.Test.YtjlkkappngnbjaaDoorXFnTokens0
namespace Go.Proofs.YtjlkkappngnbjaaDoor.XFnTokens
open Go.RowKit Go.Proofs.YtjlkkappngnbjaaDoorW.PrintWords Go.Proofs.YtjlkkappngnbjaaDoorW.PrintLast Go.Proofs.YtjlkkappngnbjaaDoorW.PrintMore
attribute [local go_sem] max2_int min2_int max_two min_two max_three min_three max_four min_four   -- for this text's walks alone
set_option linter.unusedVariables false
set_option linter.unusedSimpArgs false

/-! ### laws_big: function 4 -/
def laws_big.f (l0 : List Int) : Option (Bool) := some (decide ((l0.length : Int) > 1048576))
set_option maxHeartbeats 8000000 in
set_option maxRecDepth 100000 in
theorem laws_big.calls (A0 : Option Addr) (c0 : Nat) (l0 : List Int) (r : Bool) (w : World) (hr0 : Kd.C (Kd.int .u8) w A0 l0.length l0) (hc0 : l0.length ≤ c0) (h : laws_big.f l0 = some r) :
  Calls Tryd.prog 4 #[.slice A0 l0.length c0] w fun e w' => e = .returned (.bool r) ∧ Drawn0 w w' := by
 have HR0 := Aside0.mk hr0
 have HC0 := Aside0.mk hc0
 clear hr0 hc0
 have H : (some (decide ((l0.length : Int) > 1048576))) = some r := h
 clear h
 obtain rfl := Option.some.inj H
 go_enter Tryd.func4, Tryd.ntmps4
 go_wp2
 go_ret
 exact ⟨by first | rfl | (simp; done) | (simp [*]; done), by repeat (first | exact Drawn0.refl _ | apply Drawn0.step)⟩

/-- A state of type 46 at block g of W; what its slices lead to came in by w0. -/
def IsS46 (w0 W : World) (g : Nat) (f0 : List Int) (f1 : Int) (f2 : Int) : Prop := ∃ A0 c0, W.heap[g]? = some (.cells #[.slice A0 f0.length c0, .int .i64 f1, .int .i64 f2] 46 (0, 0)) ∧ w0.heap.size ≤ g ∧ Kd.C (Kd.int .u8) w0 A0 f0.length f0
theorem IsS46.grown {w0 W : World} {g : Nat} {f0 : List Int} {f1 : Int} {f2 : Int} {W1 : World} {row : Option Nat} (h : IsS46 w0 W g f0 f1 f2) (hw : W.grownBy W1 row) (hne : some g ≠ row) : IsS46 w0 W1 g f0 f1 f2 := by
 obtain ⟨A0, c0, hb, hg, hr0⟩ := h
 exact ⟨A0, c0, blk_grown hb hw hne, hg, hr0⟩
theorem IsS46.own_neN {w0 W : World} {g : Nat} {f0 : List Int} {f1 : Int} {f2 : Int} {α : Type} {d : Kd α} {e : Nat} {base : Nat} {ok : Nat → Prop} {v : Value} {xs : List α} (h : IsS46 w0 W g f0 f1 f2) (ho : Kd.N d e W base ok v xs) (ht : e ≠ 46) : some g ≠ v.ownBlock := by
 obtain ⟨A0, c0, hb, hg, hr0⟩ := h
 exact Kd.N_ne ho hb ht
theorem IsS46.fresh {w0 W : World} {g : Nat} {f0 : List Int} {f1 : Int} {f2 : Int} (h : IsS46 w0 W g f0 f1 f2) : ∀ k, W.heap.size ≤ k → k ≠ g := by
 obtain ⟨A0, c0, hb, hg, hr0⟩ := h
 exact Kd.freshB hb
theorem IsS46.kept {w0 W : World} {g : Nat} {f0 : List Int} {f1 : Int} {f2 : Int} {W1 : World} {S : Nat → Prop} (h : IsS46 w0 W g f0 f1 f2) (hk : Kept W W1 S) (hne : ¬ S g) : IsS46 w0 W1 g f0 f1 f2 := by
 obtain ⟨A0, c0, hb, hg, hr0⟩ := h
 exact ⟨A0, c0, blk_kept hb hk hne, hg, hr0⟩
theorem IsS46.below {w0 W : World} {g : Nat} {f0 : List Int} {f1 : Int} {f2 : Int} {W1 : World} (h : IsS46 w0 W g f0 f1 f2) (hw : Below W.heap.size W W1) : IsS46 w0 W1 g f0 f1 f2 := h.grown (grown_of_below hw none) (by simp)
theorem IsS46.alloc {w0 W : World} {g : Nat} {f0 : List Int} {f1 : Int} {f2 : Int} (h : IsS46 w0 W g f0 f1 f2) (o : Obj) : IsS46 w0 (W.alloc o) g f0 f1 f2 := h.below (below_alloc (Below.refl _ _) o)
theorem IsS46.drewN {w0 W : World} {g : Nat} {f0 : List Int} {f1 : Int} {f2 : Int} (h : IsS46 w0 W g f0 f1 f2) (m : Nat) : IsS46 w0 (W.drewN m) g f0 f1 f2 := h
theorem IsS46.drew {w0 W : World} {g : Nat} {f0 : List Int} {f1 : Int} {f2 : Int} (h : IsS46 w0 W g f0 f1 f2) : IsS46 w0 W.drew g f0 f1 f2 := h
theorem IsS46.at_ {w0 W : World} {g : Nat} {f0 : List Int} {f1 : Int} {f2 : Int} {w' : World} {m : Nat} (hq : W.drewN m = w') (h : IsS46 w0 W g f0 f1 f2) : IsS46 w0 w' g f0 f1 f2 := by subst hq; exact IsS46.drewN h m
theorem IsS46.apart {w0 W : World} {g : Nat} {f0 : List Int} {f1 : Int} {f2 : Int} {α : Type} {d : Kd α} {e : Nat} {base : Nat} {ok : Nat → Prop} {v : Value} {xs : List α} (h : IsS46 w0 W g f0 f1 f2) (ho : d.R e W base ok v xs) (ht : ∀ q, q ∈ e :: d.E → q ≠ 46) : d.R e W base (fun k => ok k ∧ k ≠ g) v xs := by
 obtain ⟨A0, c0, hb, hg, hr0⟩ := h
 exact Kd.R_types ho hb ht
theorem IsS46.own_ne {w0 W : World} {g : Nat} {f0 : List Int} {f1 : Int} {f2 : Int} {α : Type} {d : Kd α} {e : Nat} {base : Nat} {ok : Nat → Prop} {v : Value} {xs : List α} (h : IsS46 w0 W g f0 f1 f2) (ho : d.R e W base ok v xs) (ht : e ≠ 46) : some g ≠ v.ownBlock := by
 obtain ⟨A0, c0, hb, hg, hr0⟩ := h
 exact Kd.R_ne ho hb ht
theorem IsS46.apartQ {w0 W : World} {g : Nat} {f0 : List Int} {f1 : Int} {f2 : Int} {α : Type} {d : Kd α} {e : Nat} {base : Nat} {ok : Nat → Prop} {v : Value} {xs : List α} (h : IsS46 w0 W g f0 f1 f2) (ho : d.Q e W base ok v xs) (ht : ∀ q, q ∈ e :: d.E → q ≠ 46) : d.Q e W base (fun k => ok k ∧ k ≠ g) v xs := by
 obtain ⟨A0, c0, hb, hg, hr0⟩ := h
 exact Kd.Q_types ho hb ht
theorem IsS46.own_neQ {w0 W : World} {g : Nat} {f0 : List Int} {f1 : Int} {f2 : Int} {α : Type} {d : Kd α} {e : Nat} {base : Nat} {ok : Nat → Prop} {v : Value} {xs : List α} (h : IsS46 w0 W g f0 f1 f2) (ho : d.Q e W base ok v xs) (ht : e ≠ 46) : some g ≠ v.ownBlock := by
 obtain ⟨A0, c0, hb, hg, hr0⟩ := h
 exact Kd.Q_ne ho hb ht
theorem IsS46.apartS {w0 W : World} {g : Nat} {f0 : List Int} {f1 : Int} {f2 : Int} {α : Type} {d : Kd α} {e : Nat} {base : Nat} {ok : Nat → Prop} {v : Value} {xs : List α} (h : IsS46 w0 W g f0 f1 f2) (ho : d.S e W base ok v xs) (ht : ∀ q, q ∈ e :: d.E → q ≠ 46) : d.S e W base (fun k => ok k ∧ k ≠ g) v xs := by
 obtain ⟨A0, c0, hb, hg, hr0⟩ := h
 exact Kd.S_types ho hb ht
theorem IsS46.own_neS {w0 W : World} {g : Nat} {f0 : List Int} {f1 : Int} {f2 : Int} {α : Type} {d : Kd α} {e : Nat} {base : Nat} {ok : Nat → Prop} {v : Value} {xs : List α} (h : IsS46 w0 W g f0 f1 f2) (ho : d.S e W base ok v xs) (ht : e ≠ 46) : some g ≠ v.ownBlock := by
 obtain ⟨A0, c0, hb, hg, hr0⟩ := h
 exact Kd.S_ne ho hb ht
theorem IsS46.lt {w0 W : World} {g : Nat} {f0 : List Int} {f1 : Int} {f2 : Int} (h : IsS46 w0 W g f0 f1 f2) : g < W.heap.size := by
 obtain ⟨A0, c0, hb, hg, hr0⟩ := h
 exact blk_lt hb
theorem IsS46.ge {w0 W : World} {g : Nat} {f0 : List Int} {f1 : Int} {f2 : Int} (h : IsS46 w0 W g f0 f1 f2) : w0.heap.size ≤ g := by
 obtain ⟨A0, c0, hb, hg, hr0⟩ := h
 exact hg
theorem IsS46.ne_blk {w0 W : World} {g : Nat} {f0 : List Int} {f1 : Int} {f2 : Int} {a : Nat} {cs : Array Value} {t : TypeId} {fr : Nat × Nat} (h : IsS46 w0 W g f0 f1 f2) (hb2 : W.heap[a]? = some (.cells cs t fr)) (ht : t ≠ 46) : g ≠ a := by
 obtain ⟨A0, c0, hb, hg, hr0⟩ := h
 rintro rfl
 rw [hb] at hb2
 injection hb2 with hb2
 injection hb2 with _ ht2
 exact ht ht2.symm
theorem IsS46.far {w0 W : World} {g : Nat} {f0 : List Int} {f1 : Int} {f2 : Int} {p : Addr} (h : IsS46 w0 W g f0 f1 f2) (hne : g ≠ p.block) (u : Value) : IsS46 w0 (W.setCell p u) g f0 f1 f2 := by
 obtain ⟨A0, c0, hb, hg, hr0⟩ := h
 exact ⟨A0, c0, blk_far hb hne u, hg, hr0⟩
theorem cellS46_0 {W : World} {g : Nat} {A0 : Option Addr} {c0 : Nat} {f0 : List Int} {f1 : Int} {f2 : Int} (h : W.heap[g]? = some (.cells #[.slice A0 f0.length c0, .int .i64 f1, .int .i64 f2] 46 (0, 0))) : W.cell? ⟨g, 0, none⟩ = some (.slice A0 f0.length c0) := (blk_cell h 0).trans rfl
theorem cellS46_1 {W : World} {g : Nat} {A0 : Option Addr} {c0 : Nat} {f0 : List Int} {f1 : Int} {f2 : Int} (h : W.heap[g]? = some (.cells #[.slice A0 f0.length c0, .int .i64 f1, .int .i64 f2] 46 (0, 0))) : W.cell? ⟨g, 1, none⟩ = some (.int .i64 f1) := (blk_cell h 1).trans rfl
theorem IsS46.set_1 {w0 W : World} {g : Nat} {f0 : List Int} {f1 : Int} {f2 : Int} (h : IsS46 w0 W g f0 f1 f2) (x : Int) : IsS46 w0 (W.setCell ⟨g, 1, none⟩ (.int .i64 x)) g f0 x f2 := by
 obtain ⟨A0, c0, hb, hg, hr0⟩ := h
 exact ⟨A0, c0, by simpa using blk_set hb 1 (.int .i64 x), hg, hr0⟩
theorem cellS46_2 {W : World} {g : Nat} {A0 : Option Addr} {c0 : Nat} {f0 : List Int} {f1 : Int} {f2 : Int} (h : W.heap[g]? = some (.cells #[.slice A0 f0.length c0, .int .i64 f1, .int .i64 f2] 46 (0, 0))) : W.cell? ⟨g, 2, none⟩ = some (.int .i64 f2) := (blk_cell h 2).trans rfl
theorem IsS46.set_2 {w0 W : World} {g : Nat} {f0 : List Int} {f1 : Int} {f2 : Int} (h : IsS46 w0 W g f0 f1 f2) (x : Int) : IsS46 w0 (W.setCell ⟨g, 2, none⟩ (.int .i64 x)) g f0 f1 x := by
 obtain ⟨A0, c0, hb, hg, hr0⟩ := h
 exact ⟨A0, c0, by simpa using blk_set hb 2 (.int .i64 x), hg, hr0⟩
theorem IsS46.new (w0 W : World) (A0 : Option Addr) (c0 : Nat) (f0 : List Int) (f1 : Int) (f2 : Int) (hB : Below w0.heap.size w0 W) (hr0 : Kd.C (Kd.int .u8) w0 A0 f0.length f0) : IsS46 w0 (W.alloc (.cells #[.slice A0 f0.length c0, .int .i64 f1, .int .i64 f2] 46)) W.heap.size f0 f1 f2 := ⟨A0, c0, by simpa using heap_alloc_new W _, hB.size, hr0⟩

/-! ### spec_l1New: function 11 -/
def spec_l1New.l0 : Nat → List Int → Int → Int → Option (List Int × Int × Int)
 | 0, _, _, _ => none
 | k + 1, x0, x3, x4 => if x4 < (x0.length : Int) then (if x4 < 4000 then (if 0 ≤ x4 then (spec_l1New.l0 k x0 (Go.bits .and .i64 (wrap64 ((wrap64 ((wrap64 (x3 * 131)) + (wrap64 (rd x0 x4)))) + 7)) 1073741823) (wrap64 (x4 + 1))) else (none)) else (some (x0, 0, x3))) else (some (x0, 0, x3))
def spec_l1New.f (k : Nat) (l0 : List Int) : Option (List Int × Int × Int) := spec_l1New.l0 k l0 (wrap64 (18961 + (l0.length : Int))) 0
theorem spec_l1New.mono_l : ∀ k, (∀ y0 y1 y2, LeO (spec_l1New.l0 k y0 y1 y2) (spec_l1New.l0 (k + 1) y0 y1 y2))
 | 0 => fun _ _ _ r h => by simp [spec_l1New.l0] at h
 | k + 1 => by
  have ih0 := spec_l1New.mono_l k
  ·
   intro y0 y1 y2
   unfold spec_l1New.l0
   repeat' first
   | (with_reducible exact ih0 _ _ _)
   | (with_reducible exact LeO.refl _)
   | (with_reducible exact LeO.none _)
   | (with_reducible refine LeO.ite ?_ ?_)
   | (with_reducible refine LeO.bind ?_ (fun _ => ?_))
   | exact ih0 _ _ _
   | exact LeO.none _
   | refine LeO.ite ?_ ?_
   | refine LeO.bind ?_ (fun _ => ?_)
theorem spec_l1New.mono : ∀ a0 k, LeO (spec_l1New.f k a0) (spec_l1New.f (k + 1) a0) := by
 intro a0 k
 have ih0 := spec_l1New.mono_l k
 unfold spec_l1New.f
 repeat' first
   | (with_reducible exact ih0 _ _ _)
   | (with_reducible exact LeO.refl _)
   | (with_reducible exact LeO.none _)
   | (with_reducible refine LeO.ite ?_ ?_)
   | (with_reducible refine LeO.bind ?_ (fun _ => ?_))
   | exact ih0 _ _ _
   | exact LeO.none _
   | refine LeO.ite ?_ ?_
   | refine LeO.bind ?_ (fun _ => ?_)
set_option maxHeartbeats 8000000 in
set_option maxRecDepth 100000 in
theorem spec_l1New.calls (k : Nat) (A0 : Option Addr) (c0 : Nat) (l0 : List Int) (r1 : List Int) (r2 : Int) (r3 : Int) (w0 w : World) (hB : Below w0.heap.size w0 w) (hr0 : Kd.C (Kd.int .u8) w0 A0 l0.length l0) (hc0 : l0.length ≤ c0) (h : spec_l1New.f k l0 = some (r1, r2, r3)) :
  Calls Tryd.prog 11 #[.slice A0 l0.length c0] w fun e w' => ∃ g_ : Nat, e = .returned (.pointer (some ⟨g_, 0, none⟩)) ∧ IsS46 w0 w' g_ r1 r2 r3 ∧ Below w0.heap.size w0 w' ∧ Below w.heap.size w w' := by
 have hu46 := Tryd.underlying46
 have HR0 := Aside0.mk hr0
 have HC0 := Aside0.mk hc0
 clear hr0 hc0
 have HBW := Aside0.mk (Below.refl w.heap.size w)
 have HW0 := Aside0.mk hB.size
 have HB := Aside0.mk hB
 clear hB
 have H : (spec_l1New.l0 k l0 (wrap64 (18961 + (l0.length : Int))) 0) = some (r1, r2, r3) := h
 clear h
 have H' := Aside0.mk H
 clear H
 go_enter Tryd.func11, Tryd.ntmps11
 go_wp2
 go_loopg [3, 4] k (fun kq v3 v4 w' => ∃ (x3_1 : Int) (x4_1 : Int), v3 = .int .i64 x3_1 ∧ v4 = .int .i64 x4_1 ∧ Aside0 (spec_l1New.l0 kq l0 x3_1 x4_1 = some (r1, r2, r3)) ∧ Aside0 (kq ≤ k) ∧ Aside0 (Below w0.heap.size w0 w') ∧ Aside0 (Below w.heap.size w w'))
 case atStart => exact ⟨(wrap64 (18961 + (l0.length : Int))), (0), (by first | rfl | (simp; done) | (simp [*]; done)), (by first | rfl | (simp; done) | (simp [*]; done)), H', ⟨Nat.le_refl _⟩, ⟨t0c4_⟩, ⟨tad3_⟩⟩
 case round =>
  clear H'
  try clear c1
  obtain ⟨x3_1, x4_1, rfl, rfl, HA, HK1, HB, HBW⟩ := hrel
  cases gk with
  | zero => exact absurd HA.out (by simp [spec_l1New.l0])
  | succ k1 =>
   have H := HA.out
   clear HA
   simp only [spec_l1New.l0] at H
   by_cases c2 : x4_1 < (l0.length : Int)
   ·
    rw [if_pos c2] at H
    have c2b0 : decide (x4_1 < (l0.length : Int)) = true := decide_eq_true c2
    clear c2
    by_cases c3 : x4_1 < 4000
    ·
     rw [if_pos c3] at H
     have c3b0 : decide (x4_1 < 4000) = true := decide_eq_true c3
     clear c3
     by_cases c4 : 0 ≤ x4_1
     ·
      rw [if_pos c4] at H
      have c4b0 : decide (0 ≤ x4_1) = true := decide_eq_true c4
      clear c4
      have H' := Aside0.mk H
      clear H
      have p101 : 0 ≤ (x4_1 : Int) := of_decide_eq_true (by first | (with_reducible assumption) | assumption)
      have q101 : x4_1 < (l0.length : Int) := of_decide_eq_true (by first | (with_reducible assumption) | assumption)
      obtain ⟨ad101, e101, hx101_0⟩ := Kd.at_int HR0.out x4_1 p101 q101
      cases e101
      replace hx101_0 := pw_cell_below HB.out hx101_0
      replace p101 := eq_true p101
      replace q101 := eq_true q101
      go_wp2
      go_roundg k1
      case measure => have := HK1.out; omega
      case rel => exact ⟨(Go.bits .and .i64 (wrap64 ((wrap64 ((wrap64 (x3_1 * 131)) + (wrap64 (rd l0 x4_1)))) + 7)) 1073741823), (wrap64 (x4_1 + 1)), (by first | rfl | (simp; done) | (simp [*]; done)), (by first | rfl | (simp; done) | (simp [*]; done)), H', ⟨by have := HK1.out; omega⟩, ⟨t0c4_⟩, ⟨tad3_⟩⟩
     ·
      rw [if_neg c4] at H
      exact absurd H (by simp)
    ·
     rw [if_neg c3] at H
     have c3b0 : decide (x4_1 < 4000) = false := decide_eq_false c3
     clear c3
     simp only [Option.some.injEq, Prod.mk.injEq] at H
     obtain ⟨rfl, rfl, rfl⟩ := H
     go_wp2_with (first | ((with_reducible refine gate_dst (N := 31) rfl ?_); refine be_ 31 #[.slice A0 l0.length c0, .int .i64 0, .int .i64 x3_1] 46 ?_; intro gb102 hg w5 hbox hb; have n0_ := Aside0.mk (below_step HBW.out hb); have n1_ := Aside0.mk (below_step (t0c4_) hb); have n2_ := Aside0.mk (hbox); have n3_ := Aside0.mk ((by rw [hg]; exact (below_size (tad3_)) : w.heap.size ≤ gb102)); have n4_ := Aside0.mk ((Nat.le_trans HW0.out (by rw [hg]; exact (below_size (tad3_)) : w.heap.size ≤ gb102) : w0.heap.size ≤ gb102)); clear HBW; clear HB; have HBW := n0_; have HB := n1_; have BK102 := n2_; have GW102 := n3_; have GE102 := n4_; clear n0_ n1_ n2_ n3_ n4_; clear hb hbox hg))
     go_ret
     exact ⟨_, rfl, (show IsS46 w0 _ gb102 l0 0 x3_1 from ⟨_, _, by refine tn_ ?_; exact BK102.out, GE102.out, HR0.out⟩), tf6d_, te15_⟩
   ·
    rw [if_neg c2] at H
    have c2b0 : decide (x4_1 < (l0.length : Int)) = false := decide_eq_false c2
    clear c2
    simp only [Option.some.injEq, Prod.mk.injEq] at H
    obtain ⟨rfl, rfl, rfl⟩ := H
    go_wp2_with (first | ((with_reducible refine gate_dst (N := 31) rfl ?_); refine be_ 31 #[.slice A0 l0.length c0, .int .i64 0, .int .i64 x3_1] 46 ?_; intro gb103 hg w6 hbox hb; have n0_ := Aside0.mk (below_step HBW.out hb); have n1_ := Aside0.mk (below_step (t0c4_) hb); have n2_ := Aside0.mk (hbox); have n3_ := Aside0.mk ((by rw [hg]; exact (below_size (tad3_)) : w.heap.size ≤ gb103)); have n4_ := Aside0.mk ((Nat.le_trans HW0.out (by rw [hg]; exact (below_size (tad3_)) : w.heap.size ≤ gb103) : w0.heap.size ≤ gb103)); clear HBW; clear HB; have HBW := n0_; have HB := n1_; have BK103 := n2_; have GW103 := n3_; have GE103 := n4_; clear n0_ n1_ n2_ n3_ n4_; clear hb hbox hg))
    go_ret
    exact ⟨_, rfl, (show IsS46 w0 _ gb103 l0 0 x3_1 from ⟨_, _, by refine tn_ ?_; exact BK103.out, GE103.out, HR0.out⟩), tf6d_, te15_⟩

/-! ### spec_l1Byte: function 22 -/
def spec_l1Byte.f (s0_0 : List Int) (s0_1 : Int) (s0_2 : Int) : Option (Int × Int × Int) := if s0_1 < (s0_0.length : Int) then (if 0 ≤ s0_1 then (some (Go.bits .and .i64 (wrap64 ((Go.bits .and .i64 (Go.bits .xor .i64 ((wrap64 ((wrap64 (s0_2 * 6364136223846793005)) + 1442695040888963407)) / 8589934592) ((wrap64 ((wrap64 (s0_2 * 6364136223846793005)) + 1442695040888963407)) / 35184372088832)) 255) + (wrap64 (rd s0_0 s0_1)))) 255, wrap64 (s0_1 + 1), wrap64 ((wrap64 (s0_2 * 6364136223846793005)) + 1442695040888963407))) else (none)) else (some (Go.bits .and .i64 (Go.bits .xor .i64 ((wrap64 ((wrap64 (s0_2 * 6364136223846793005)) + 1442695040888963407)) / 8589934592) ((wrap64 ((wrap64 (s0_2 * 6364136223846793005)) + 1442695040888963407)) / 35184372088832)) 255, s0_1, wrap64 ((wrap64 (s0_2 * 6364136223846793005)) + 1442695040888963407)))
set_option maxHeartbeats 8000000 in
set_option maxRecDepth 100000 in
theorem spec_l1Byte.calls (g : Nat) (s0_0 : List Int) (s0_1 : Int) (s0_2 : Int) (r1 : Int) (r2 : Int) (r3 : Int) (w0 w : World) (hI : IsS46 w0 w g s0_0 s0_1 s0_2) (hB : Below w0.heap.size w0 w) (h : spec_l1Byte.f s0_0 s0_1 s0_2 = some (r1, r2, r3)) :
  Calls Tryd.prog 22 #[.pointer (some ⟨g, 0, none⟩)] w fun e w' => e = .returned (.int .i64 r1) ∧ IsS46 w0 w' g s0_0 r2 r3 ∧ Below w0.heap.size w0 w' ∧ KeepBut w w' g none := by
 have HI0 := Aside0.mk hI
 have HK := Aside0.mk (KeepBut.refl w g none)
 have HL := Aside0.mk hB.size
 clear hI
 have HW0 := Aside0.mk hB.size
 have HB := Aside0.mk hB
 clear hB
 have H : (if s0_1 < (s0_0.length : Int) then (if 0 ≤ s0_1 then (some (Go.bits .and .i64 (wrap64 ((Go.bits .and .i64 (Go.bits .xor .i64 ((wrap64 ((wrap64 (s0_2 * 6364136223846793005)) + 1442695040888963407)) / 8589934592) ((wrap64 ((wrap64 (s0_2 * 6364136223846793005)) + 1442695040888963407)) / 35184372088832)) 255) + (wrap64 (rd s0_0 s0_1)))) 255, wrap64 (s0_1 + 1), wrap64 ((wrap64 (s0_2 * 6364136223846793005)) + 1442695040888963407))) else (none)) else (some (Go.bits .and .i64 (Go.bits .xor .i64 ((wrap64 ((wrap64 (s0_2 * 6364136223846793005)) + 1442695040888963407)) / 8589934592) ((wrap64 ((wrap64 (s0_2 * 6364136223846793005)) + 1442695040888963407)) / 35184372088832)) 255, s0_1, wrap64 ((wrap64 (s0_2 * 6364136223846793005)) + 1442695040888963407)))) = some (r1, r2, r3) := h
 clear h
 by_cases c2 : s0_1 < (s0_0.length : Int)
 ·
  rw [if_pos c2] at H
  have c2b0 : decide (s0_1 < (s0_0.length : Int)) = true := decide_eq_true c2
  clear c2
  by_cases c3 : 0 ≤ s0_1
  ·
   rw [if_pos c3] at H
   have c3b0 : decide (0 ≤ s0_1) = true := decide_eq_true c3
   clear c3
   simp only [Option.some.injEq, Prod.mk.injEq] at H
   obtain ⟨rfl, rfl, rfl⟩ := H
   obtain ⟨ASz4_0, cSz4_0, HGz4, hgz4, HSz4_0⟩ := HI0.out
   have hcz4_0 := cellS46_0 HGz4
   have hcz4_1 := cellS46_1 HGz4
   have hcz4_2 := cellS46_2 HGz4
   have hfz4_1 := blk_frozen HGz4 1
   have hfz4_2 := blk_frozen HGz4 2
   clear HGz4 hgz4
   have p104 : 0 ≤ (s0_1 : Int) := of_decide_eq_true (by first | (with_reducible assumption) | assumption)
   have q104 : s0_1 < (s0_0.length : Int) := of_decide_eq_true (by first | (with_reducible assumption) | assumption)
   obtain ⟨ad104, e104, hx104_0⟩ := Kd.at_int HSz4_0 s0_1 p104 q104
   cases e104
   have hn104_0 : ad104.block ≠ g := Nat.ne_of_lt (Nat.lt_of_lt_of_le (by have := World.block_lt_of_cell? _ _ hx104_0; first | rwa [add_block] at this | exact this) (IsS46.ge HI0.out))
   replace hx104_0 := pw_cell_below HB.out hx104_0
   replace hx104_0 := (cell_far (p := ⟨g, 2, none⟩) (by first | (rw [add_block]; exact hn104_0) | (show (Addr.add _ _).block ≠ _; rw [add_block]; exact hn104_0) | exact hn104_0) (.int .i64 (wrap64 ((wrap64 (s0_2 * 6364136223846793005)) + 1442695040888963407)))).trans hx104_0
   (try have hy104_0 := fun (n_ : Nat) => (show (((w.drewN n_).setCell ⟨g, 2, none⟩ (.int .i64 (wrap64 ((wrap64 (s0_2 * 6364136223846793005)) + 1442695040888963407))))).cell? _ = some _ from hx104_0))
   clear hn104_0
   replace p104 := eq_true p104
   replace q104 := eq_true q104
   go_enter Tryd.func22, Tryd.ntmps22
   go_wp2
   repeat (go_quiet (fail); try go_wp2)
   go_ret
   exact ⟨by first | rfl | (simp [errW_none, errW_some] <;> rfl) | (simp [*, errW_none, errW_some] <;> rfl), tb87_, t2e7_, t1d6_⟩
  ·
   rw [if_neg c3] at H
   exact absurd H (by simp)
 ·
  rw [if_neg c2] at H
  have c2b0 : decide (s0_1 < (s0_0.length : Int)) = false := decide_eq_false c2
  clear c2
  simp only [Option.some.injEq, Prod.mk.injEq] at H
  obtain ⟨rfl, rfl, rfl⟩ := H
  obtain ⟨ASz5_0, cSz5_0, HGz5, hgz5, HSz5_0⟩ := HI0.out
  have hcz5_0 := cellS46_0 HGz5
  have hcz5_1 := cellS46_1 HGz5
  have hcz5_2 := cellS46_2 HGz5
  have hfz5_1 := blk_frozen HGz5 1
  have hfz5_2 := blk_frozen HGz5 2
  clear HGz5 hgz5
  go_enter Tryd.func22, Tryd.ntmps22
  go_wp2
  repeat (go_quiet (fail); try go_wp2)
  go_ret
  exact ⟨by first | rfl | (simp [errW_none, errW_some] <;> rfl) | (simp [*, errW_none, errW_some] <;> rfl), tb87_, t2e7_, t1d6_⟩

/-! ### spec_l1Below: function 15 -/
def spec_l1Below.f (s0_0 : List Int) (s0_1 : Int) (s0_2 : Int) (a1 : Int) : Option (Int × Int × Int) := if a1 ≤ 0 then (some (0, s0_1, s0_2)) else (if a1 ≤ 256 then ((spec_l1Byte.f s0_0 s0_1 s0_2).bind fun bt105 => (if a1 = 0 then (none) else (some (Int.tmod bt105.1 a1, bt105.2.1, bt105.2.2)))) else ((spec_l1Byte.f s0_0 s0_1 s0_2).bind fun bt108 => ((spec_l1Byte.f s0_0 bt108.2.1 bt108.2.2).bind fun bt111 => ((spec_l1Byte.f s0_0 bt111.2.1 bt111.2.2).bind fun bt114 => ((spec_l1Byte.f s0_0 bt114.2.1 bt114.2.2).bind fun bt117 => (if a1 = 0 then (none) else (some (Int.tmod (wrap64 ((wrap64 ((wrap64 ((wrap64 (bt108.1 * 16777216)) + (wrap64 (bt111.1 * 65536)))) + (wrap64 (bt114.1 * 256)))) + bt117.1)) a1, bt117.2.1, bt117.2.2))))))))
set_option maxHeartbeats 8000000 in
set_option maxRecDepth 100000 in
theorem spec_l1Below.calls (g : Nat) (s0_0 : List Int) (s0_1 : Int) (s0_2 : Int) (a1 : Int) (r1 : Int) (r2 : Int) (r3 : Int) (w0 w : World) (hI : IsS46 w0 w g s0_0 s0_1 s0_2) (hB : Below w0.heap.size w0 w) (h : spec_l1Below.f s0_0 s0_1 s0_2 a1 = some (r1, r2, r3)) :
  Calls Tryd.prog 15 #[.pointer (some ⟨g, 0, none⟩), .int .i64 a1] w fun e w' => e = .returned (.int .i64 r1) ∧ IsS46 w0 w' g s0_0 r2 r3 ∧ Below w0.heap.size w0 w' ∧ KeepBut w w' g none := by
 have HI0 := Aside0.mk hI
 have HK := Aside0.mk (KeepBut.refl w g none)
 have HL := Aside0.mk hB.size
 clear hI
 have HW0 := Aside0.mk hB.size
 have HB := Aside0.mk hB
 clear hB
 have H : (if a1 ≤ 0 then (some (0, s0_1, s0_2)) else (if a1 ≤ 256 then ((spec_l1Byte.f s0_0 s0_1 s0_2).bind fun bt105 => (if a1 = 0 then (none) else (some (Int.tmod bt105.1 a1, bt105.2.1, bt105.2.2)))) else ((spec_l1Byte.f s0_0 s0_1 s0_2).bind fun bt108 => ((spec_l1Byte.f s0_0 bt108.2.1 bt108.2.2).bind fun bt111 => ((spec_l1Byte.f s0_0 bt111.2.1 bt111.2.2).bind fun bt114 => ((spec_l1Byte.f s0_0 bt114.2.1 bt114.2.2).bind fun bt117 => (if a1 = 0 then (none) else (some (Int.tmod (wrap64 ((wrap64 ((wrap64 ((wrap64 (bt108.1 * 16777216)) + (wrap64 (bt111.1 * 65536)))) + (wrap64 (bt114.1 * 256)))) + bt117.1)) a1, bt117.2.1, bt117.2.2))))))))) = some (r1, r2, r3) := h
 clear h
 by_cases c3 : a1 ≤ 0
 ·
  rw [if_pos c3] at H
  have c3b0 : decide (a1 ≤ 0) = true := decide_eq_true c3
  clear c3
  simp only [Option.some.injEq, Prod.mk.injEq] at H
  obtain ⟨rfl, rfl, rfl⟩ := H
  go_enter Tryd.func15, Tryd.ntmps15
  go_wp2
  go_ret
  exact ⟨by first | rfl | (simp [errW_none, errW_some] <;> rfl) | (simp [*, errW_none, errW_some] <;> rfl), tb87_, t2e7_, t1d6_⟩
 ·
  rw [if_neg c3] at H
  have c3b0 : decide (a1 ≤ 0) = false := decide_eq_false c3
  clear c3
  by_cases c4 : a1 ≤ 256
  ·
   rw [if_pos c4] at H
   have c4b0 : decide (a1 ≤ 256) = true := decide_eq_true c4
   clear c4
   replace H := Option.bind_eq_some_iff.mp H
   obtain ⟨⟨t105, t106, t107⟩, A50, H⟩ := H
   replace H : (if a1 = 0 then (none) else (some (Int.tmod t105 a1, t106, t107))) = some (r1, r2, r3) := H
   have A5 := Aside0.mk A50
   clear A50
   by_cases c6 : a1 = 0
   ·
    rw [if_pos c6] at H
    exact absurd H (by simp)
   ·
    rw [if_neg c6] at H
    have c6b0 : (a1 == 0) = false := beq_eq_false_iff_ne.mpr c6
    have c6b1 : (a1 != 0) = true := bne_iff_ne.mpr c6
    simp only [Option.some.injEq, Prod.mk.injEq] at H
    obtain ⟨rfl, rfl, rfl⟩ := H
    go_enter Tryd.func15, Tryd.ntmps15
    go_wp2_with (first | ((with_reducible refine gate_callee (f := 22) rfl ?_); refine gl_ (some 14) Tryd.func22 #[.pointer (some ⟨g, 0, none⟩)] ?_; (with_reducible refine (spec_l1Byte.calls g s0_0 s0_1 s0_2 t105 t106 t107 w0 _ ?side1 ?side2 A5.out).mono ?_); (case side1 => exact tb87_); (case side2 => exact t2e7_); rintro e w7 ⟨rfl, hi, hb, hk⟩; refine ⟨_, rfl, ?_⟩; have n0_ := Aside0.mk (KeepBut.trans (t1d6_) hk (.inl rfl)); have n1_ := Aside0.mk (hb); have n2_ := Aside0.mk (hi); clear HK; clear HB; clear HI0; have HK := n0_; have HB := n1_; have HI0 := n2_; clear n0_ n1_ n2_; (try clear hb); (try clear hb2); (try clear hk); (try clear hi)))
    go_ret
    exact ⟨by first | rfl | (simp [errW_none, errW_some] <;> rfl) | (simp [*, errW_none, errW_some] <;> rfl), tb87_, t2e7_, t1d6_⟩
  ·
   rw [if_neg c4] at H
   have c4b0 : decide (a1 ≤ 256) = false := decide_eq_false c4
   clear c4
   replace H := Option.bind_eq_some_iff.mp H
   obtain ⟨⟨t108, t109, t110⟩, A80, H⟩ := H
   replace H : ((spec_l1Byte.f s0_0 t109 t110).bind fun bt111 => ((spec_l1Byte.f s0_0 bt111.2.1 bt111.2.2).bind fun bt114 => ((spec_l1Byte.f s0_0 bt114.2.1 bt114.2.2).bind fun bt117 => (if a1 = 0 then (none) else (some (Int.tmod (wrap64 ((wrap64 ((wrap64 ((wrap64 (t108 * 16777216)) + (wrap64 (bt111.1 * 65536)))) + (wrap64 (bt114.1 * 256)))) + bt117.1)) a1, bt117.2.1, bt117.2.2)))))) = some (r1, r2, r3) := H
   have A8 := Aside0.mk A80
   clear A80
   replace H := Option.bind_eq_some_iff.mp H
   obtain ⟨⟨t111, t112, t113⟩, A90, H⟩ := H
   replace H : ((spec_l1Byte.f s0_0 t112 t113).bind fun bt114 => ((spec_l1Byte.f s0_0 bt114.2.1 bt114.2.2).bind fun bt117 => (if a1 = 0 then (none) else (some (Int.tmod (wrap64 ((wrap64 ((wrap64 ((wrap64 (t108 * 16777216)) + (wrap64 (t111 * 65536)))) + (wrap64 (bt114.1 * 256)))) + bt117.1)) a1, bt117.2.1, bt117.2.2))))) = some (r1, r2, r3) := H
   have A9 := Aside0.mk A90
   clear A90
   replace H := Option.bind_eq_some_iff.mp H
   obtain ⟨⟨t114, t115, t116⟩, A100, H⟩ := H
   replace H : ((spec_l1Byte.f s0_0 t115 t116).bind fun bt117 => (if a1 = 0 then (none) else (some (Int.tmod (wrap64 ((wrap64 ((wrap64 ((wrap64 (t108 * 16777216)) + (wrap64 (t111 * 65536)))) + (wrap64 (t114 * 256)))) + bt117.1)) a1, bt117.2.1, bt117.2.2)))) = some (r1, r2, r3) := H
   have A10 := Aside0.mk A100
   clear A100
   replace H := Option.bind_eq_some_iff.mp H
   obtain ⟨⟨t117, t118, t119⟩, A110, H⟩ := H
   replace H : (if a1 = 0 then (none) else (some (Int.tmod (wrap64 ((wrap64 ((wrap64 ((wrap64 (t108 * 16777216)) + (wrap64 (t111 * 65536)))) + (wrap64 (t114 * 256)))) + t117)) a1, t118, t119))) = some (r1, r2, r3) := H
   have A11 := Aside0.mk A110
   clear A110
   by_cases c12 : a1 = 0
   ·
    rw [if_pos c12] at H
    exact absurd H (by simp)
   ·
    rw [if_neg c12] at H
    have c12b0 : (a1 == 0) = false := beq_eq_false_iff_ne.mpr c12
    have c12b1 : (a1 != 0) = true := bne_iff_ne.mpr c12
    simp only [Option.some.injEq, Prod.mk.injEq] at H
    obtain ⟨rfl, rfl, rfl⟩ := H
    go_enter Tryd.func15, Tryd.ntmps15
    go_wp2_with (first | ((with_reducible refine gate_callee (f := 22) rfl ?_); refine gl_ (some 18) Tryd.func22 #[.pointer (some ⟨g, 0, none⟩)] ?_; (with_reducible refine (spec_l1Byte.calls g s0_0 s0_1 s0_2 t108 t109 t110 w0 _ ?side1 ?side2 A8.out).mono ?_); (case side1 => exact tb87_); (case side2 => exact t2e7_); rintro e w13 ⟨rfl, hi, hb, hk⟩; refine ⟨_, rfl, ?_⟩; have n0_ := Aside0.mk (KeepBut.trans (t1d6_) hk (.inl rfl)); have n1_ := Aside0.mk (hb); have n2_ := Aside0.mk (hi); clear HK; clear HB; clear HI0; have HK := n0_; have HB := n1_; have HI0 := n2_; clear n0_ n1_ n2_; (try clear hb); (try clear hb2); (try clear hk); (try clear hi)) | ((with_reducible refine gate_callee (f := 22) rfl ?_); refine gl_ (some 20) Tryd.func22 #[.pointer (some ⟨g, 0, none⟩)] ?_; (with_reducible refine (spec_l1Byte.calls g s0_0 t109 t110 t111 t112 t113 w0 _ ?side1 ?side2 A9.out).mono ?_); (case side1 => exact tb87_); (case side2 => exact t2e7_); rintro e w14 ⟨rfl, hi, hb, hk⟩; refine ⟨_, rfl, ?_⟩; have n0_ := Aside0.mk (KeepBut.trans (t1d6_) hk (.inl rfl)); have n1_ := Aside0.mk (hb); have n2_ := Aside0.mk (hi); clear HK; clear HB; clear HI0; have HK := n0_; have HB := n1_; have HI0 := n2_; clear n0_ n1_ n2_; (try clear hb); (try clear hb2); (try clear hk); (try clear hi)) | ((with_reducible refine gate_callee (f := 22) rfl ?_); refine gl_ (some 22) Tryd.func22 #[.pointer (some ⟨g, 0, none⟩)] ?_; (with_reducible refine (spec_l1Byte.calls g s0_0 t112 t113 t114 t115 t116 w0 _ ?side1 ?side2 A10.out).mono ?_); (case side1 => exact tb87_); (case side2 => exact t2e7_); rintro e w15 ⟨rfl, hi, hb, hk⟩; refine ⟨_, rfl, ?_⟩; have n0_ := Aside0.mk (KeepBut.trans (t1d6_) hk (.inl rfl)); have n1_ := Aside0.mk (hb); have n2_ := Aside0.mk (hi); clear HK; clear HB; clear HI0; have HK := n0_; have HB := n1_; have HI0 := n2_; clear n0_ n1_ n2_; (try clear hb); (try clear hb2); (try clear hk); (try clear hi)) | ((with_reducible refine gate_callee (f := 22) rfl ?_); refine gl_ (some 24) Tryd.func22 #[.pointer (some ⟨g, 0, none⟩)] ?_; (with_reducible refine (spec_l1Byte.calls g s0_0 t115 t116 t117 t118 t119 w0 _ ?side1 ?side2 A11.out).mono ?_); (case side1 => exact tb87_); (case side2 => exact t2e7_); rintro e w16 ⟨rfl, hi, hb, hk⟩; refine ⟨_, rfl, ?_⟩; have n0_ := Aside0.mk (KeepBut.trans (t1d6_) hk (.inl rfl)); have n1_ := Aside0.mk (hb); have n2_ := Aside0.mk (hi); clear HK; clear HB; clear HI0; have HK := n0_; have HB := n1_; have HI0 := n2_; clear n0_ n1_ n2_; (try clear hb); (try clear hb2); (try clear hk); (try clear hi)))
    go_ret
    exact ⟨by first | rfl | (simp [errW_none, errW_some] <;> rfl) | (simp [*, errW_none, errW_some] <;> rfl), tb87_, t2e7_, t1d6_⟩

/-! ### spec_l1Pick: function 19 -/
def spec_l1Pick.f (s0_0 : List Int) (s0_1 : Int) (s0_2 : Int) (l1 : List ByteArray) : Option (ByteArray × Int × Int) := (spec_l1Below.f s0_0 s0_1 s0_2 (l1.length : Int)).bind fun bt120 => (if 0 ≤ bt120.1 then (if bt120.1 < (l1.length : Int) then (some (rdOf ByteArray.empty l1 bt120.1, bt120.2.1, bt120.2.2)) else (none)) else (none))
set_option maxHeartbeats 8000000 in
set_option maxRecDepth 100000 in
theorem spec_l1Pick.calls (g : Nat) (s0_0 : List Int) (s0_1 : Int) (s0_2 : Int) (A1 : Option Addr) (c1 : Nat) (l1 : List ByteArray) (r1 : ByteArray) (r2 : Int) (r3 : Int) (w0 w : World) (hI : IsS46 w0 w g s0_0 s0_1 s0_2) (hB : Below w0.heap.size w0 w) (hr1 : Kd.C Kd.string w A1 l1.length l1) (hc1 : l1.length ≤ c1) (hf1 : ∀ ad, A1 = some ad → 0 < l1.length → ad.block ≠ g) (h : spec_l1Pick.f s0_0 s0_1 s0_2 l1 = some (r1, r2, r3)) :
  Calls Tryd.prog 19 #[.pointer (some ⟨g, 0, none⟩), .slice A1 l1.length c1] w fun e w' => e = .returned (.string r1) ∧ IsS46 w0 w' g s0_0 r2 r3 ∧ Below w0.heap.size w0 w' ∧ KeepBut w w' g none := by
 have HR1 := Aside0.mk hr1
 have HC1 := Aside0.mk hc1
 clear hr1 hc1
 have HI0 := Aside0.mk hI
 have HK := Aside0.mk (KeepBut.refl w g none)
 have HL := Aside0.mk hB.size
 clear hI
 have HW0 := Aside0.mk hB.size
 have HB := Aside0.mk hB
 clear hB
 have H : ((spec_l1Below.f s0_0 s0_1 s0_2 (l1.length : Int)).bind fun bt120 => (if 0 ≤ bt120.1 then (if bt120.1 < (l1.length : Int) then (some (rdOf ByteArray.empty l1 bt120.1, bt120.2.1, bt120.2.2)) else (none)) else (none))) = some (r1, r2, r3) := h
 clear h
 replace H := Option.bind_eq_some_iff.mp H
 obtain ⟨⟨t120, t121, t122⟩, A30, H⟩ := H
 replace H : (if 0 ≤ t120 then (if t120 < (l1.length : Int) then (some (rdOf ByteArray.empty l1 t120, t121, t122)) else (none)) else (none)) = some (r1, r2, r3) := H
 have A3 := Aside0.mk A30
 clear A30
 by_cases c4 : 0 ≤ t120
 ·
  rw [if_pos c4] at H
  have c4b0 : decide (0 ≤ t120) = true := decide_eq_true c4
  clear c4
  by_cases c5 : t120 < (l1.length : Int)
  ·
   rw [if_pos c5] at H
   have c5b0 : decide (t120 < (l1.length : Int)) = true := decide_eq_true c5
   clear c5
   simp only [Option.some.injEq, Prod.mk.injEq] at H
   obtain ⟨rfl, rfl, rfl⟩ := H
   go_enter Tryd.func19, Tryd.ntmps19
   go_wp2_with (first | ((with_reducible refine gate_callee (f := 15) rfl ?_); refine gl_ (some 9) Tryd.func15 #[.pointer (some ⟨g, 0, none⟩), .int .i64 (l1.length : Int)] ?_; (with_reducible refine (spec_l1Below.calls g s0_0 s0_1 s0_2 (l1.length : Int) t120 t121 t122 w0 _ ?side1 ?side2 A3.out).mono ?_); (case side1 => exact tb87_); (case side2 => exact t2e7_); rintro e w6 ⟨rfl, hi, hb, hk⟩; refine ⟨_, rfl, ?_⟩; have n0_ := Aside0.mk (KeepBut.trans (t1d6_) hk (.inl rfl)); have n1_ := Aside0.mk (hb); have n2_ := Aside0.mk (hi); clear HK; clear HB; clear HI0; have HK := n0_; have HB := n1_; have HI0 := n2_; clear n0_ n1_ n2_; (try clear hb); (try clear hb2); (try clear hk); (try clear hi); have p123 : 0 ≤ (t120 : Int) := of_decide_eq_true (by first | (with_reducible assumption) | assumption); have q123 : t120 < (l1.length : Int) := of_decide_eq_true (by first | (with_reducible assumption) | assumption); obtain ⟨ad123, e123, hx123_0⟩ := Kd.at_string HR1.out t120 p123 q123; cases e123; replace hx123_0 := keep_cell HK.out hx123_0 (by first | (rw [add_block]; exact hf1 _ rfl (by omega)) | exact hf1 _ rfl (by omega) | exact hf1 ad123 rfl (by omega)); replace p123 := eq_true p123; replace q123 := eq_true q123))
   go_ret
   exact ⟨by first | rfl | (simp [errW_none, errW_some] <;> rfl) | (simp [*, errW_none, errW_some] <;> rfl), tb87_, t2e7_, t1d6_⟩
  ·
   rw [if_neg c5] at H
   exact absurd H (by simp)
 ·
  rw [if_neg c4] at H
  exact absurd H (by simp)

/-! ### spec_l11Dent: function 12 -/
def spec_l11Dent.f (s0_0 : List Int) (s0_1 : Int) (s0_2 : Int) (a1 : ByteArray) : Option (ByteArray × Int × Int) := (spec_l1Below.f s0_0 s0_1 s0_2 (wrap64 ((a1.size : Int) + 1))).bind fun bt124 => ((spec_l1Below.f s0_0 bt124.2.1 bt124.2.2 6).bind fun bt127 => (if bt127.1 = 0 then (if 0 ≤ bt124.1 then (if bt124.1 ≤ (a1.size : Int) then (some (a1.extract 0 (bt124.1 : Int).toNat, bt127.2.1, bt127.2.2)) else (none)) else (none)) else (if bt127.1 = 1 then (if 0 ≤ bt124.1 then (if bt124.1 ≤ (a1.size : Int) then ((spec_l1Pick.f s0_0 bt127.2.1 bt127.2.2 (([(⟨#[32]⟩ : ByteArray), (⟨#[59]⟩ : ByteArray), (⟨#[40]⟩ : ByteArray), (⟨#[125]⟩ : ByteArray), (⟨#[123]⟩ : ByteArray), (⟨#[34]⟩ : ByteArray), (⟨#[48]⟩ : ByteArray), (⟨#[120]⟩ : ByteArray), (⟨#[35]⟩ : ByteArray), (⟨#[61]⟩ : ByteArray), (⟨#[61, 61]⟩ : ByteArray), (⟨#[108, 101, 116]⟩ : ByteArray), (⟨#[46]⟩ : ByteArray), (⟨#[45]⟩ : ByteArray), (⟨#[33]⟩ : ByteArray), (⟨#[1]⟩ : ByteArray)] : List ByteArray))).bind fun bt133 => (if (a1.extract 0 (bt124.1 : Int).toNat).size + bt133.1.size ≤ 9223372036854775807 then (if ((a1.extract 0 (bt124.1 : Int).toNat) ++ bt133.1).size + (a1.extract (bt124.1 : Int).toNat a1.size).size ≤ 9223372036854775807 then (some (((a1.extract 0 (bt124.1 : Int).toNat) ++ bt133.1) ++ (a1.extract (bt124.1 : Int).toNat a1.size), bt133.2.1, bt133.2.2)) else (none)) else (none))) else (none)) else (none)) else (some (a1, bt127.2.1, bt127.2.2)))))
def spec_l11Dent.T6 : Bool × List (List Nat × List Nat) := (true, [([], []), ([], []), ([0, 1], [0, 1]), ([], []), ([], []), ([3, 4], [3, 4]), ([2, 5], [2, 5]), ([], []), ([], []), ([7, 8], [7, 8]), ([6, 9], [6, 9]), ([10, 5, 0, 1, 2, 3, 4, 5, 6, 7, 8, 9, 10], [10])])
def spec_l11Dent.B6 : List Nat := [0, 0, 3, 0, 0, 24, 63, 0, 0, 384, 1023, 2047]
theorem spec_l11Dent.tab6 : rtab .any (opsOf Tryd.f12 6) = spec_l11Dent.T6 := by kernel_rfl
theorem spec_l11Dent.bits6 : waitsOk spec_l11Dent.T6.2 spec_l11Dent.B6 = true := by kernel_rfl
set_option maxHeartbeats 8000000 in
set_option maxRecDepth 100000 in
theorem spec_l11Dent.calls (g : Nat) (s0_0 : List Int) (s0_1 : Int) (s0_2 : Int) (a1 : ByteArray) (r1 : ByteArray) (r2 : Int) (r3 : Int) (w0 w : World) (hI : IsS46 w0 w g s0_0 s0_1 s0_2) (hB : Below w0.heap.size w0 w) (h : spec_l11Dent.f s0_0 s0_1 s0_2 a1 = some (r1, r2, r3)) :
  Calls Tryd.prog 12 #[.pointer (some ⟨g, 0, none⟩), .string a1] w fun e w' => e = .returned (.string r1) ∧ IsS46 w0 w' g s0_0 r2 r3 ∧ Below w0.heap.size w0 w' ∧ KeepBut w w' g none := by
 have HI0 := Aside0.mk hI
 have HK := Aside0.mk (KeepBut.refl w g none)
 have HL := Aside0.mk hB.size
 clear hI
 have HW0 := Aside0.mk hB.size
 have HB := Aside0.mk hB
 clear hB
 have H : ((spec_l1Below.f s0_0 s0_1 s0_2 (wrap64 ((a1.size : Int) + 1))).bind fun bt124 => ((spec_l1Below.f s0_0 bt124.2.1 bt124.2.2 6).bind fun bt127 => (if bt127.1 = 0 then (if 0 ≤ bt124.1 then (if bt124.1 ≤ (a1.size : Int) then (some (a1.extract 0 (bt124.1 : Int).toNat, bt127.2.1, bt127.2.2)) else (none)) else (none)) else (if bt127.1 = 1 then (if 0 ≤ bt124.1 then (if bt124.1 ≤ (a1.size : Int) then ((spec_l1Pick.f s0_0 bt127.2.1 bt127.2.2 (([(⟨#[32]⟩ : ByteArray), (⟨#[59]⟩ : ByteArray), (⟨#[40]⟩ : ByteArray), (⟨#[125]⟩ : ByteArray), (⟨#[123]⟩ : ByteArray), (⟨#[34]⟩ : ByteArray), (⟨#[48]⟩ : ByteArray), (⟨#[120]⟩ : ByteArray), (⟨#[35]⟩ : ByteArray), (⟨#[61]⟩ : ByteArray), (⟨#[61, 61]⟩ : ByteArray), (⟨#[108, 101, 116]⟩ : ByteArray), (⟨#[46]⟩ : ByteArray), (⟨#[45]⟩ : ByteArray), (⟨#[33]⟩ : ByteArray), (⟨#[1]⟩ : ByteArray)] : List ByteArray))).bind fun bt133 => (if (a1.extract 0 (bt124.1 : Int).toNat).size + bt133.1.size ≤ 9223372036854775807 then (if ((a1.extract 0 (bt124.1 : Int).toNat) ++ bt133.1).size + (a1.extract (bt124.1 : Int).toNat a1.size).size ≤ 9223372036854775807 then (some (((a1.extract 0 (bt124.1 : Int).toNat) ++ bt133.1) ++ (a1.extract (bt124.1 : Int).toNat a1.size), bt133.2.1, bt133.2.2)) else (none)) else (none))) else (none)) else (none)) else (some (a1, bt127.2.1, bt127.2.2)))))) = some (r1, r2, r3) := h
 clear h
 replace H := Option.bind_eq_some_iff.mp H
 obtain ⟨⟨t124, t125, t126⟩, A30, H⟩ := H
 replace H : ((spec_l1Below.f s0_0 t125 t126 6).bind fun bt127 => (if bt127.1 = 0 then (if 0 ≤ t124 then (if t124 ≤ (a1.size : Int) then (some (a1.extract 0 (t124 : Int).toNat, bt127.2.1, bt127.2.2)) else (none)) else (none)) else (if bt127.1 = 1 then (if 0 ≤ t124 then (if t124 ≤ (a1.size : Int) then ((spec_l1Pick.f s0_0 bt127.2.1 bt127.2.2 (([(⟨#[32]⟩ : ByteArray), (⟨#[59]⟩ : ByteArray), (⟨#[40]⟩ : ByteArray), (⟨#[125]⟩ : ByteArray), (⟨#[123]⟩ : ByteArray), (⟨#[34]⟩ : ByteArray), (⟨#[48]⟩ : ByteArray), (⟨#[120]⟩ : ByteArray), (⟨#[35]⟩ : ByteArray), (⟨#[61]⟩ : ByteArray), (⟨#[61, 61]⟩ : ByteArray), (⟨#[108, 101, 116]⟩ : ByteArray), (⟨#[46]⟩ : ByteArray), (⟨#[45]⟩ : ByteArray), (⟨#[33]⟩ : ByteArray), (⟨#[1]⟩ : ByteArray)] : List ByteArray))).bind fun bt133 => (if (a1.extract 0 (t124 : Int).toNat).size + bt133.1.size ≤ 9223372036854775807 then (if ((a1.extract 0 (t124 : Int).toNat) ++ bt133.1).size + (a1.extract (t124 : Int).toNat a1.size).size ≤ 9223372036854775807 then (some (((a1.extract 0 (t124 : Int).toNat) ++ bt133.1) ++ (a1.extract (t124 : Int).toNat a1.size), bt133.2.1, bt133.2.2)) else (none)) else (none))) else (none)) else (none)) else (some (a1, bt127.2.1, bt127.2.2))))) = some (r1, r2, r3) := H
 have A3 := Aside0.mk A30
 clear A30
 replace H := Option.bind_eq_some_iff.mp H
 obtain ⟨⟨t127, t128, t129⟩, A40, H⟩ := H
 replace H : (if t127 = 0 then (if 0 ≤ t124 then (if t124 ≤ (a1.size : Int) then (some (a1.extract 0 (t124 : Int).toNat, t128, t129)) else (none)) else (none)) else (if t127 = 1 then (if 0 ≤ t124 then (if t124 ≤ (a1.size : Int) then ((spec_l1Pick.f s0_0 t128 t129 (([(⟨#[32]⟩ : ByteArray), (⟨#[59]⟩ : ByteArray), (⟨#[40]⟩ : ByteArray), (⟨#[125]⟩ : ByteArray), (⟨#[123]⟩ : ByteArray), (⟨#[34]⟩ : ByteArray), (⟨#[48]⟩ : ByteArray), (⟨#[120]⟩ : ByteArray), (⟨#[35]⟩ : ByteArray), (⟨#[61]⟩ : ByteArray), (⟨#[61, 61]⟩ : ByteArray), (⟨#[108, 101, 116]⟩ : ByteArray), (⟨#[46]⟩ : ByteArray), (⟨#[45]⟩ : ByteArray), (⟨#[33]⟩ : ByteArray), (⟨#[1]⟩ : ByteArray)] : List ByteArray))).bind fun bt133 => (if (a1.extract 0 (t124 : Int).toNat).size + bt133.1.size ≤ 9223372036854775807 then (if ((a1.extract 0 (t124 : Int).toNat) ++ bt133.1).size + (a1.extract (t124 : Int).toNat a1.size).size ≤ 9223372036854775807 then (some (((a1.extract 0 (t124 : Int).toNat) ++ bt133.1) ++ (a1.extract (t124 : Int).toNat a1.size), bt133.2.1, bt133.2.2)) else (none)) else (none))) else (none)) else (none)) else (some (a1, t128, t129)))) = some (r1, r2, r3) := H
 have A4 := Aside0.mk A40
 clear A40
 by_cases c5 : t127 = 0
 ·
  rw [if_pos c5] at H
  have c5b0 : (t127 == 0) = true := beq_iff_eq.mpr c5
  have c5b1 : (t127 != 0) = false := bne_eq_false_iff_eq.mpr c5
  clear c5
  by_cases c6 : 0 ≤ t124
  ·
   rw [if_pos c6] at H
   have c6b0 := eq_true c6
   have c6b1 : decide (0 ≤ t124) = true := decide_eq_true c6
   clear c6
   by_cases c7 : t124 ≤ (a1.size : Int)
   ·
    rw [if_pos c7] at H
    have c7b0 := eq_true c7
    have c7b1 : decide (t124 ≤ (a1.size : Int)) = true := decide_eq_true c7
    clear c7
    simp only [Option.some.injEq, Prod.mk.injEq] at H
    obtain ⟨rfl, rfl, rfl⟩ := H
    go_enter Tryd.func12, Tryd.ntmps12
    go_wp2_with (first | ((with_reducible refine gate_callee (f := 15) rfl ?_); refine gl_ (some 10) Tryd.func15 #[.pointer (some ⟨g, 0, none⟩), .int .i64 (wrap64 ((a1.size : Int) + 1))] ?_; (with_reducible refine (spec_l1Below.calls g s0_0 s0_1 s0_2 (wrap64 ((a1.size : Int) + 1)) t124 t125 t126 w0 _ ?side1 ?side2 A3.out).mono ?_); (case side1 => exact tb87_); (case side2 => exact t2e7_); rintro e w8 ⟨rfl, hi, hb, hk⟩; refine ⟨_, rfl, ?_⟩; have n0_ := Aside0.mk (KeepBut.trans (t1d6_) hk (.inl rfl)); have n1_ := Aside0.mk (hb); have n2_ := Aside0.mk (hi); clear HK; clear HB; clear HI0; have HK := n0_; have HB := n1_; have HI0 := n2_; clear n0_ n1_ n2_; (try clear hb); (try clear hb2); (try clear hk); (try clear hi)) | ((with_reducible refine gate_callee (f := 15) rfl ?_); refine gl_ (some 12) Tryd.func15 #[.pointer (some ⟨g, 0, none⟩), .int .i64 6] ?_; (with_reducible refine (spec_l1Below.calls g s0_0 t125 t126 6 t127 t128 t129 w0 _ ?side1 ?side2 A4.out).mono ?_); (case side1 => exact tb87_); (case side2 => exact t2e7_); rintro e w9 ⟨rfl, hi, hb, hk⟩; refine ⟨_, rfl, ?_⟩; have n0_ := Aside0.mk (KeepBut.trans (t1d6_) hk (.inl rfl)); have n1_ := Aside0.mk (hb); have n2_ := Aside0.mk (hi); clear HK; clear HB; clear HI0; have HK := n0_; have HB := n1_; have HI0 := n2_; clear n0_ n1_ n2_; (try clear hb); (try clear hb2); (try clear hk); (try clear hi)))
    go_ret
    exact ⟨by first | rfl | (simp [errW_none, errW_some] <;> rfl) | (simp [*, errW_none, errW_some] <;> rfl), tb87_, t2e7_, t1d6_⟩
   ·
    rw [if_neg c7] at H
    exact absurd H (by simp)
  ·
   rw [if_neg c6] at H
   exact absurd H (by simp)
 ·
  rw [if_neg c5] at H
  have c5b0 : (t127 == 0) = false := beq_eq_false_iff_ne.mpr c5
  have c5b1 : (t127 != 0) = true := bne_iff_ne.mpr c5
  by_cases c10 : t127 = 1
  ·
   rw [if_pos c10] at H
   have c10b0 : (t127 == 1) = true := beq_iff_eq.mpr c10
   have c10b1 : (t127 != 1) = false := bne_eq_false_iff_eq.mpr c10
   clear c10
   by_cases c11 : 0 ≤ t124
   ·
    rw [if_pos c11] at H
    have c11b0 := eq_true c11
    have c11b1 : decide (0 ≤ t124) = true := decide_eq_true c11
    clear c11
    by_cases c12 : t124 ≤ (a1.size : Int)
    ·
     rw [if_pos c12] at H
     have c12b0 := eq_true c12
     have c12b1 : decide (t124 ≤ (a1.size : Int)) = true := decide_eq_true c12
     clear c12
     obtain ⟨y130, hy130⟩ : ∃ y_ : List ByteArray, y_ = (([(⟨#[32]⟩ : ByteArray), (⟨#[59]⟩ : ByteArray), (⟨#[40]⟩ : ByteArray), (⟨#[125]⟩ : ByteArray), (⟨#[123]⟩ : ByteArray), (⟨#[34]⟩ : ByteArray), (⟨#[48]⟩ : ByteArray), (⟨#[120]⟩ : ByteArray), (⟨#[35]⟩ : ByteArray), (⟨#[61]⟩ : ByteArray), (⟨#[61, 61]⟩ : ByteArray), (⟨#[108, 101, 116]⟩ : ByteArray), (⟨#[46]⟩ : ByteArray), (⟨#[45]⟩ : ByteArray), (⟨#[33]⟩ : ByteArray), (⟨#[1]⟩ : ByteArray)] : List ByteArray)) := ⟨_, rfl⟩
     replace H : ((spec_l1Pick.f s0_0 t128 t129 y130).bind fun bt133 => (if (a1.extract 0 (t124 : Int).toNat).size + bt133.1.size ≤ 9223372036854775807 then (if ((a1.extract 0 (t124 : Int).toNat) ++ bt133.1).size + (a1.extract (t124 : Int).toNat a1.size).size ≤ 9223372036854775807 then (some (((a1.extract 0 (t124 : Int).toNat) ++ bt133.1) ++ (a1.extract (t124 : Int).toNat a1.size), bt133.2.1, bt133.2.2)) else (none)) else (none))) = some (r1, r2, r3) := by first | (rw [hy130]; with_reducible exact H) | (have H2_ := (Option.bind_some _ _).symm.trans H; rw [hy130]; with_reducible exact H2_) | (have H2_ := (Option.bind_some _ _).symm.trans H; with_reducible exact H2_) | with_reducible exact H | (rw [hy130]; exact H) | exact H
     have Ny130 := Aside0.mk hy130
     clear hy130
     replace H := Option.bind_eq_some_iff.mp H
     obtain ⟨⟨t133, t134, t135⟩, A130, H⟩ := H
     replace H : (if (a1.extract 0 (t124 : Int).toNat).size + t133.size ≤ 9223372036854775807 then (if ((a1.extract 0 (t124 : Int).toNat) ++ t133).size + (a1.extract (t124 : Int).toNat a1.size).size ≤ 9223372036854775807 then (some (((a1.extract 0 (t124 : Int).toNat) ++ t133) ++ (a1.extract (t124 : Int).toNat a1.size), t134, t135)) else (none)) else (none)) = some (r1, r2, r3) := H
     have A13 := Aside0.mk A130
     clear A130
     by_cases c14 : (a1.extract 0 (t124 : Int).toNat).size + t133.size ≤ 9223372036854775807
     ·
      rw [if_pos c14] at H
      have c14b0 := eq_true c14
      try have c14z8 : (9223372036854775807 < (t124 : Int).toNat + t133.size) = False := eq_false (Nat.not_lt.2 (by have h_ := c14; simp only [ByteArray.size_append, ByteArray.size_extract] at h_; have h7_0 : (t124 : Int) ≤ (a1.size : Int) := of_decide_eq_true (by first | (with_reducible assumption) | assumption); omega))
      have c14b1 : decide ((a1.extract 0 (t124 : Int).toNat).size + t133.size ≤ 9223372036854775807) = true := decide_eq_true c14
      try have c14b2 : (9223372036854775807 < (a1.extract 0 (t124 : Int).toNat).size + t133.size) = False := eq_false (Nat.not_lt.2 c14)
      have c15b0 := eq_true (of_decide_eq_true (by first | (with_reducible assumption) | assumption) : 0 ≤ t124)
      have c16b0 := eq_true (of_decide_eq_true (by first | (with_reducible assumption) | assumption) : t124 ≤ (a1.size : Int))
      by_cases c17 : ((a1.extract 0 (t124 : Int).toNat) ++ t133).size + (a1.extract (t124 : Int).toNat a1.size).size ≤ 9223372036854775807
      ·
       rw [if_pos c17] at H
       have c17b0 := eq_true c17
       try have c17z1 : decide ((a1.extract 0 (t124 : Int).toNat).size + t133.size + (a1.extract (t124 : Int).toNat a1.size).size ≤ 9223372036854775807) = true := decide_eq_true (by have h_ := c17; simp only [ByteArray.size_append] at h_; exact h_)
       try have c17z2 : (9223372036854775807 < (a1.extract 0 (t124 : Int).toNat).size + t133.size + (a1.extract (t124 : Int).toNat a1.size).size) = False := eq_false (Nat.not_lt.2 (by have h_ := c17; simp only [ByteArray.size_append] at h_; exact h_))
       try have c17z8 : (9223372036854775807 < (t124 : Int).toNat + t133.size + (a1.size - (t124 : Int).toNat)) = False := eq_false (Nat.not_lt.2 (by have h_ := c17; simp only [ByteArray.size_append, ByteArray.size_extract] at h_; have h7_0 : (t124 : Int) ≤ (a1.size : Int) := of_decide_eq_true (by first | (with_reducible assumption) | assumption); omega))
       have c17b1 : decide (((a1.extract 0 (t124 : Int).toNat) ++ t133).size + (a1.extract (t124 : Int).toNat a1.size).size ≤ 9223372036854775807) = true := decide_eq_true c17
       try have c17b2 : (9223372036854775807 < ((a1.extract 0 (t124 : Int).toNat) ++ t133).size + (a1.extract (t124 : Int).toNat a1.size).size) = False := eq_false (Nat.not_lt.2 c17)
       simp only [Option.some.injEq, Prod.mk.injEq] at H
       obtain ⟨rfl, rfl, rfl⟩ := H
       go_enter Tryd.func12, Tryd.ntmps12
       try go_wp2_with (first | ((with_reducible refine gate_callee (f := 15) rfl ?_); refine gl_ (some 10) Tryd.func15 #[.pointer (some ⟨g, 0, none⟩), .int .i64 (wrap64 ((a1.size : Int) + 1))] ?_; (with_reducible refine (spec_l1Below.calls g s0_0 s0_1 s0_2 (wrap64 ((a1.size : Int) + 1)) t124 t125 t126 w0 _ ?side1 ?side2 A3.out).mono ?_); (case side1 => exact tb87_); (case side2 => exact t2e7_); rintro e w18 ⟨rfl, hi, hb, hk⟩; refine ⟨_, rfl, ?_⟩; have n0_ := Aside0.mk (KeepBut.trans (t1d6_) hk (.inl rfl)); have n1_ := Aside0.mk (hb); have n2_ := Aside0.mk (hi); clear HK; clear HB; clear HI0; have HK := n0_; have HB := n1_; have HI0 := n2_; clear n0_ n1_ n2_; (try clear hb); (try clear hb2); (try clear hk); (try clear hi)) | ((with_reducible refine gate_callee (f := 15) rfl ?_); refine gl_ (some 12) Tryd.func15 #[.pointer (some ⟨g, 0, none⟩), .int .i64 6] ?_; (with_reducible refine (spec_l1Below.calls g s0_0 t125 t126 6 t127 t128 t129 w0 _ ?side1 ?side2 A4.out).mono ?_); (case side1 => exact tb87_); (case side2 => exact t2e7_); rintro e w19 ⟨rfl, hi, hb, hk⟩; refine ⟨_, rfl, ?_⟩; have n0_ := Aside0.mk (KeepBut.trans (t1d6_) hk (.inl rfl)); have n1_ := Aside0.mk (hb); have n2_ := Aside0.mk (hi); clear HK; clear HB; clear HI0; have HK := n0_; have HB := n1_; have HI0 := n2_; clear n0_ n1_ n2_; (try clear hb); (try clear hb2); (try clear hk); (try clear hi)))
       have n0_ := Aside0.mk (IsS46.drew HI0.out)
       have n1_ := Aside0.mk (keep_drew HK.out)
       have n2_ := Aside0.mk (below_drew1 HB.out)
       clear HI0
       clear HK
       clear HB
       have HI0 := n0_
       have HK := n1_
       have HB := n2_
       clear n0_ n1_ n2_
       refine start_ (n := 12) (S := fun w' => True) (ds := []) (Array.replicate 12 false) (by kernel_rfl) rfl rfl trivial (fun hHeld => ?_); refine with_tabW spec_l11Dent.tab6 spec_l11Dent.bits6 (fun HT_ HW_ => ?_)
       generalize w19.drew = w20 at HI0 HK HB hHeld ⊢
       refine pv_ 0 (some 20) (bm 12 1) ?_
       refine pv_ 1 (some 21) (bm 12 3) ?_
       refine pv_ 2 (some 22) (bm 12 7) ?_
       refine pv_ 3 (some 23) (bm 12 15) ?_
       refine pv_ 7 (some 27) (bm 12 143) ?_
       refine pv_ 8 (some 28) (bm 12 399) ?_
       refine pv_ 9 (some 29) (bm 12 911) ?_
       refine one_ (i := 4) (N := some 24) (bm 12 927) rfl rfl (one_of HT_.out (by kernel_rfl)) (by decide) (fun K hK => ?_)
       refine Kd.R_lit_step Kd.string _ 9 ?hg (N := 24) ?hd (xs := ([(⟨#[32]⟩ : ByteArray), (⟨#[59]⟩ : ByteArray), (⟨#[40]⟩ : ByteArray), (⟨#[125]⟩ : ByteArray), (⟨#[123]⟩ : ByteArray), (⟨#[34]⟩ : ByteArray), (⟨#[48]⟩ : ByteArray), (⟨#[120]⟩ : ByteArray), (⟨#[35]⟩ : ByteArray), (⟨#[61]⟩ : ByteArray), (⟨#[61, 61]⟩ : ByteArray), (⟨#[108, 101, 116]⟩ : ByteArray), (⟨#[46]⟩ : ByteArray), (⟨#[45]⟩ : ByteArray), (⟨#[33]⟩ : ByteArray), (⟨#[1]⟩ : ByteArray)] : List ByteArray)) (inner := [.string (⟨#[32]⟩ : ByteArray), .string (⟨#[59]⟩ : ByteArray), .string (⟨#[40]⟩ : ByteArray), .string (⟨#[125]⟩ : ByteArray), .string (⟨#[123]⟩ : ByteArray), .string (⟨#[34]⟩ : ByteArray), .string (⟨#[48]⟩ : ByteArray), .string (⟨#[120]⟩ : ByteArray), .string (⟨#[35]⟩ : ByteArray), .string (⟨#[61]⟩ : ByteArray), .string (⟨#[61, 61]⟩ : ByteArray), .string (⟨#[108, 101, 116]⟩ : ByteArray), .string (⟨#[46]⟩ : ByteArray), .string (⟨#[45]⟩ : ByteArray), .string (⟨#[33]⟩ : ByteArray), .string (⟨#[1]⟩ : ByteArray)]) (ok := fun _ => True) (okp := fun _ => True) ?hr ?hp (fun _ hk => hk) trivial (Below.refl _ _) (Nat.le_refl _) (by simp) ?_; (case hd => rfl); (case hg => rfl); (case hr => first | (go_simp; done) | (go_simp; rfl)); (case hp => exact (Reps.one (show Kd.M Kd.string _ _ _ (⟨#[32]⟩ : ByteArray) [.string (⟨#[32]⟩ : ByteArray)] from rfl) (Reps.one (show Kd.M Kd.string _ _ _ (⟨#[59]⟩ : ByteArray) [.string (⟨#[59]⟩ : ByteArray)] from rfl) (Reps.one (show Kd.M Kd.string _ _ _ (⟨#[40]⟩ : ByteArray) [.string (⟨#[40]⟩ : ByteArray)] from rfl) (Reps.one (show Kd.M Kd.string _ _ _ (⟨#[125]⟩ : ByteArray) [.string (⟨#[125]⟩ : ByteArray)] from rfl) (Reps.one (show Kd.M Kd.string _ _ _ (⟨#[123]⟩ : ByteArray) [.string (⟨#[123]⟩ : ByteArray)] from rfl) (Reps.one (show Kd.M Kd.string _ _ _ (⟨#[34]⟩ : ByteArray) [.string (⟨#[34]⟩ : ByteArray)] from rfl) (Reps.one (show Kd.M Kd.string _ _ _ (⟨#[48]⟩ : ByteArray) [.string (⟨#[48]⟩ : ByteArray)] from rfl) (Reps.one (show Kd.M Kd.string _ _ _ (⟨#[120]⟩ : ByteArray) [.string (⟨#[120]⟩ : ByteArray)] from rfl) (Reps.one (show Kd.M Kd.string _ _ _ (⟨#[35]⟩ : ByteArray) [.string (⟨#[35]⟩ : ByteArray)] from rfl) (Reps.one (show Kd.M Kd.string _ _ _ (⟨#[61]⟩ : ByteArray) [.string (⟨#[61]⟩ : ByteArray)] from rfl) (Reps.one (show Kd.M Kd.string _ _ _ (⟨#[61, 61]⟩ : ByteArray) [.string (⟨#[61, 61]⟩ : ByteArray)] from rfl) (Reps.one (show Kd.M Kd.string _ _ _ (⟨#[108, 101, 116]⟩ : ByteArray) [.string (⟨#[108, 101, 116]⟩ : ByteArray)] from rfl) (Reps.one (show Kd.M Kd.string _ _ _ (⟨#[46]⟩ : ByteArray) [.string (⟨#[46]⟩ : ByteArray)] from rfl) (Reps.one (show Kd.M Kd.string _ _ _ (⟨#[45]⟩ : ByteArray) [.string (⟨#[45]⟩ : ByteArray)] from rfl) (Reps.one (show Kd.M Kd.string _ _ _ (⟨#[33]⟩ : ByteArray) [.string (⟨#[33]⟩ : ByteArray)] from rfl) (Reps.one (show Kd.M Kd.string _ _ _ (⟨#[1]⟩ : ByteArray) [.string (⟨#[1]⟩ : ByteArray)] from rfl) (Reps.none _ _))))))))))))))))))
       intro v131 w21 ho22 hb hg_ hnew_
       clear hg_ hnew_
       (first | rw [← Ny130.out] at ho22 | (simp only [Int.reduceToNat] at ho22; rw [← Ny130.out] at ho22))
       have n0_ := Aside0.mk (Kd.R_lower ho22 (keep_size (w := w) (g := g) (row := none) (t1d6_)))
       have n1_ := Aside0.mk (IsS46.below (tb87_) hb)
       have n2_ := Aside0.mk (KeepBut.trans (t1d6_) (KeepBut.of_below hb g none) (.inl rfl))
       have n3_ := Aside0.mk (below_step (t2e7_) hb)
       clear HI0
       clear HK
       clear HB
       have HO132 := n0_
       have HI0 := n1_
       have HK := n2_
       have HB := n3_
       clear n0_ n1_ n2_ n3_
       clear hb ho22
       obtain ⟨Ao23, co23, eo23⟩ := Kd.R_slice HO132.out
       (first | subst eo23 | (injection eo23 with f1_ f2_ f3_; have f4_ := f1_.symm; have f5_ := f3_.symm; clear f1_ f2_ f3_; subst f4_; subst f5_))
       refine hK.out _ _ trivial (fun hHeld => ?_)
       clear hK K
       refine norm_ (a' := ?_) ?_ ?_
       rotate_left
       ·
        show Act.put _ (some 24) _ = _
        simp only [Act.put, List.setIfInBounds_toArray, List.set_cons_zero, List.set_cons_succ, i64_w, i32_w]
        rfl
       refine one_ (i := 5) (N := some 25) (bm 12 959) rfl rfl (one_of HT_.out (by kernel_rfl)) (by decide) (fun K hK => ?_)
       refine goes_ Tryd.func19 (by kernel_rfl) rfl #[.pointer (some ⟨g, 0, none⟩), .slice Ao23 y130.length co23] (by rfl) rfl rfl (by (try simp only [List.map_toArray, List.map_cons, List.map_nil]); first | done | rfl | (simp only [List.length_drop, List.length_take]; rfl)) ?_
       with_reducible refine (spec_l1Pick.calls g s0_0 t128 t129 _ _ y130 t133 t134 t135 w0 _ ?side1 ?side2 ?side3 ?side4 ?side5 A13.out).mono ?_
       (case side1 => exact tb87_)
       (case side2 => exact t2e7_)
       (case side3 => repeat (first | exact (Kd.R_reads' HO132.out).2.2 | (with_reducible refine Kd.C_alloc ?_ _) | (with_reducible refine Kd.C_drewN ?_ _) | (with_reducible refine Kd.C_drew ?_)))
       (case side4 => exact (Kd.R_reads' HO132.out).2.1)
       (case side5 => exact far_slice (IsS46.own_ne HI0.out HO132.out (by decide)))
       rintro e w24 ⟨rfl, hi, hb, hk⟩
       refine ⟨_, rfl, ?_⟩
       have n0_ := Aside0.mk (Kd.R_mono (Kd.R_keep (IsS46.apart (show IsS46 w0 _ g s0_0 t128 t129 from tb87_) (tkR_ HO132.out) (by decide)) hk (fun _ h => h.2)) (fun _ h => h.1))
       have n1_ := Aside0.mk (KeepBut.trans (t1d6_) hk (.inl rfl))
       have n2_ := Aside0.mk (hb)
       have n3_ := Aside0.mk (hi)
       clear HO132
       clear HK
       clear HB
       clear HI0
       have HO132 := n0_
       have HK := n1_
       have HB := n2_
       have HI0 := n3_
       clear n0_ n1_ n2_ n3_
       (try clear hb)
       (try clear hb2)
       (try clear hk)
       (try clear hi)
       refine hK.out _ _ trivial (fun hHeld => ?_)
       clear hK K
       refine norm_ (a' := ?_) ?_ ?_
       rotate_left
       ·
        show Act.put _ (some 25) _ = _
        simp only [Act.put, List.setIfInBounds_toArray, List.set_cons_zero, List.set_cons_succ, i64_w, i32_w]
        rfl
       refine pv_ 6 (some 26) (bm 12 1023) ?_
       refine pv_ 10 (some 30) (bm 12 2047) ?_
       refine pv_ 11 (some 4) (bm 12 4095) ?_
       refine done_ (done_of HT_.out (by kernel_rfl)) ?_
       try go_wp2
       go_ret
       exact ⟨by first | rfl | (simp [errW_none, errW_some] <;> rfl) | (simp [*, errW_none, errW_some] <;> rfl), tb87_, t2e7_, t1d6_⟩
      ·
       rw [if_neg c17] at H
       exact absurd H (by simp)
     ·
      rw [if_neg c14] at H
      exact absurd H (by simp)
    ·
     rw [if_neg c12] at H
     exact absurd H (by simp)
   ·
    rw [if_neg c11] at H
    exact absurd H (by simp)
  ·
   rw [if_neg c10] at H
   have c10b0 : (t127 == 1) = false := beq_eq_false_iff_ne.mpr c10
   have c10b1 : (t127 != 1) = true := bne_iff_ne.mpr c10
   simp only [Option.some.injEq, Prod.mk.injEq] at H
   obtain ⟨rfl, rfl, rfl⟩ := H
   go_enter Tryd.func12, Tryd.ntmps12
   go_wp2_with (first | ((with_reducible refine gate_callee (f := 15) rfl ?_); refine gl_ (some 10) Tryd.func15 #[.pointer (some ⟨g, 0, none⟩), .int .i64 (wrap64 ((a1.size : Int) + 1))] ?_; (with_reducible refine (spec_l1Below.calls g s0_0 s0_1 s0_2 (wrap64 ((a1.size : Int) + 1)) t124 t125 t126 w0 _ ?side1 ?side2 A3.out).mono ?_); (case side1 => exact tb87_); (case side2 => exact t2e7_); rintro e w25 ⟨rfl, hi, hb, hk⟩; refine ⟨_, rfl, ?_⟩; have n0_ := Aside0.mk (KeepBut.trans (t1d6_) hk (.inl rfl)); have n1_ := Aside0.mk (hb); have n2_ := Aside0.mk (hi); clear HK; clear HB; clear HI0; have HK := n0_; have HB := n1_; have HI0 := n2_; clear n0_ n1_ n2_; (try clear hb); (try clear hb2); (try clear hk); (try clear hi)) | ((with_reducible refine gate_callee (f := 15) rfl ?_); refine gl_ (some 12) Tryd.func15 #[.pointer (some ⟨g, 0, none⟩), .int .i64 6] ?_; (with_reducible refine (spec_l1Below.calls g s0_0 t125 t126 6 t127 t128 t129 w0 _ ?side1 ?side2 A4.out).mono ?_); (case side1 => exact tb87_); (case side2 => exact t2e7_); rintro e w26 ⟨rfl, hi, hb, hk⟩; refine ⟨_, rfl, ?_⟩; have n0_ := Aside0.mk (KeepBut.trans (t1d6_) hk (.inl rfl)); have n1_ := Aside0.mk (hb); have n2_ := Aside0.mk (hi); clear HK; clear HB; clear HI0; have HK := n0_; have HB := n1_; have HI0 := n2_; clear n0_ n1_ n2_; (try clear hb); (try clear hb2); (try clear hk); (try clear hi)))
   go_ret
   exact ⟨by first | rfl | (simp [errW_none, errW_some] <;> rfl) | (simp [*, errW_none, errW_some] <;> rfl), tb87_, t2e7_, t1d6_⟩

/-! ### spec_l11Programs: function 21 -/
def spec_l11Programs.f  : Option (List ByteArray) := some (([(⟨#[108, 101, 116, 32, 120, 32, 61, 32, 53, 59, 10, 112, 114, 105, 110, 116, 32, 120, 32, 43, 32, 50, 32, 42, 32, 51, 59, 10]⟩ : ByteArray), (⟨#[108, 101, 116, 32, 102, 32, 61, 32, 102, 117, 110, 99, 116, 105, 111, 110, 40, 97, 44, 32, 98, 41, 32, 123, 32, 114, 101, 116, 117, 114, 110, 32, 97, 32, 43, 32, 98, 59, 32, 125, 59, 10, 112, 114, 105, 110, 116, 32, 102, 40, 49, 44, 32, 50, 41, 59, 10, 112, 114, 105, 110, 116, 32, 102, 40, 34, 97, 34, 44, 32, 34, 98, 34, 41, 59, 10]⟩ : ByteArray), (⟨#[108, 101, 116, 32, 111, 32, 61, 32, 123, 97, 58, 32, 49, 44, 32, 98, 58, 32, 123, 99, 58, 32, 50, 125, 125, 59, 10, 111, 46, 100, 32, 61, 32, 111, 46, 97, 32, 43, 32, 111, 46, 98, 46, 99, 59, 10, 112, 114, 105, 110, 116, 32, 111, 46, 100, 59, 10, 112, 114, 105, 110, 116, 32, 111, 46, 122, 122, 59, 10]⟩ : ByteArray), (⟨#[108, 101, 116, 32, 105, 32, 61, 32, 48, 59, 10, 108, 101, 116, 32, 115, 32, 61, 32, 34, 34, 59, 10, 119, 104, 105, 108, 101, 32, 40, 105, 32, 60, 32, 52, 41, 32, 123, 32, 115, 32, 61, 32, 115, 32, 43, 32, 34, 120, 34, 59, 32, 105, 32, 61, 32, 105, 32, 43, 32, 49, 59, 32, 112, 114, 105, 110, 116, 32, 115, 59, 32, 125, 10]⟩ : ByteArray), (⟨#[108, 101, 116, 32, 112, 32, 61, 32, 123, 110, 58, 32, 55, 125, 59, 10, 108, 101, 116, 32, 113, 32, 61, 32, 123, 125, 59, 10, 113, 46, 112, 114, 111, 116, 111, 32, 61, 32, 112, 59, 10, 112, 114, 105, 110, 116, 32, 113, 46, 110, 59, 10, 113, 46, 110, 32, 61, 32, 56, 59, 10, 112, 114, 105, 110, 116, 32, 112, 46, 110, 59, 10, 112, 114, 105, 110, 116, 32, 113, 46, 112, 114, 111, 116, 111, 32, 61, 61, 32, 112, 59, 10]⟩ : ByteArray), (⟨#[108, 101, 116, 32, 99, 32, 61, 32, 102, 117, 110, 99, 116, 105, 111, 110, 40, 41, 32, 123, 32, 108, 101, 116, 32, 110, 32, 61, 32, 48, 59, 32, 114, 101, 116, 117, 114, 110, 32, 102, 117, 110, 99, 116, 105, 111, 110, 40, 41, 32, 123, 32, 110, 32, 61, 32, 110, 32, 43, 32, 49, 59, 32, 114, 101, 116, 117, 114, 110, 32, 110, 59, 32, 125, 59, 32, 125, 59, 10, 108, 101, 116, 32, 100, 32, 61, 32, 99, 40, 41, 59, 10, 100, 40, 41, 59, 10, 112, 114, 105, 110, 116, 32, 100, 40, 41, 59, 10, 112, 114, 105, 110, 116, 32, 99, 40, 41, 40, 41, 59, 10]⟩ : ByteArray), (⟨#[108, 101, 116, 32, 108, 32, 61, 32, 110, 117, 108, 108, 59, 10, 108, 101, 116, 32, 105, 32, 61, 32, 48, 59, 10, 119, 104, 105, 108, 101, 32, 40, 105, 32, 60, 32, 54, 41, 32, 123, 32, 108, 32, 61, 32, 123, 118, 58, 32, 105, 44, 32, 110, 101, 120, 116, 58, 32, 108, 125, 59, 32, 105, 32, 61, 32, 105, 32, 43, 32, 49, 59, 32, 125, 10, 119, 104, 105, 108, 101, 32, 40, 33, 40, 108, 32, 61, 61, 32, 110, 117, 108, 108, 41, 41, 32, 123, 32, 112, 114, 105, 110, 116, 32, 108, 46, 118, 59, 32, 108, 32, 61, 32, 108, 46, 110, 101, 120, 116, 59, 32, 125, 10]⟩ : ByteArray), (⟨#[108, 101, 116, 32, 102, 32, 61, 32, 102, 117, 110, 99, 116, 105, 111, 110, 40, 110, 41, 32, 123, 32, 105, 102, 32, 40, 110, 32, 60, 32, 50, 41, 32, 123, 32, 114, 101, 116, 117, 114, 110, 32, 110, 59, 32, 125, 32, 101, 108, 115, 101, 32, 123, 32, 114, 101, 116, 117, 114, 110, 32, 102, 40, 110, 32, 45, 32, 49, 41, 32, 43, 32, 102, 40, 110, 32, 45, 32, 50, 41, 59, 32, 125, 32, 125, 59, 10, 112, 114, 105, 110, 116, 32, 102, 40, 54, 41, 59, 10]⟩ : ByteArray), (⟨#[108, 101, 116, 32, 97, 32, 61, 32, 123, 125, 59, 10, 97, 46, 112, 114, 111, 116, 111, 32, 61, 32, 97, 59, 10, 112, 114, 105, 110, 116, 32, 97, 46, 113, 59, 10, 112, 114, 105, 110, 116, 32, 49, 32, 60, 32, 34, 97, 34, 59, 10, 112, 114, 105, 110, 116, 32, 51, 59, 10]⟩ : ByteArray), (⟨#[108, 101, 116, 32, 105, 32, 61, 32, 48, 59, 10, 119, 104, 105, 108, 101, 32, 40, 105, 32, 60, 32, 51, 48, 41, 32, 123, 32, 108, 101, 116, 32, 111, 32, 61, 32, 123, 97, 58, 32, 123, 98, 58, 32, 105, 125, 125, 59, 32, 111, 46, 97, 46, 99, 32, 61, 32, 111, 59, 32, 105, 32, 61, 32, 105, 32, 43, 32, 49, 59, 32, 125, 10, 112, 114, 105, 110, 116, 32, 105, 59, 10]⟩ : ByteArray), (⟨#[112, 114, 105, 110, 116, 32, 45, 53, 32, 42, 32, 51, 32, 60, 32, 50, 59, 10, 112, 114, 105, 110, 116, 32, 33, 48, 59, 10, 112, 114, 105, 110, 116, 32, 117, 110, 100, 101, 102, 105, 110, 101, 100, 59, 10, 112, 114, 105, 110, 116, 32, 110, 117, 108, 108, 59, 10, 112, 114, 105, 110, 116, 32, 123, 125, 59, 10, 112, 114, 105, 110, 116, 32, 102, 117, 110, 99, 116, 105, 111, 110, 40, 41, 32, 123, 125, 59, 10]⟩ : ByteArray), (⟨#[108, 101, 116, 32, 102, 32, 61, 32, 102, 117, 110, 99, 116, 105, 111, 110, 40, 110, 41, 32, 123, 32, 114, 101, 116, 117, 114, 110, 32, 102, 40, 110, 32, 43, 32, 49, 41, 59, 32, 125, 59, 10, 102, 40, 48, 41, 59, 10]⟩ : ByteArray)] : List ByteArray))
set_option maxHeartbeats 8000000 in
set_option maxRecDepth 100000 in
theorem spec_l11Programs.calls  (r : List ByteArray) (w : World) (h : spec_l11Programs.f  = some r) :
  Calls Tryd.prog 21 #[] w fun e w' => ∃ v0_ : Value, e = .returned (v0_) ∧ Kd.R Kd.string 9 w' w.heap.size (fun _ => True) v0_ r ∧ Below w.heap.size w w' := by
 have HB := Aside0.mk (Below.refl w.heap.size w)
 have H : (some (([(⟨#[108, 101, 116, 32, 120, 32, 61, 32, 53, 59, 10, 112, 114, 105, 110, 116, 32, 120, 32, 43, 32, 50, 32, 42, 32, 51, 59, 10]⟩ : ByteArray), (⟨#[108, 101, 116, 32, 102, 32, 61, 32, 102, 117, 110, 99, 116, 105, 111, 110, 40, 97, 44, 32, 98, 41, 32, 123, 32, 114, 101, 116, 117, 114, 110, 32, 97, 32, 43, 32, 98, 59, 32, 125, 59, 10, 112, 114, 105, 110, 116, 32, 102, 40, 49, 44, 32, 50, 41, 59, 10, 112, 114, 105, 110, 116, 32, 102, 40, 34, 97, 34, 44, 32, 34, 98, 34, 41, 59, 10]⟩ : ByteArray), (⟨#[108, 101, 116, 32, 111, 32, 61, 32, 123, 97, 58, 32, 49, 44, 32, 98, 58, 32, 123, 99, 58, 32, 50, 125, 125, 59, 10, 111, 46, 100, 32, 61, 32, 111, 46, 97, 32, 43, 32, 111, 46, 98, 46, 99, 59, 10, 112, 114, 105, 110, 116, 32, 111, 46, 100, 59, 10, 112, 114, 105, 110, 116, 32, 111, 46, 122, 122, 59, 10]⟩ : ByteArray), (⟨#[108, 101, 116, 32, 105, 32, 61, 32, 48, 59, 10, 108, 101, 116, 32, 115, 32, 61, 32, 34, 34, 59, 10, 119, 104, 105, 108, 101, 32, 40, 105, 32, 60, 32, 52, 41, 32, 123, 32, 115, 32, 61, 32, 115, 32, 43, 32, 34, 120, 34, 59, 32, 105, 32, 61, 32, 105, 32, 43, 32, 49, 59, 32, 112, 114, 105, 110, 116, 32, 115, 59, 32, 125, 10]⟩ : ByteArray), (⟨#[108, 101, 116, 32, 112, 32, 61, 32, 123, 110, 58, 32, 55, 125, 59, 10, 108, 101, 116, 32, 113, 32, 61, 32, 123, 125, 59, 10, 113, 46, 112, 114, 111, 116, 111, 32, 61, 32, 112, 59, 10, 112, 114, 105, 110, 116, 32, 113, 46, 110, 59, 10, 113, 46, 110, 32, 61, 32, 56, 59, 10, 112, 114, 105, 110, 116, 32, 112, 46, 110, 59, 10, 112, 114, 105, 110, 116, 32, 113, 46, 112, 114, 111, 116, 111, 32, 61, 61, 32, 112, 59, 10]⟩ : ByteArray), (⟨#[108, 101, 116, 32, 99, 32, 61, 32, 102, 117, 110, 99, 116, 105, 111, 110, 40, 41, 32, 123, 32, 108, 101, 116, 32, 110, 32, 61, 32, 48, 59, 32, 114, 101, 116, 117, 114, 110, 32, 102, 117, 110, 99, 116, 105, 111, 110, 40, 41, 32, 123, 32, 110, 32, 61, 32, 110, 32, 43, 32, 49, 59, 32, 114, 101, 116, 117, 114, 110, 32, 110, 59, 32, 125, 59, 32, 125, 59, 10, 108, 101, 116, 32, 100, 32, 61, 32, 99, 40, 41, 59, 10, 100, 40, 41, 59, 10, 112, 114, 105, 110, 116, 32, 100, 40, 41, 59, 10, 112, 114, 105, 110, 116, 32, 99, 40, 41, 40, 41, 59, 10]⟩ : ByteArray), (⟨#[108, 101, 116, 32, 108, 32, 61, 32, 110, 117, 108, 108, 59, 10, 108, 101, 116, 32, 105, 32, 61, 32, 48, 59, 10, 119, 104, 105, 108, 101, 32, 40, 105, 32, 60, 32, 54, 41, 32, 123, 32, 108, 32, 61, 32, 123, 118, 58, 32, 105, 44, 32, 110, 101, 120, 116, 58, 32, 108, 125, 59, 32, 105, 32, 61, 32, 105, 32, 43, 32, 49, 59, 32, 125, 10, 119, 104, 105, 108, 101, 32, 40, 33, 40, 108, 32, 61, 61, 32, 110, 117, 108, 108, 41, 41, 32, 123, 32, 112, 114, 105, 110, 116, 32, 108, 46, 118, 59, 32, 108, 32, 61, 32, 108, 46, 110, 101, 120, 116, 59, 32, 125, 10]⟩ : ByteArray), (⟨#[108, 101, 116, 32, 102, 32, 61, 32, 102, 117, 110, 99, 116, 105, 111, 110, 40, 110, 41, 32, 123, 32, 105, 102, 32, 40, 110, 32, 60, 32, 50, 41, 32, 123, 32, 114, 101, 116, 117, 114, 110, 32, 110, 59, 32, 125, 32, 101, 108, 115, 101, 32, 123, 32, 114, 101, 116, 117, 114, 110, 32, 102, 40, 110, 32, 45, 32, 49, 41, 32, 43, 32, 102, 40, 110, 32, 45, 32, 50, 41, 59, 32, 125, 32, 125, 59, 10, 112, 114, 105, 110, 116, 32, 102, 40, 54, 41, 59, 10]⟩ : ByteArray), (⟨#[108, 101, 116, 32, 97, 32, 61, 32, 123, 125, 59, 10, 97, 46, 112, 114, 111, 116, 111, 32, 61, 32, 97, 59, 10, 112, 114, 105, 110, 116, 32, 97, 46, 113, 59, 10, 112, 114, 105, 110, 116, 32, 49, 32, 60, 32, 34, 97, 34, 59, 10, 112, 114, 105, 110, 116, 32, 51, 59, 10]⟩ : ByteArray), (⟨#[108, 101, 116, 32, 105, 32, 61, 32, 48, 59, 10, 119, 104, 105, 108, 101, 32, 40, 105, 32, 60, 32, 51, 48, 41, 32, 123, 32, 108, 101, 116, 32, 111, 32, 61, 32, 123, 97, 58, 32, 123, 98, 58, 32, 105, 125, 125, 59, 32, 111, 46, 97, 46, 99, 32, 61, 32, 111, 59, 32, 105, 32, 61, 32, 105, 32, 43, 32, 49, 59, 32, 125, 10, 112, 114, 105, 110, 116, 32, 105, 59, 10]⟩ : ByteArray), (⟨#[112, 114, 105, 110, 116, 32, 45, 53, 32, 42, 32, 51, 32, 60, 32, 50, 59, 10, 112, 114, 105, 110, 116, 32, 33, 48, 59, 10, 112, 114, 105, 110, 116, 32, 117, 110, 100, 101, 102, 105, 110, 101, 100, 59, 10, 112, 114, 105, 110, 116, 32, 110, 117, 108, 108, 59, 10, 112, 114, 105, 110, 116, 32, 123, 125, 59, 10, 112, 114, 105, 110, 116, 32, 102, 117, 110, 99, 116, 105, 111, 110, 40, 41, 32, 123, 125, 59, 10]⟩ : ByteArray), (⟨#[108, 101, 116, 32, 102, 32, 61, 32, 102, 117, 110, 99, 116, 105, 111, 110, 40, 110, 41, 32, 123, 32, 114, 101, 116, 117, 114, 110, 32, 102, 40, 110, 32, 43, 32, 49, 41, 59, 32, 125, 59, 10, 102, 40, 48, 41, 59, 10]⟩ : ByteArray)] : List ByteArray))) = some r := h
 clear h
 obtain ⟨y136, hy136⟩ : ∃ y_ : List ByteArray, y_ = (([(⟨#[108, 101, 116, 32, 120, 32, 61, 32, 53, 59, 10, 112, 114, 105, 110, 116, 32, 120, 32, 43, 32, 50, 32, 42, 32, 51, 59, 10]⟩ : ByteArray), (⟨#[108, 101, 116, 32, 102, 32, 61, 32, 102, 117, 110, 99, 116, 105, 111, 110, 40, 97, 44, 32, 98, 41, 32, 123, 32, 114, 101, 116, 117, 114, 110, 32, 97, 32, 43, 32, 98, 59, 32, 125, 59, 10, 112, 114, 105, 110, 116, 32, 102, 40, 49, 44, 32, 50, 41, 59, 10, 112, 114, 105, 110, 116, 32, 102, 40, 34, 97, 34, 44, 32, 34, 98, 34, 41, 59, 10]⟩ : ByteArray), (⟨#[108, 101, 116, 32, 111, 32, 61, 32, 123, 97, 58, 32, 49, 44, 32, 98, 58, 32, 123, 99, 58, 32, 50, 125, 125, 59, 10, 111, 46, 100, 32, 61, 32, 111, 46, 97, 32, 43, 32, 111, 46, 98, 46, 99, 59, 10, 112, 114, 105, 110, 116, 32, 111, 46, 100, 59, 10, 112, 114, 105, 110, 116, 32, 111, 46, 122, 122, 59, 10]⟩ : ByteArray), (⟨#[108, 101, 116, 32, 105, 32, 61, 32, 48, 59, 10, 108, 101, 116, 32, 115, 32, 61, 32, 34, 34, 59, 10, 119, 104, 105, 108, 101, 32, 40, 105, 32, 60, 32, 52, 41, 32, 123, 32, 115, 32, 61, 32, 115, 32, 43, 32, 34, 120, 34, 59, 32, 105, 32, 61, 32, 105, 32, 43, 32, 49, 59, 32, 112, 114, 105, 110, 116, 32, 115, 59, 32, 125, 10]⟩ : ByteArray), (⟨#[108, 101, 116, 32, 112, 32, 61, 32, 123, 110, 58, 32, 55, 125, 59, 10, 108, 101, 116, 32, 113, 32, 61, 32, 123, 125, 59, 10, 113, 46, 112, 114, 111, 116, 111, 32, 61, 32, 112, 59, 10, 112, 114, 105, 110, 116, 32, 113, 46, 110, 59, 10, 113, 46, 110, 32, 61, 32, 56, 59, 10, 112, 114, 105, 110, 116, 32, 112, 46, 110, 59, 10, 112, 114, 105, 110, 116, 32, 113, 46, 112, 114, 111, 116, 111, 32, 61, 61, 32, 112, 59, 10]⟩ : ByteArray), (⟨#[108, 101, 116, 32, 99, 32, 61, 32, 102, 117, 110, 99, 116, 105, 111, 110, 40, 41, 32, 123, 32, 108, 101, 116, 32, 110, 32, 61, 32, 48, 59, 32, 114, 101, 116, 117, 114, 110, 32, 102, 117, 110, 99, 116, 105, 111, 110, 40, 41, 32, 123, 32, 110, 32, 61, 32, 110, 32, 43, 32, 49, 59, 32, 114, 101, 116, 117, 114, 110, 32, 110, 59, 32, 125, 59, 32, 125, 59, 10, 108, 101, 116, 32, 100, 32, 61, 32, 99, 40, 41, 59, 10, 100, 40, 41, 59, 10, 112, 114, 105, 110, 116, 32, 100, 40, 41, 59, 10, 112, 114, 105, 110, 116, 32, 99, 40, 41, 40, 41, 59, 10]⟩ : ByteArray), (⟨#[108, 101, 116, 32, 108, 32, 61, 32, 110, 117, 108, 108, 59, 10, 108, 101, 116, 32, 105, 32, 61, 32, 48, 59, 10, 119, 104, 105, 108, 101, 32, 40, 105, 32, 60, 32, 54, 41, 32, 123, 32, 108, 32, 61, 32, 123, 118, 58, 32, 105, 44, 32, 110, 101, 120, 116, 58, 32, 108, 125, 59, 32, 105, 32, 61, 32, 105, 32, 43, 32, 49, 59, 32, 125, 10, 119, 104, 105, 108, 101, 32, 40, 33, 40, 108, 32, 61, 61, 32, 110, 117, 108, 108, 41, 41, 32, 123, 32, 112, 114, 105, 110, 116, 32, 108, 46, 118, 59, 32, 108, 32, 61, 32, 108, 46, 110, 101, 120, 116, 59, 32, 125, 10]⟩ : ByteArray), (⟨#[108, 101, 116, 32, 102, 32, 61, 32, 102, 117, 110, 99, 116, 105, 111, 110, 40, 110, 41, 32, 123, 32, 105, 102, 32, 40, 110, 32, 60, 32, 50, 41, 32, 123, 32, 114, 101, 116, 117, 114, 110, 32, 110, 59, 32, 125, 32, 101, 108, 115, 101, 32, 123, 32, 114, 101, 116, 117, 114, 110, 32, 102, 40, 110, 32, 45, 32, 49, 41, 32, 43, 32, 102, 40, 110, 32, 45, 32, 50, 41, 59, 32, 125, 32, 125, 59, 10, 112, 114, 105, 110, 116, 32, 102, 40, 54, 41, 59, 10]⟩ : ByteArray), (⟨#[108, 101, 116, 32, 97, 32, 61, 32, 123, 125, 59, 10, 97, 46, 112, 114, 111, 116, 111, 32, 61, 32, 97, 59, 10, 112, 114, 105, 110, 116, 32, 97, 46, 113, 59, 10, 112, 114, 105, 110, 116, 32, 49, 32, 60, 32, 34, 97, 34, 59, 10, 112, 114, 105, 110, 116, 32, 51, 59, 10]⟩ : ByteArray), (⟨#[108, 101, 116, 32, 105, 32, 61, 32, 48, 59, 10, 119, 104, 105, 108, 101, 32, 40, 105, 32, 60, 32, 51, 48, 41, 32, 123, 32, 108, 101, 116, 32, 111, 32, 61, 32, 123, 97, 58, 32, 123, 98, 58, 32, 105, 125, 125, 59, 32, 111, 46, 97, 46, 99, 32, 61, 32, 111, 59, 32, 105, 32, 61, 32, 105, 32, 43, 32, 49, 59, 32, 125, 10, 112, 114, 105, 110, 116, 32, 105, 59, 10]⟩ : ByteArray), (⟨#[112, 114, 105, 110, 116, 32, 45, 53, 32, 42, 32, 51, 32, 60, 32, 50, 59, 10, 112, 114, 105, 110, 116, 32, 33, 48, 59, 10, 112, 114, 105, 110, 116, 32, 117, 110, 100, 101, 102, 105, 110, 101, 100, 59, 10, 112, 114, 105, 110, 116, 32, 110, 117, 108, 108, 59, 10, 112, 114, 105, 110, 116, 32, 123, 125, 59, 10, 112, 114, 105, 110, 116, 32, 102, 117, 110, 99, 116, 105, 111, 110, 40, 41, 32, 123, 125, 59, 10]⟩ : ByteArray), (⟨#[108, 101, 116, 32, 102, 32, 61, 32, 102, 117, 110, 99, 116, 105, 111, 110, 40, 110, 41, 32, 123, 32, 114, 101, 116, 117, 114, 110, 32, 102, 40, 110, 32, 43, 32, 49, 41, 59, 32, 125, 59, 10, 102, 40, 48, 41, 59, 10]⟩ : ByteArray)] : List ByteArray)) := ⟨_, rfl⟩
 replace H : (some y136) = some r := by first | (rw [hy136]; with_reducible exact H) | (have H2_ := (Option.bind_some _ _).symm.trans H; rw [hy136]; with_reducible exact H2_) | (have H2_ := (Option.bind_some _ _).symm.trans H; with_reducible exact H2_) | with_reducible exact H | (rw [hy136]; exact H) | exact H
 have Ny136 := Aside0.mk hy136
 clear hy136
 obtain rfl := Option.some.inj H
 go_enter Tryd.func21, Tryd.ntmps21
 go_wp2_with (first | ((with_reducible refine gate_dst (N := 1) rfl ?_); refine Kd.R_lit Kd.string _ 9 ?hg (N := 1) ?hd (xs := ([(⟨#[108, 101, 116, 32, 120, 32, 61, 32, 53, 59, 10, 112, 114, 105, 110, 116, 32, 120, 32, 43, 32, 50, 32, 42, 32, 51, 59, 10]⟩ : ByteArray), (⟨#[108, 101, 116, 32, 102, 32, 61, 32, 102, 117, 110, 99, 116, 105, 111, 110, 40, 97, 44, 32, 98, 41, 32, 123, 32, 114, 101, 116, 117, 114, 110, 32, 97, 32, 43, 32, 98, 59, 32, 125, 59, 10, 112, 114, 105, 110, 116, 32, 102, 40, 49, 44, 32, 50, 41, 59, 10, 112, 114, 105, 110, 116, 32, 102, 40, 34, 97, 34, 44, 32, 34, 98, 34, 41, 59, 10]⟩ : ByteArray), (⟨#[108, 101, 116, 32, 111, 32, 61, 32, 123, 97, 58, 32, 49, 44, 32, 98, 58, 32, 123, 99, 58, 32, 50, 125, 125, 59, 10, 111, 46, 100, 32, 61, 32, 111, 46, 97, 32, 43, 32, 111, 46, 98, 46, 99, 59, 10, 112, 114, 105, 110, 116, 32, 111, 46, 100, 59, 10, 112, 114, 105, 110, 116, 32, 111, 46, 122, 122, 59, 10]⟩ : ByteArray), (⟨#[108, 101, 116, 32, 105, 32, 61, 32, 48, 59, 10, 108, 101, 116, 32, 115, 32, 61, 32, 34, 34, 59, 10, 119, 104, 105, 108, 101, 32, 40, 105, 32, 60, 32, 52, 41, 32, 123, 32, 115, 32, 61, 32, 115, 32, 43, 32, 34, 120, 34, 59, 32, 105, 32, 61, 32, 105, 32, 43, 32, 49, 59, 32, 112, 114, 105, 110, 116, 32, 115, 59, 32, 125, 10]⟩ : ByteArray), (⟨#[108, 101, 116, 32, 112, 32, 61, 32, 123, 110, 58, 32, 55, 125, 59, 10, 108, 101, 116, 32, 113, 32, 61, 32, 123, 125, 59, 10, 113, 46, 112, 114, 111, 116, 111, 32, 61, 32, 112, 59, 10, 112, 114, 105, 110, 116, 32, 113, 46, 110, 59, 10, 113, 46, 110, 32, 61, 32, 56, 59, 10, 112, 114, 105, 110, 116, 32, 112, 46, 110, 59, 10, 112, 114, 105, 110, 116, 32, 113, 46, 112, 114, 111, 116, 111, 32, 61, 61, 32, 112, 59, 10]⟩ : ByteArray), (⟨#[108, 101, 116, 32, 99, 32, 61, 32, 102, 117, 110, 99, 116, 105, 111, 110, 40, 41, 32, 123, 32, 108, 101, 116, 32, 110, 32, 61, 32, 48, 59, 32, 114, 101, 116, 117, 114, 110, 32, 102, 117, 110, 99, 116, 105, 111, 110, 40, 41, 32, 123, 32, 110, 32, 61, 32, 110, 32, 43, 32, 49, 59, 32, 114, 101, 116, 117, 114, 110, 32, 110, 59, 32, 125, 59, 32, 125, 59, 10, 108, 101, 116, 32, 100, 32, 61, 32, 99, 40, 41, 59, 10, 100, 40, 41, 59, 10, 112, 114, 105, 110, 116, 32, 100, 40, 41, 59, 10, 112, 114, 105, 110, 116, 32, 99, 40, 41, 40, 41, 59, 10]⟩ : ByteArray), (⟨#[108, 101, 116, 32, 108, 32, 61, 32, 110, 117, 108, 108, 59, 10, 108, 101, 116, 32, 105, 32, 61, 32, 48, 59, 10, 119, 104, 105, 108, 101, 32, 40, 105, 32, 60, 32, 54, 41, 32, 123, 32, 108, 32, 61, 32, 123, 118, 58, 32, 105, 44, 32, 110, 101, 120, 116, 58, 32, 108, 125, 59, 32, 105, 32, 61, 32, 105, 32, 43, 32, 49, 59, 32, 125, 10, 119, 104, 105, 108, 101, 32, 40, 33, 40, 108, 32, 61, 61, 32, 110, 117, 108, 108, 41, 41, 32, 123, 32, 112, 114, 105, 110, 116, 32, 108, 46, 118, 59, 32, 108, 32, 61, 32, 108, 46, 110, 101, 120, 116, 59, 32, 125, 10]⟩ : ByteArray), (⟨#[108, 101, 116, 32, 102, 32, 61, 32, 102, 117, 110, 99, 116, 105, 111, 110, 40, 110, 41, 32, 123, 32, 105, 102, 32, 40, 110, 32, 60, 32, 50, 41, 32, 123, 32, 114, 101, 116, 117, 114, 110, 32, 110, 59, 32, 125, 32, 101, 108, 115, 101, 32, 123, 32, 114, 101, 116, 117, 114, 110, 32, 102, 40, 110, 32, 45, 32, 49, 41, 32, 43, 32, 102, 40, 110, 32, 45, 32, 50, 41, 59, 32, 125, 32, 125, 59, 10, 112, 114, 105, 110, 116, 32, 102, 40, 54, 41, 59, 10]⟩ : ByteArray), (⟨#[108, 101, 116, 32, 97, 32, 61, 32, 123, 125, 59, 10, 97, 46, 112, 114, 111, 116, 111, 32, 61, 32, 97, 59, 10, 112, 114, 105, 110, 116, 32, 97, 46, 113, 59, 10, 112, 114, 105, 110, 116, 32, 49, 32, 60, 32, 34, 97, 34, 59, 10, 112, 114, 105, 110, 116, 32, 51, 59, 10]⟩ : ByteArray), (⟨#[108, 101, 116, 32, 105, 32, 61, 32, 48, 59, 10, 119, 104, 105, 108, 101, 32, 40, 105, 32, 60, 32, 51, 48, 41, 32, 123, 32, 108, 101, 116, 32, 111, 32, 61, 32, 123, 97, 58, 32, 123, 98, 58, 32, 105, 125, 125, 59, 32, 111, 46, 97, 46, 99, 32, 61, 32, 111, 59, 32, 105, 32, 61, 32, 105, 32, 43, 32, 49, 59, 32, 125, 10, 112, 114, 105, 110, 116, 32, 105, 59, 10]⟩ : ByteArray), (⟨#[112, 114, 105, 110, 116, 32, 45, 53, 32, 42, 32, 51, 32, 60, 32, 50, 59, 10, 112, 114, 105, 110, 116, 32, 33, 48, 59, 10, 112, 114, 105, 110, 116, 32, 117, 110, 100, 101, 102, 105, 110, 101, 100, 59, 10, 112, 114, 105, 110, 116, 32, 110, 117, 108, 108, 59, 10, 112, 114, 105, 110, 116, 32, 123, 125, 59, 10, 112, 114, 105, 110, 116, 32, 102, 117, 110, 99, 116, 105, 111, 110, 40, 41, 32, 123, 125, 59, 10]⟩ : ByteArray), (⟨#[108, 101, 116, 32, 102, 32, 61, 32, 102, 117, 110, 99, 116, 105, 111, 110, 40, 110, 41, 32, 123, 32, 114, 101, 116, 117, 114, 110, 32, 102, 40, 110, 32, 43, 32, 49, 41, 59, 32, 125, 59, 10, 102, 40, 48, 41, 59, 10]⟩ : ByteArray)] : List ByteArray)) (inner := [.string (⟨#[108, 101, 116, 32, 120, 32, 61, 32, 53, 59, 10, 112, 114, 105, 110, 116, 32, 120, 32, 43, 32, 50, 32, 42, 32, 51, 59, 10]⟩ : ByteArray), .string (⟨#[108, 101, 116, 32, 102, 32, 61, 32, 102, 117, 110, 99, 116, 105, 111, 110, 40, 97, 44, 32, 98, 41, 32, 123, 32, 114, 101, 116, 117, 114, 110, 32, 97, 32, 43, 32, 98, 59, 32, 125, 59, 10, 112, 114, 105, 110, 116, 32, 102, 40, 49, 44, 32, 50, 41, 59, 10, 112, 114, 105, 110, 116, 32, 102, 40, 34, 97, 34, 44, 32, 34, 98, 34, 41, 59, 10]⟩ : ByteArray), .string (⟨#[108, 101, 116, 32, 111, 32, 61, 32, 123, 97, 58, 32, 49, 44, 32, 98, 58, 32, 123, 99, 58, 32, 50, 125, 125, 59, 10, 111, 46, 100, 32, 61, 32, 111, 46, 97, 32, 43, 32, 111, 46, 98, 46, 99, 59, 10, 112, 114, 105, 110, 116, 32, 111, 46, 100, 59, 10, 112, 114, 105, 110, 116, 32, 111, 46, 122, 122, 59, 10]⟩ : ByteArray), .string (⟨#[108, 101, 116, 32, 105, 32, 61, 32, 48, 59, 10, 108, 101, 116, 32, 115, 32, 61, 32, 34, 34, 59, 10, 119, 104, 105, 108, 101, 32, 40, 105, 32, 60, 32, 52, 41, 32, 123, 32, 115, 32, 61, 32, 115, 32, 43, 32, 34, 120, 34, 59, 32, 105, 32, 61, 32, 105, 32, 43, 32, 49, 59, 32, 112, 114, 105, 110, 116, 32, 115, 59, 32, 125, 10]⟩ : ByteArray), .string (⟨#[108, 101, 116, 32, 112, 32, 61, 32, 123, 110, 58, 32, 55, 125, 59, 10, 108, 101, 116, 32, 113, 32, 61, 32, 123, 125, 59, 10, 113, 46, 112, 114, 111, 116, 111, 32, 61, 32, 112, 59, 10, 112, 114, 105, 110, 116, 32, 113, 46, 110, 59, 10, 113, 46, 110, 32, 61, 32, 56, 59, 10, 112, 114, 105, 110, 116, 32, 112, 46, 110, 59, 10, 112, 114, 105, 110, 116, 32, 113, 46, 112, 114, 111, 116, 111, 32, 61, 61, 32, 112, 59, 10]⟩ : ByteArray), .string (⟨#[108, 101, 116, 32, 99, 32, 61, 32, 102, 117, 110, 99, 116, 105, 111, 110, 40, 41, 32, 123, 32, 108, 101, 116, 32, 110, 32, 61, 32, 48, 59, 32, 114, 101, 116, 117, 114, 110, 32, 102, 117, 110, 99, 116, 105, 111, 110, 40, 41, 32, 123, 32, 110, 32, 61, 32, 110, 32, 43, 32, 49, 59, 32, 114, 101, 116, 117, 114, 110, 32, 110, 59, 32, 125, 59, 32, 125, 59, 10, 108, 101, 116, 32, 100, 32, 61, 32, 99, 40, 41, 59, 10, 100, 40, 41, 59, 10, 112, 114, 105, 110, 116, 32, 100, 40, 41, 59, 10, 112, 114, 105, 110, 116, 32, 99, 40, 41, 40, 41, 59, 10]⟩ : ByteArray), .string (⟨#[108, 101, 116, 32, 108, 32, 61, 32, 110, 117, 108, 108, 59, 10, 108, 101, 116, 32, 105, 32, 61, 32, 48, 59, 10, 119, 104, 105, 108, 101, 32, 40, 105, 32, 60, 32, 54, 41, 32, 123, 32, 108, 32, 61, 32, 123, 118, 58, 32, 105, 44, 32, 110, 101, 120, 116, 58, 32, 108, 125, 59, 32, 105, 32, 61, 32, 105, 32, 43, 32, 49, 59, 32, 125, 10, 119, 104, 105, 108, 101, 32, 40, 33, 40, 108, 32, 61, 61, 32, 110, 117, 108, 108, 41, 41, 32, 123, 32, 112, 114, 105, 110, 116, 32, 108, 46, 118, 59, 32, 108, 32, 61, 32, 108, 46, 110, 101, 120, 116, 59, 32, 125, 10]⟩ : ByteArray), .string (⟨#[108, 101, 116, 32, 102, 32, 61, 32, 102, 117, 110, 99, 116, 105, 111, 110, 40, 110, 41, 32, 123, 32, 105, 102, 32, 40, 110, 32, 60, 32, 50, 41, 32, 123, 32, 114, 101, 116, 117, 114, 110, 32, 110, 59, 32, 125, 32, 101, 108, 115, 101, 32, 123, 32, 114, 101, 116, 117, 114, 110, 32, 102, 40, 110, 32, 45, 32, 49, 41, 32, 43, 32, 102, 40, 110, 32, 45, 32, 50, 41, 59, 32, 125, 32, 125, 59, 10, 112, 114, 105, 110, 116, 32, 102, 40, 54, 41, 59, 10]⟩ : ByteArray), .string (⟨#[108, 101, 116, 32, 97, 32, 61, 32, 123, 125, 59, 10, 97, 46, 112, 114, 111, 116, 111, 32, 61, 32, 97, 59, 10, 112, 114, 105, 110, 116, 32, 97, 46, 113, 59, 10, 112, 114, 105, 110, 116, 32, 49, 32, 60, 32, 34, 97, 34, 59, 10, 112, 114, 105, 110, 116, 32, 51, 59, 10]⟩ : ByteArray), .string (⟨#[108, 101, 116, 32, 105, 32, 61, 32, 48, 59, 10, 119, 104, 105, 108, 101, 32, 40, 105, 32, 60, 32, 51, 48, 41, 32, 123, 32, 108, 101, 116, 32, 111, 32, 61, 32, 123, 97, 58, 32, 123, 98, 58, 32, 105, 125, 125, 59, 32, 111, 46, 97, 46, 99, 32, 61, 32, 111, 59, 32, 105, 32, 61, 32, 105, 32, 43, 32, 49, 59, 32, 125, 10, 112, 114, 105, 110, 116, 32, 105, 59, 10]⟩ : ByteArray), .string (⟨#[112, 114, 105, 110, 116, 32, 45, 53, 32, 42, 32, 51, 32, 60, 32, 50, 59, 10, 112, 114, 105, 110, 116, 32, 33, 48, 59, 10, 112, 114, 105, 110, 116, 32, 117, 110, 100, 101, 102, 105, 110, 101, 100, 59, 10, 112, 114, 105, 110, 116, 32, 110, 117, 108, 108, 59, 10, 112, 114, 105, 110, 116, 32, 123, 125, 59, 10, 112, 114, 105, 110, 116, 32, 102, 117, 110, 99, 116, 105, 111, 110, 40, 41, 32, 123, 125, 59, 10]⟩ : ByteArray), .string (⟨#[108, 101, 116, 32, 102, 32, 61, 32, 102, 117, 110, 99, 116, 105, 111, 110, 40, 110, 41, 32, 123, 32, 114, 101, 116, 117, 114, 110, 32, 102, 40, 110, 32, 43, 32, 49, 41, 59, 32, 125, 59, 10, 102, 40, 48, 41, 59, 10]⟩ : ByteArray)]) (ok := fun _ => True) (okp := fun _ => True) ?hr ?hp (fun _ hk => hk) trivial (Below.refl _ _) (Nat.le_refl _) (by simp) ?_; (case hd => rfl); (case hg => rfl); (case hr => first | (go_simp; done) | (go_simp; rfl)); (case hp => exact (Reps.one (show Kd.M Kd.string _ _ _ (⟨#[108, 101, 116, 32, 120, 32, 61, 32, 53, 59, 10, 112, 114, 105, 110, 116, 32, 120, 32, 43, 32, 50, 32, 42, 32, 51, 59, 10]⟩ : ByteArray) [.string (⟨#[108, 101, 116, 32, 120, 32, 61, 32, 53, 59, 10, 112, 114, 105, 110, 116, 32, 120, 32, 43, 32, 50, 32, 42, 32, 51, 59, 10]⟩ : ByteArray)] from rfl) (Reps.one (show Kd.M Kd.string _ _ _ (⟨#[108, 101, 116, 32, 102, 32, 61, 32, 102, 117, 110, 99, 116, 105, 111, 110, 40, 97, 44, 32, 98, 41, 32, 123, 32, 114, 101, 116, 117, 114, 110, 32, 97, 32, 43, 32, 98, 59, 32, 125, 59, 10, 112, 114, 105, 110, 116, 32, 102, 40, 49, 44, 32, 50, 41, 59, 10, 112, 114, 105, 110, 116, 32, 102, 40, 34, 97, 34, 44, 32, 34, 98, 34, 41, 59, 10]⟩ : ByteArray) [.string (⟨#[108, 101, 116, 32, 102, 32, 61, 32, 102, 117, 110, 99, 116, 105, 111, 110, 40, 97, 44, 32, 98, 41, 32, 123, 32, 114, 101, 116, 117, 114, 110, 32, 97, 32, 43, 32, 98, 59, 32, 125, 59, 10, 112, 114, 105, 110, 116, 32, 102, 40, 49, 44, 32, 50, 41, 59, 10, 112, 114, 105, 110, 116, 32, 102, 40, 34, 97, 34, 44, 32, 34, 98, 34, 41, 59, 10]⟩ : ByteArray)] from rfl) (Reps.one (show Kd.M Kd.string _ _ _ (⟨#[108, 101, 116, 32, 111, 32, 61, 32, 123, 97, 58, 32, 49, 44, 32, 98, 58, 32, 123, 99, 58, 32, 50, 125, 125, 59, 10, 111, 46, 100, 32, 61, 32, 111, 46, 97, 32, 43, 32, 111, 46, 98, 46, 99, 59, 10, 112, 114, 105, 110, 116, 32, 111, 46, 100, 59, 10, 112, 114, 105, 110, 116, 32, 111, 46, 122, 122, 59, 10]⟩ : ByteArray) [.string (⟨#[108, 101, 116, 32, 111, 32, 61, 32, 123, 97, 58, 32, 49, 44, 32, 98, 58, 32, 123, 99, 58, 32, 50, 125, 125, 59, 10, 111, 46, 100, 32, 61, 32, 111, 46, 97, 32, 43, 32, 111, 46, 98, 46, 99, 59, 10, 112, 114, 105, 110, 116, 32, 111, 46, 100, 59, 10, 112, 114, 105, 110, 116, 32, 111, 46, 122, 122, 59, 10]⟩ : ByteArray)] from rfl) (Reps.one (show Kd.M Kd.string _ _ _ (⟨#[108, 101, 116, 32, 105, 32, 61, 32, 48, 59, 10, 108, 101, 116, 32, 115, 32, 61, 32, 34, 34, 59, 10, 119, 104, 105, 108, 101, 32, 40, 105, 32, 60, 32, 52, 41, 32, 123, 32, 115, 32, 61, 32, 115, 32, 43, 32, 34, 120, 34, 59, 32, 105, 32, 61, 32, 105, 32, 43, 32, 49, 59, 32, 112, 114, 105, 110, 116, 32, 115, 59, 32, 125, 10]⟩ : ByteArray) [.string (⟨#[108, 101, 116, 32, 105, 32, 61, 32, 48, 59, 10, 108, 101, 116, 32, 115, 32, 61, 32, 34, 34, 59, 10, 119, 104, 105, 108, 101, 32, 40, 105, 32, 60, 32, 52, 41, 32, 123, 32, 115, 32, 61, 32, 115, 32, 43, 32, 34, 120, 34, 59, 32, 105, 32, 61, 32, 105, 32, 43, 32, 49, 59, 32, 112, 114, 105, 110, 116, 32, 115, 59, 32, 125, 10]⟩ : ByteArray)] from rfl) (Reps.one (show Kd.M Kd.string _ _ _ (⟨#[108, 101, 116, 32, 112, 32, 61, 32, 123, 110, 58, 32, 55, 125, 59, 10, 108, 101, 116, 32, 113, 32, 61, 32, 123, 125, 59, 10, 113, 46, 112, 114, 111, 116, 111, 32, 61, 32, 112, 59, 10, 112, 114, 105, 110, 116, 32, 113, 46, 110, 59, 10, 113, 46, 110, 32, 61, 32, 56, 59, 10, 112, 114, 105, 110, 116, 32, 112, 46, 110, 59, 10, 112, 114, 105, 110, 116, 32, 113, 46, 112, 114, 111, 116, 111, 32, 61, 61, 32, 112, 59, 10]⟩ : ByteArray) [.string (⟨#[108, 101, 116, 32, 112, 32, 61, 32, 123, 110, 58, 32, 55, 125, 59, 10, 108, 101, 116, 32, 113, 32, 61, 32, 123, 125, 59, 10, 113, 46, 112, 114, 111, 116, 111, 32, 61, 32, 112, 59, 10, 112, 114, 105, 110, 116, 32, 113, 46, 110, 59, 10, 113, 46, 110, 32, 61, 32, 56, 59, 10, 112, 114, 105, 110, 116, 32, 112, 46, 110, 59, 10, 112, 114, 105, 110, 116, 32, 113, 46, 112, 114, 111, 116, 111, 32, 61, 61, 32, 112, 59, 10]⟩ : ByteArray)] from rfl) (Reps.one (show Kd.M Kd.string _ _ _ (⟨#[108, 101, 116, 32, 99, 32, 61, 32, 102, 117, 110, 99, 116, 105, 111, 110, 40, 41, 32, 123, 32, 108, 101, 116, 32, 110, 32, 61, 32, 48, 59, 32, 114, 101, 116, 117, 114, 110, 32, 102, 117, 110, 99, 116, 105, 111, 110, 40, 41, 32, 123, 32, 110, 32, 61, 32, 110, 32, 43, 32, 49, 59, 32, 114, 101, 116, 117, 114, 110, 32, 110, 59, 32, 125, 59, 32, 125, 59, 10, 108, 101, 116, 32, 100, 32, 61, 32, 99, 40, 41, 59, 10, 100, 40, 41, 59, 10, 112, 114, 105, 110, 116, 32, 100, 40, 41, 59, 10, 112, 114, 105, 110, 116, 32, 99, 40, 41, 40, 41, 59, 10]⟩ : ByteArray) [.string (⟨#[108, 101, 116, 32, 99, 32, 61, 32, 102, 117, 110, 99, 116, 105, 111, 110, 40, 41, 32, 123, 32, 108, 101, 116, 32, 110, 32, 61, 32, 48, 59, 32, 114, 101, 116, 117, 114, 110, 32, 102, 117, 110, 99, 116, 105, 111, 110, 40, 41, 32, 123, 32, 110, 32, 61, 32, 110, 32, 43, 32, 49, 59, 32, 114, 101, 116, 117, 114, 110, 32, 110, 59, 32, 125, 59, 32, 125, 59, 10, 108, 101, 116, 32, 100, 32, 61, 32, 99, 40, 41, 59, 10, 100, 40, 41, 59, 10, 112, 114, 105, 110, 116, 32, 100, 40, 41, 59, 10, 112, 114, 105, 110, 116, 32, 99, 40, 41, 40, 41, 59, 10]⟩ : ByteArray)] from rfl) (Reps.one (show Kd.M Kd.string _ _ _ (⟨#[108, 101, 116, 32, 108, 32, 61, 32, 110, 117, 108, 108, 59, 10, 108, 101, 116, 32, 105, 32, 61, 32, 48, 59, 10, 119, 104, 105, 108, 101, 32, 40, 105, 32, 60, 32, 54, 41, 32, 123, 32, 108, 32, 61, 32, 123, 118, 58, 32, 105, 44, 32, 110, 101, 120, 116, 58, 32, 108, 125, 59, 32, 105, 32, 61, 32, 105, 32, 43, 32, 49, 59, 32, 125, 10, 119, 104, 105, 108, 101, 32, 40, 33, 40, 108, 32, 61, 61, 32, 110, 117, 108, 108, 41, 41, 32, 123, 32, 112, 114, 105, 110, 116, 32, 108, 46, 118, 59, 32, 108, 32, 61, 32, 108, 46, 110, 101, 120, 116, 59, 32, 125, 10]⟩ : ByteArray) [.string (⟨#[108, 101, 116, 32, 108, 32, 61, 32, 110, 117, 108, 108, 59, 10, 108, 101, 116, 32, 105, 32, 61, 32, 48, 59, 10, 119, 104, 105, 108, 101, 32, 40, 105, 32, 60, 32, 54, 41, 32, 123, 32, 108, 32, 61, 32, 123, 118, 58, 32, 105, 44, 32, 110, 101, 120, 116, 58, 32, 108, 125, 59, 32, 105, 32, 61, 32, 105, 32, 43, 32, 49, 59, 32, 125, 10, 119, 104, 105, 108, 101, 32, 40, 33, 40, 108, 32, 61, 61, 32, 110, 117, 108, 108, 41, 41, 32, 123, 32, 112, 114, 105, 110, 116, 32, 108, 46, 118, 59, 32, 108, 32, 61, 32, 108, 46, 110, 101, 120, 116, 59, 32, 125, 10]⟩ : ByteArray)] from rfl) (Reps.one (show Kd.M Kd.string _ _ _ (⟨#[108, 101, 116, 32, 102, 32, 61, 32, 102, 117, 110, 99, 116, 105, 111, 110, 40, 110, 41, 32, 123, 32, 105, 102, 32, 40, 110, 32, 60, 32, 50, 41, 32, 123, 32, 114, 101, 116, 117, 114, 110, 32, 110, 59, 32, 125, 32, 101, 108, 115, 101, 32, 123, 32, 114, 101, 116, 117, 114, 110, 32, 102, 40, 110, 32, 45, 32, 49, 41, 32, 43, 32, 102, 40, 110, 32, 45, 32, 50, 41, 59, 32, 125, 32, 125, 59, 10, 112, 114, 105, 110, 116, 32, 102, 40, 54, 41, 59, 10]⟩ : ByteArray) [.string (⟨#[108, 101, 116, 32, 102, 32, 61, 32, 102, 117, 110, 99, 116, 105, 111, 110, 40, 110, 41, 32, 123, 32, 105, 102, 32, 40, 110, 32, 60, 32, 50, 41, 32, 123, 32, 114, 101, 116, 117, 114, 110, 32, 110, 59, 32, 125, 32, 101, 108, 115, 101, 32, 123, 32, 114, 101, 116, 117, 114, 110, 32, 102, 40, 110, 32, 45, 32, 49, 41, 32, 43, 32, 102, 40, 110, 32, 45, 32, 50, 41, 59, 32, 125, 32, 125, 59, 10, 112, 114, 105, 110, 116, 32, 102, 40, 54, 41, 59, 10]⟩ : ByteArray)] from rfl) (Reps.one (show Kd.M Kd.string _ _ _ (⟨#[108, 101, 116, 32, 97, 32, 61, 32, 123, 125, 59, 10, 97, 46, 112, 114, 111, 116, 111, 32, 61, 32, 97, 59, 10, 112, 114, 105, 110, 116, 32, 97, 46, 113, 59, 10, 112, 114, 105, 110, 116, 32, 49, 32, 60, 32, 34, 97, 34, 59, 10, 112, 114, 105, 110, 116, 32, 51, 59, 10]⟩ : ByteArray) [.string (⟨#[108, 101, 116, 32, 97, 32, 61, 32, 123, 125, 59, 10, 97, 46, 112, 114, 111, 116, 111, 32, 61, 32, 97, 59, 10, 112, 114, 105, 110, 116, 32, 97, 46, 113, 59, 10, 112, 114, 105, 110, 116, 32, 49, 32, 60, 32, 34, 97, 34, 59, 10, 112, 114, 105, 110, 116, 32, 51, 59, 10]⟩ : ByteArray)] from rfl) (Reps.one (show Kd.M Kd.string _ _ _ (⟨#[108, 101, 116, 32, 105, 32, 61, 32, 48, 59, 10, 119, 104, 105, 108, 101, 32, 40, 105, 32, 60, 32, 51, 48, 41, 32, 123, 32, 108, 101, 116, 32, 111, 32, 61, 32, 123, 97, 58, 32, 123, 98, 58, 32, 105, 125, 125, 59, 32, 111, 46, 97, 46, 99, 32, 61, 32, 111, 59, 32, 105, 32, 61, 32, 105, 32, 43, 32, 49, 59, 32, 125, 10, 112, 114, 105, 110, 116, 32, 105, 59, 10]⟩ : ByteArray) [.string (⟨#[108, 101, 116, 32, 105, 32, 61, 32, 48, 59, 10, 119, 104, 105, 108, 101, 32, 40, 105, 32, 60, 32, 51, 48, 41, 32, 123, 32, 108, 101, 116, 32, 111, 32, 61, 32, 123, 97, 58, 32, 123, 98, 58, 32, 105, 125, 125, 59, 32, 111, 46, 97, 46, 99, 32, 61, 32, 111, 59, 32, 105, 32, 61, 32, 105, 32, 43, 32, 49, 59, 32, 125, 10, 112, 114, 105, 110, 116, 32, 105, 59, 10]⟩ : ByteArray)] from rfl) (Reps.one (show Kd.M Kd.string _ _ _ (⟨#[112, 114, 105, 110, 116, 32, 45, 53, 32, 42, 32, 51, 32, 60, 32, 50, 59, 10, 112, 114, 105, 110, 116, 32, 33, 48, 59, 10, 112, 114, 105, 110, 116, 32, 117, 110, 100, 101, 102, 105, 110, 101, 100, 59, 10, 112, 114, 105, 110, 116, 32, 110, 117, 108, 108, 59, 10, 112, 114, 105, 110, 116, 32, 123, 125, 59, 10, 112, 114, 105, 110, 116, 32, 102, 117, 110, 99, 116, 105, 111, 110, 40, 41, 32, 123, 125, 59, 10]⟩ : ByteArray) [.string (⟨#[112, 114, 105, 110, 116, 32, 45, 53, 32, 42, 32, 51, 32, 60, 32, 50, 59, 10, 112, 114, 105, 110, 116, 32, 33, 48, 59, 10, 112, 114, 105, 110, 116, 32, 117, 110, 100, 101, 102, 105, 110, 101, 100, 59, 10, 112, 114, 105, 110, 116, 32, 110, 117, 108, 108, 59, 10, 112, 114, 105, 110, 116, 32, 123, 125, 59, 10, 112, 114, 105, 110, 116, 32, 102, 117, 110, 99, 116, 105, 111, 110, 40, 41, 32, 123, 125, 59, 10]⟩ : ByteArray)] from rfl) (Reps.one (show Kd.M Kd.string _ _ _ (⟨#[108, 101, 116, 32, 102, 32, 61, 32, 102, 117, 110, 99, 116, 105, 111, 110, 40, 110, 41, 32, 123, 32, 114, 101, 116, 117, 114, 110, 32, 102, 40, 110, 32, 43, 32, 49, 41, 59, 32, 125, 59, 10, 102, 40, 48, 41, 59, 10]⟩ : ByteArray) [.string (⟨#[108, 101, 116, 32, 102, 32, 61, 32, 102, 117, 110, 99, 116, 105, 111, 110, 40, 110, 41, 32, 123, 32, 114, 101, 116, 117, 114, 110, 32, 102, 40, 110, 32, 43, 32, 49, 41, 59, 32, 125, 59, 10, 102, 40, 48, 41, 59, 10]⟩ : ByteArray)] from rfl) (Reps.none _ _)))))))))))))); intro v137 w1 ho2 hb hg_ hnew_; clear hg_ hnew_; (first | rw [← Ny136.out] at ho2 | (simp only [Int.reduceToNat] at ho2; rw [← Ny136.out] at ho2)); have n0_ := Aside0.mk (Kd.R_lower ho2 (below_size (t0c4_))); have n1_ := Aside0.mk (below_step (t0c4_) hb); clear HB; have HO138 := n0_; have HB := n1_; clear n0_ n1_; clear hb ho2))
 go_ret
 exact ⟨_, by first | rfl | (simp [errW_none, errW_some] <;> rfl) | (simp [*, errW_none, errW_some] <;> rfl), by (with_reducible repeat (first | apply Kd.R_alloc | apply Kd.R_drewN | apply Kd.R_drew)); exact HO138.out, t0c4_⟩

/-! ### spec_l11DrawSource: function 13 -/
def spec_l11DrawSource.f (s0_0 : List Int) (s0_1 : Int) (s0_2 : Int) : Option (ByteArray × Int × Int) := (spec_l11Programs.f).bind fun t139 => ((spec_l1Pick.f s0_0 s0_1 s0_2 t139).bind fun bt142 => (some (bt142.1, bt142.2.1, bt142.2.2)))
set_option maxHeartbeats 8000000 in
set_option maxRecDepth 100000 in
theorem spec_l11DrawSource.calls (g : Nat) (s0_0 : List Int) (s0_1 : Int) (s0_2 : Int) (r1 : ByteArray) (r2 : Int) (r3 : Int) (w0 w : World) (hI : IsS46 w0 w g s0_0 s0_1 s0_2) (hB : Below w0.heap.size w0 w) (h : spec_l11DrawSource.f s0_0 s0_1 s0_2 = some (r1, r2, r3)) :
  Calls Tryd.prog 13 #[.pointer (some ⟨g, 0, none⟩)] w fun e w' => e = .returned (.string r1) ∧ IsS46 w0 w' g s0_0 r2 r3 ∧ Below w0.heap.size w0 w' ∧ KeepBut w w' g none := by
 have HI0 := Aside0.mk hI
 have HK := Aside0.mk (KeepBut.refl w g none)
 have HL := Aside0.mk hB.size
 clear hI
 have HW0 := Aside0.mk hB.size
 have HB := Aside0.mk hB
 clear hB
 have H : ((spec_l11Programs.f).bind fun t139 => ((spec_l1Pick.f s0_0 s0_1 s0_2 t139).bind fun bt142 => (some (bt142.1, bt142.2.1, bt142.2.2)))) = some (r1, r2, r3) := h
 clear h
 replace H := Option.bind_eq_some_iff.mp H
 obtain ⟨t139, A20, H⟩ := H
 have A2 := Aside0.mk A20
 clear A20
 replace H := Option.bind_eq_some_iff.mp H
 obtain ⟨⟨t142, t143, t144⟩, A30, H⟩ := H
 replace H : (some (t142, t143, t144)) = some (r1, r2, r3) := H
 have A3 := Aside0.mk A30
 clear A30
 simp only [Option.some.injEq, Prod.mk.injEq] at H
 obtain ⟨rfl, rfl, rfl⟩ := H
 go_enter Tryd.func13, Tryd.ntmps13
 go_wp2_with (first | ((with_reducible refine gate_callee (f := 21) rfl ?_); refine gl_ (some 4) Tryd.func21 #[] ?_; (with_reducible refine (spec_l11Programs.calls  t139 _ A2.out).mono ?_); rintro e w4 ⟨v140, rfl, ho0, hb⟩; refine ⟨_, rfl, ?_⟩; have n0_ := Aside0.mk (Kd.R_lower ho0 (keep_size (w := w) (g := g) (row := none) (t1d6_))); have n1_ := Aside0.mk (IsS46.below (tb87_) hb); have n2_ := Aside0.mk (KeepBut.trans (t1d6_) (KeepBut.of_below hb g none) (.inl rfl)); have n3_ := Aside0.mk (below_step (t2e7_) hb); clear HI0; clear HK; clear HB; have HO141 := n0_; have HI0 := n1_; have HK := n2_; have HB := n3_; clear n0_ n1_ n2_ n3_; (try clear hb); (try clear hb2); (try clear hk); (try clear hi); (try clear ho0); obtain ⟨Ao5, co5, eo5⟩ := Kd.R_slice HO141.out; subst eo5) | ((with_reducible refine gate_callee (f := 19) rfl ?_); refine gl_ (some 5) Tryd.func19 #[.pointer (some ⟨g, 0, none⟩), .slice Ao5 t139.length co5] ?_; (with_reducible refine (spec_l1Pick.calls g s0_0 s0_1 s0_2 _ _ t139 t142 t143 t144 w0 _ ?side1 ?side2 ?side3 ?side4 ?side5 A3.out).mono ?_); (case side1 => exact tb87_); (case side2 => exact t2e7_); (case side3 => repeat (first | exact (Kd.R_reads' HO141.out).2.2 | (with_reducible refine Kd.C_alloc ?_ _) | (with_reducible refine Kd.C_drewN ?_ _) | (with_reducible refine Kd.C_drew ?_))); (case side4 => exact (Kd.R_reads' HO141.out).2.1); (case side5 => exact far_slice (IsS46.own_ne HI0.out HO141.out (by decide))); rintro e w6 ⟨rfl, hi, hb, hk⟩; refine ⟨_, rfl, ?_⟩; have n0_ := Aside0.mk (Kd.R_mono (Kd.R_keep (IsS46.apart (show IsS46 w0 _ g s0_0 s0_1 s0_2 from tb87_) (tkR_ HO141.out) (by decide)) hk (fun _ h => h.2)) (fun _ h => h.1)); have n1_ := Aside0.mk (KeepBut.trans (t1d6_) hk (.inl rfl)); have n2_ := Aside0.mk (hb); have n3_ := Aside0.mk (hi); clear HO141; clear HK; clear HB; clear HI0; have HO141 := n0_; have HK := n1_; have HB := n2_; have HI0 := n3_; clear n0_ n1_ n2_ n3_; (try clear hb); (try clear hb2); (try clear hk); (try clear hi)))
 go_ret
 exact ⟨by first | rfl | (simp [errW_none, errW_some] <;> rfl) | (simp [*, errW_none, errW_some] <;> rfl), tb87_, t2e7_, t1d6_⟩

/-! ### spec_l1Once: function 14 -/
def spec_l1Once.f (s0_0 : List Int) (s0_1 : Int) (s0_2 : Int) (a1 : Int) : Option (Bool × Int × Int) := (spec_l1Below.f s0_0 s0_1 s0_2 a1).bind fun bt145 => (some ((bt145.1 == 0), bt145.2.1, bt145.2.2))
set_option maxHeartbeats 8000000 in
set_option maxRecDepth 100000 in
theorem spec_l1Once.calls (g : Nat) (s0_0 : List Int) (s0_1 : Int) (s0_2 : Int) (a1 : Int) (r1 : Bool) (r2 : Int) (r3 : Int) (w0 w : World) (hI : IsS46 w0 w g s0_0 s0_1 s0_2) (hB : Below w0.heap.size w0 w) (h : spec_l1Once.f s0_0 s0_1 s0_2 a1 = some (r1, r2, r3)) :
  Calls Tryd.prog 14 #[.pointer (some ⟨g, 0, none⟩), .int .i64 a1] w fun e w' => e = .returned (.bool r1) ∧ IsS46 w0 w' g s0_0 r2 r3 ∧ Below w0.heap.size w0 w' ∧ KeepBut w w' g none := by
 have HI0 := Aside0.mk hI
 have HK := Aside0.mk (KeepBut.refl w g none)
 have HL := Aside0.mk hB.size
 clear hI
 have HW0 := Aside0.mk hB.size
 have HB := Aside0.mk hB
 clear hB
 have H : ((spec_l1Below.f s0_0 s0_1 s0_2 a1).bind fun bt145 => (some ((bt145.1 == 0), bt145.2.1, bt145.2.2))) = some (r1, r2, r3) := h
 clear h
 replace H := Option.bind_eq_some_iff.mp H
 obtain ⟨⟨t145, t146, t147⟩, A30, H⟩ := H
 replace H : (some ((t145 == 0), t146, t147)) = some (r1, r2, r3) := H
 have A3 := Aside0.mk A30
 clear A30
 simp only [Option.some.injEq, Prod.mk.injEq] at H
 obtain ⟨rfl, rfl, rfl⟩ := H
 go_enter Tryd.func14, Tryd.ntmps14
 go_wp2_with (first | ((with_reducible refine gate_callee (f := 15) rfl ?_); refine gl_ (some 7) Tryd.func15 #[.pointer (some ⟨g, 0, none⟩), .int .i64 a1] ?_; (with_reducible refine (spec_l1Below.calls g s0_0 s0_1 s0_2 a1 t145 t146 t147 w0 _ ?side1 ?side2 A3.out).mono ?_); (case side1 => exact tb87_); (case side2 => exact t2e7_); rintro e w4 ⟨rfl, hi, hb, hk⟩; refine ⟨_, rfl, ?_⟩; have n0_ := Aside0.mk (KeepBut.trans (t1d6_) hk (.inl rfl)); have n1_ := Aside0.mk (hb); have n2_ := Aside0.mk (hi); clear HK; clear HB; clear HI0; have HK := n0_; have HB := n1_; have HI0 := n2_; clear n0_ n1_ n2_; (try clear hb); (try clear hb2); (try clear hk); (try clear hi)))
 go_ret
 exact ⟨by first | rfl | (simp [errW_none, errW_some] <;> rfl) | (simp [*, errW_none, errW_some] <;> rfl), tb87_, t2e7_, t1d6_⟩

/-! ### spec_DrawTokens: function 5 -/
def spec_DrawTokens.l0 : Nat → ByteArray → List Int → Int → Int → Option (ByteArray)
 | 0, _, _, _, _ => none
 | k + 1, x4, x152000, x152001, x152002 => (spec_l1Below.f x152000 x152001 x152002 2).bind fun bt161 => (if (x4.size : Int) < (wrap64 (800 + bt161.1)) then (if x4.size + 1 ≤ 9223372036854775807 then (spec_DrawTokens.l0 k (x4 ++ (⟨#[32]⟩ : ByteArray)) x152000 bt161.2.1 bt161.2.2) else (none)) else (some x4))
def spec_DrawTokens.f (k : Nat) (l0 : List Int) : Option (ByteArray) := (spec_l1New.f k l0).bind fun bt148 => ((spec_l11DrawSource.f bt148.1 bt148.2.1 bt148.2.2).bind fun bt152 => ((spec_l11Dent.f bt148.1 bt152.2.1 bt152.2.2 bt152.1).bind fun bt155 => ((spec_l1Once.f bt148.1 bt155.2.1 bt155.2.2 30).bind fun bt158 => (if bt158.1 = true then (spec_DrawTokens.l0 k bt155.1 bt148.1 bt158.2.1 bt158.2.2) else (some bt155.1)))))
theorem spec_DrawTokens.mono_l : ∀ k, (∀ y0 y1 y2 y3, LeO (spec_DrawTokens.l0 k y0 y1 y2 y3) (spec_DrawTokens.l0 (k + 1) y0 y1 y2 y3))
 | 0 => fun _ _ _ _ r h => by simp [spec_DrawTokens.l0] at h
 | k + 1 => by
  have ih0 := spec_DrawTokens.mono_l k
  ·
   intro y0 y1 y2 y3
   unfold spec_DrawTokens.l0
   repeat' first
   | (with_reducible exact ih0 _ _ _ _)
   | (with_reducible exact spec_l1New.mono _ _)
   | (with_reducible exact LeO.refl _)
   | (with_reducible exact LeO.none _)
   | (with_reducible refine LeO.ite ?_ ?_)
   | (with_reducible refine LeO.bind ?_ (fun _ => ?_))
   | exact ih0 _ _ _ _
   | exact spec_l1New.mono _ _
   | exact LeO.none _
   | refine LeO.ite ?_ ?_
   | refine LeO.bind ?_ (fun _ => ?_)
theorem spec_DrawTokens.mono : ∀ a0 k, LeO (spec_DrawTokens.f k a0) (spec_DrawTokens.f (k + 1) a0) := by
 intro a0 k
 have ih0 := spec_DrawTokens.mono_l k
 unfold spec_DrawTokens.f
 repeat' first
   | (with_reducible exact ih0 _ _ _ _)
   | (with_reducible exact spec_l1New.mono _ _)
   | (with_reducible exact LeO.refl _)
   | (with_reducible exact LeO.none _)
   | (with_reducible refine LeO.ite ?_ ?_)
   | (with_reducible refine LeO.bind ?_ (fun _ => ?_))
   | exact ih0 _ _ _ _
   | exact spec_l1New.mono _ _
   | exact LeO.none _
   | refine LeO.ite ?_ ?_
   | refine LeO.bind ?_ (fun _ => ?_)
set_option maxHeartbeats 8000000 in
set_option maxRecDepth 100000 in
theorem spec_DrawTokens.calls (k : Nat) (A0 : Option Addr) (c0 : Nat) (l0 : List Int) (r : ByteArray) (w : World) (hr0 : Kd.C (Kd.int .u8) w A0 l0.length l0) (hc0 : l0.length ≤ c0) (h : spec_DrawTokens.f k l0 = some r) :
  Calls Tryd.prog 5 #[.slice A0 l0.length c0] w fun e w' => e = .returned (.string r) ∧ Below w.heap.size w w' := by
 have HR0 := Aside0.mk hr0
 have HC0 := Aside0.mk hc0
 clear hr0 hc0
 have HB := Aside0.mk (Below.refl w.heap.size w)
 have H : ((spec_l1New.f k l0).bind fun bt148 => ((spec_l11DrawSource.f bt148.1 bt148.2.1 bt148.2.2).bind fun bt152 => ((spec_l11Dent.f bt148.1 bt152.2.1 bt152.2.2 bt152.1).bind fun bt155 => ((spec_l1Once.f bt148.1 bt155.2.1 bt155.2.2 30).bind fun bt158 => (if bt158.1 = true then (spec_DrawTokens.l0 k bt155.1 bt148.1 bt158.2.1 bt158.2.2) else (some bt155.1)))))) = some r := h
 clear h
 replace H := Option.bind_eq_some_iff.mp H
 obtain ⟨⟨t148, t149, t150⟩, A20, H⟩ := H
 replace H : ((spec_l11DrawSource.f t148 t149 t150).bind fun bt152 => ((spec_l11Dent.f t148 bt152.2.1 bt152.2.2 bt152.1).bind fun bt155 => ((spec_l1Once.f t148 bt155.2.1 bt155.2.2 30).bind fun bt158 => (if bt158.1 = true then (spec_DrawTokens.l0 k bt155.1 t148 bt158.2.1 bt158.2.2) else (some bt155.1))))) = some r := H
 have A2 := Aside0.mk A20
 clear A20
 replace H := Option.bind_eq_some_iff.mp H
 obtain ⟨⟨t152, t153, t154⟩, A30, H⟩ := H
 replace H : ((spec_l11Dent.f t148 t153 t154 t152).bind fun bt155 => ((spec_l1Once.f t148 bt155.2.1 bt155.2.2 30).bind fun bt158 => (if bt158.1 = true then (spec_DrawTokens.l0 k bt155.1 t148 bt158.2.1 bt158.2.2) else (some bt155.1)))) = some r := H
 have A3 := Aside0.mk A30
 clear A30
 replace H := Option.bind_eq_some_iff.mp H
 obtain ⟨⟨t155, t156, t157⟩, A40, H⟩ := H
 replace H : ((spec_l1Once.f t148 t156 t157 30).bind fun bt158 => (if bt158.1 = true then (spec_DrawTokens.l0 k t155 t148 bt158.2.1 bt158.2.2) else (some t155))) = some r := H
 have A4 := Aside0.mk A40
 clear A40
 replace H := Option.bind_eq_some_iff.mp H
 obtain ⟨⟨t158, t159, t160⟩, A50, H⟩ := H
 replace H : (if t158 = true then (spec_DrawTokens.l0 k t155 t148 t159 t160) else (some t155)) = some r := H
 have A5 := Aside0.mk A50
 clear A50
 by_cases c6 : t158 = true
 ·
  subst c6
  rw [if_pos rfl] at H
  have H1 := H
  clear H
  have H := H1
  clear H1
  have H' := Aside0.mk H
  clear H
  go_enter Tryd.func5, Tryd.ntmps5
  go_wp2_with (first | ((with_reducible refine gate_callee (f := 11) rfl ?_); refine gl_ (some 6) Tryd.func11 #[.slice A0 l0.length c0] ?_; (with_reducible refine (spec_l1New.calls k _ _ l0 t148 t149 t150 w _ ?side1 ?side2 ?side3 A2.out).mono ?_); (case side1 => exact t0c4_); (case side2 => exact HR0.out); (case side3 => exact HC0.out); rintro e w7 ⟨g151, rfl, hi, hb, hb2⟩; refine ⟨_, rfl, ?_⟩; have n0_ := Aside0.mk (hb); have n1_ := Aside0.mk (hi); clear HB; have HB := n0_; have HI151 := n1_; clear n0_ n1_; (try clear hb); (try clear hb2); (try clear hk); (try clear hi)) | ((with_reducible refine gate_callee (f := 13) rfl ?_); refine gl_ (some 9) Tryd.func13 #[.pointer (some ⟨g151, 0, none⟩)] ?_; (with_reducible refine (spec_l11DrawSource.calls g151 t148 t149 t150 t152 t153 t154 w _ ?side1 ?side2 A3.out).mono ?_); (case side1 => exact t348_); (case side2 => exact t54c_); rintro e w8 ⟨rfl, hi, hb, hk⟩; refine ⟨_, rfl, ?_⟩; have n0_ := Aside0.mk (hb); have n1_ := Aside0.mk (hi); clear HB; clear HI151; have HB := n0_; have HI151 := n1_; clear n0_ n1_; (try clear hb); (try clear hb2); (try clear hk); (try clear hi)) | ((with_reducible refine gate_callee (f := 12) rfl ?_); refine gl_ (some 10) Tryd.func12 #[.pointer (some ⟨g151, 0, none⟩), .string t152] ?_; (with_reducible refine (spec_l11Dent.calls g151 t148 t153 t154 t152 t155 t156 t157 w _ ?side1 ?side2 A4.out).mono ?_); (case side1 => exact t348_); (case side2 => exact t54c_); rintro e w9 ⟨rfl, hi, hb, hk⟩; refine ⟨_, rfl, ?_⟩; have n0_ := Aside0.mk (hb); have n1_ := Aside0.mk (hi); clear HB; clear HI151; have HB := n0_; have HI151 := n1_; clear n0_ n1_; (try clear hb); (try clear hb2); (try clear hk); (try clear hi)) | ((with_reducible refine gate_callee (f := 14) rfl ?_); refine gl_ (some 12) Tryd.func14 #[.pointer (some ⟨g151, 0, none⟩), .int .i64 30] ?_; (with_reducible refine (spec_l1Once.calls g151 t148 t156 t157 30 true t159 t160 w _ ?side1 ?side2 A5.out).mono ?_); (case side1 => exact t348_); (case side2 => exact t54c_); rintro e w10 ⟨rfl, hi, hb, hk⟩; refine ⟨_, rfl, ?_⟩; have n0_ := Aside0.mk (hb); have n1_ := Aside0.mk (hi); clear HB; clear HI151; have HB := n0_; have HI151 := n1_; clear n0_ n1_; (try clear hb); (try clear hb2); (try clear hk); (try clear hi)))
  (try simp only [Act.put, List.setIfInBounds_toArray, List.set_cons_zero, List.set_cons_succ])
  go_loopg [4] k (fun kq v4 w' => ∃ (x4_1 : ByteArray) (x152001_1 : Int) (x152002_1 : Int), v4 = .string x4_1 ∧ Aside0 (spec_DrawTokens.l0 kq x4_1 t148 x152001_1 x152002_1 = some r) ∧ Aside0 (kq ≤ k) ∧ Aside0 (IsS46 w w' g151 t148 x152001_1 x152002_1) ∧ Aside0 (Below w.heap.size w w'))
  case atStart => exact ⟨(t155), (t159), (t160), (by first | rfl | (simp; done) | (simp [*]; done)), H', ⟨Nat.le_refl _⟩, ⟨t348_⟩, ⟨t54c_⟩⟩
  case round =>
   clear H'
   try clear c1
   try clear p2
   try clear c5
   try clear c6
   obtain ⟨x4_1, x152001_1, x152002_1, rfl, HA, HK1, HI151, HB⟩ := hrel
   cases gk with
   | zero => exact absurd HA.out (by simp [spec_DrawTokens.l0])
   | succ k1 =>
    have H := HA.out
    clear HA
    simp only [spec_DrawTokens.l0] at H
    replace H := Option.bind_eq_some_iff.mp H
    obtain ⟨⟨t161, t162, t163⟩, A110, H⟩ := H
    replace H : (if (x4_1.size : Int) < (wrap64 (800 + t161)) then (if x4_1.size + 1 ≤ 9223372036854775807 then (spec_DrawTokens.l0 k1 (x4_1 ++ (⟨#[32]⟩ : ByteArray)) t148 t162 t163) else (none)) else (some x4_1)) = some r := H
    have A11 := Aside0.mk A110
    clear A110
    by_cases c12 : (x4_1.size : Int) < (wrap64 (800 + t161))
    ·
     rw [if_pos c12] at H
     have c12b0 : decide ((x4_1.size : Int) < (wrap64 (800 + t161))) = true := decide_eq_true c12
     clear c12
     by_cases c13 : x4_1.size + 1 ≤ 9223372036854775807
     ·
      rw [if_pos c13] at H
      have c13b0 := eq_true c13
      have c13b1 : decide (x4_1.size + 1 ≤ 9223372036854775807) = true := decide_eq_true c13
      try have c13b2 : (9223372036854775807 < x4_1.size + 1) = False := eq_false (Nat.not_lt.2 c13)
      have H' := Aside0.mk H
      clear H
      go_wp2_with (first | ((with_reducible refine gate_callee (f := 15) rfl ?_); refine gl_ (some 16) Tryd.func15 #[.pointer (some ⟨g151, 0, none⟩), .int .i64 2] ?_; (with_reducible refine (spec_l1Below.calls g151 t148 x152001_1 x152002_1 2 t161 t162 t163 w _ ?side1 ?side2 A11.out).mono ?_); (case side1 => exact t348_); (case side2 => exact t54c_); rintro e w14 ⟨rfl, hi, hb, hk⟩; refine ⟨_, rfl, ?_⟩; have n0_ := Aside0.mk (hb); have n1_ := Aside0.mk (hi); clear HB; clear HI151; have HB := n0_; have HI151 := n1_; clear n0_ n1_; (try clear hb); (try clear hb2); (try clear hk); (try clear hi)))
      go_roundg k1
      case measure => have := HK1.out; omega
      case rel => exact ⟨(x4_1 ++ (⟨#[32]⟩ : ByteArray)), (t162), (t163), (by first | rfl | (simp; done) | (simp [*]; done)), H', ⟨by have := HK1.out; omega⟩, ⟨t348_⟩, ⟨t54c_⟩⟩
     ·
      rw [if_neg c13] at H
      exact absurd H (by simp)
    ·
     rw [if_neg c12] at H
     have c12b0 : decide ((x4_1.size : Int) < (wrap64 (800 + t161))) = false := decide_eq_false c12
     clear c12
     obtain rfl := Option.some.inj H
     go_wp2_with (first | ((with_reducible refine gate_callee (f := 15) rfl ?_); refine gl_ (some 16) Tryd.func15 #[.pointer (some ⟨g151, 0, none⟩), .int .i64 2] ?_; (with_reducible refine (spec_l1Below.calls g151 t148 x152001_1 x152002_1 2 t161 t162 t163 w _ ?side1 ?side2 A11.out).mono ?_); (case side1 => exact t348_); (case side2 => exact t54c_); rintro e w15 ⟨rfl, hi, hb, hk⟩; refine ⟨_, rfl, ?_⟩; have n0_ := Aside0.mk (hb); have n1_ := Aside0.mk (hi); clear HB; clear HI151; have HB := n0_; have HI151 := n1_; clear n0_ n1_; (try clear hb); (try clear hb2); (try clear hk); (try clear hi)))
     go_ret
     exact ⟨by first | rfl | (simp [errW_none, errW_some] <;> rfl) | (simp [*, errW_none, errW_some] <;> rfl), t54c_⟩
 ·
  replace c6 := Bool.eq_false_iff.mpr c6
  subst c6
  have H1 : (some t155) = some r := by rw [if_neg (show ¬ (false = true) by decide)] at H; exact H
  clear H
  have H := H1
  clear H1
  obtain rfl := Option.some.inj H
  go_enter Tryd.func5, Tryd.ntmps5
  go_wp2_with (first | ((with_reducible refine gate_callee (f := 11) rfl ?_); refine gl_ (some 6) Tryd.func11 #[.slice A0 l0.length c0] ?_; (with_reducible refine (spec_l1New.calls k _ _ l0 t148 t149 t150 w _ ?side1 ?side2 ?side3 A2.out).mono ?_); (case side1 => exact t0c4_); (case side2 => exact HR0.out); (case side3 => exact HC0.out); rintro e w16 ⟨g151, rfl, hi, hb, hb2⟩; refine ⟨_, rfl, ?_⟩; have n0_ := Aside0.mk (hb); have n1_ := Aside0.mk (hi); clear HB; have HB := n0_; have HI151 := n1_; clear n0_ n1_; (try clear hb); (try clear hb2); (try clear hk); (try clear hi)) | ((with_reducible refine gate_callee (f := 13) rfl ?_); refine gl_ (some 9) Tryd.func13 #[.pointer (some ⟨g151, 0, none⟩)] ?_; (with_reducible refine (spec_l11DrawSource.calls g151 t148 t149 t150 t152 t153 t154 w _ ?side1 ?side2 A3.out).mono ?_); (case side1 => exact t348_); (case side2 => exact t54c_); rintro e w17 ⟨rfl, hi, hb, hk⟩; refine ⟨_, rfl, ?_⟩; have n0_ := Aside0.mk (hb); have n1_ := Aside0.mk (hi); clear HB; clear HI151; have HB := n0_; have HI151 := n1_; clear n0_ n1_; (try clear hb); (try clear hb2); (try clear hk); (try clear hi)) | ((with_reducible refine gate_callee (f := 12) rfl ?_); refine gl_ (some 10) Tryd.func12 #[.pointer (some ⟨g151, 0, none⟩), .string t152] ?_; (with_reducible refine (spec_l11Dent.calls g151 t148 t153 t154 t152 t155 t156 t157 w _ ?side1 ?side2 A4.out).mono ?_); (case side1 => exact t348_); (case side2 => exact t54c_); rintro e w18 ⟨rfl, hi, hb, hk⟩; refine ⟨_, rfl, ?_⟩; have n0_ := Aside0.mk (hb); have n1_ := Aside0.mk (hi); clear HB; clear HI151; have HB := n0_; have HI151 := n1_; clear n0_ n1_; (try clear hb); (try clear hb2); (try clear hk); (try clear hi)) | ((with_reducible refine gate_callee (f := 14) rfl ?_); refine gl_ (some 12) Tryd.func14 #[.pointer (some ⟨g151, 0, none⟩), .int .i64 30] ?_; (with_reducible refine (spec_l1Once.calls g151 t148 t156 t157 30 false t159 t160 w _ ?side1 ?side2 A5.out).mono ?_); (case side1 => exact t348_); (case side2 => exact t54c_); rintro e w19 ⟨rfl, hi, hb, hk⟩; refine ⟨_, rfl, ?_⟩; have n0_ := Aside0.mk (hb); have n1_ := Aside0.mk (hi); clear HB; clear HI151; have HB := n0_; have HI151 := n1_; clear n0_ n1_; (try clear hb); (try clear hb2); (try clear hk); (try clear hi)))
  go_ret
  exact ⟨by first | rfl | (simp [errW_none, errW_some] <;> rfl) | (simp [*, errW_none, errW_some] <;> rfl), t54c_⟩

end Go.Proofs.YtjlkkappngnbjaaDoor.XFnTokens
