-- Bundled by shake.py from this session's printed and written texts; Lean checks it.
import Derived.Test.YtonknpgfbkgbjaaZFnExactAllOfGenusx1
import Derived.Test.YtonknpgfbkgbjaaZFnExactAllOfGenusx4
import Derived.Test.YtonknpgfbkgbjaaZFnExactAllOfGenusx5
section
namespace Go.Proofs.Ytonknpgfbkgbjaa.PC
open Go.RowKit Go.Proofs.YtonknpgfbkgbjaaW.PrintWords Go.Proofs.YtonknpgfbkgbjaaW.PrintLast Go.Proofs.YtonknpgfbkgbjaaW.PrintMore
attribute [local go_sem] max2_int min2_int max_two min_two max_three min_three max_four min_four
set_option linter.unusedVariables false
set_option linter.unusedSimpArgs false
set_option maxHeartbeats 8000000
set_option maxRecDepth 100000
mutual
def spec_FromGaps.j0 : Nat → List Int → Bool → Option (List Int × Bool)
 | 0, _, _ => none
 | k + 1, x0, x20 => if x20 = true then (some (([] : List Int), false)) else ((some (([] : List Int) : List Int)).bind fun y362 => (if (x0.length : Int) > 0 then (if 0 ≤ (wrap64 ((x0.length : Int) - 1)) then (if (wrap64 ((x0.length : Int) - 1)) < (x0.length : Int) then (spec_FromGaps.j1 k x0 y362 (rd x0 (wrap64 ((x0.length : Int) - 1)))) else (none)) else (none)) else (spec_FromGaps.j1 k x0 y362 0)))
def spec_FromGaps.j1 : Nat → List Int → List Int → Int → Option (List Int × Bool)
 | 0, _, _, _ => none
 | k + 1, x0, x6, x7 => spec_FromGaps.l0 k x0 x6 x7 1
def spec_FromGaps.l0 : Nat → List Int → List Int → Int → Int → Option (List Int × Bool)
 | 0, _, _, _, _ => none
 | k + 1, x0, x6, x7, x8 => if x8 ≤ (wrap64 ((wrap64 (2 * x7)) + 2)) then ((spec_HasNumber.f k x0 x8).bind fun t368 => (if t368 = true then (spec_FromGaps.l0 k x0 x6 x7 (wrap64 (x8 + 1))) else (if (x6.length : Int) > 0 then ((spec_l3Table.f k x6 x8).bind fun t369 => (if 0 ≤ x8 then (if x8 < (t369.length : Int) then (if rdOf false t369 x8 = true then (spec_FromGaps.l0 k x0 x6 x7 (wrap64 (x8 + 1))) else (if x6.length < 17592186044416 then (spec_FromGaps.l0 k x0 (x6 ++ [x8]) x7 (wrap64 (x8 + 1))) else (none))) else (none)) else (none))) else (if x6.length < 17592186044416 then (spec_FromGaps.l0 k x0 (x6 ++ [x8]) x7 (wrap64 (x8 + 1))) else (none))))) else ((spec_IsSemigroup.f k x6).bind fun t367 => (if t367 = true then (some (x6, true)) else (some (([] : List Int), false))))
end
def spec_FromGaps.f (k : Nat) (l0 : List Int) : Option (List Int × Bool) := (spec_GapClash.f k l0).bind fun bt357 => ((spec_l8Gaps.f k l0).bind fun t361 => (if t361 = true then (spec_FromGaps.j0 k l0 bt357.2.2) else (spec_FromGaps.j0 k l0 true)))
theorem spec_FromGaps.calls (k : Nat) (A0 : Option Addr) (c0 : Nat) (l0 : List Int) (r1 : List Int) (r2 : Bool) (w : World) (hr0 : Kd.C (Kd.int .i64) w A0 l0.length l0) (hc0 : l0.length ≤ c0) (h : spec_FromGaps.f k l0 = some (r1, r2)) :
 Calls Try.prog 52 #[.slice A0 l0.length c0] w fun e w' => ∃ v0_ : Value, e = .returned (.tuple #[.agg #[v0_], .bool r2]) ∧ Kd.R (Kd.int .i64) 3 w' w.heap.size (fun _ => True) v0_ r1 ∧ Below w.heap.size w w' := by
 have hu26 := Try.underlying26
 have hu70 := Try.underlying70
 have HR0 := Aside0.mk hr0
 have HC0 := Aside0.mk hc0
 clear hr0 hc0
 have HB := Aside0.mk (Below.refl w.heap.size w)
 have H := h
 clear h
 unfold spec_FromGaps.f at H
 obtain ⟨⟨t357, t358, t359⟩, A2, H⟩ := ob_ H
 (try dsimp only at H)
 have HC3 := Aside0.mk H
 clear H
 go_enter Try.func52, Try.ntmps52
 go_upto_region 2 with (first | ((with_reducible refine gate_dst (N := 2) rfl ?_); (try (refine gate_guard (by rfl) ?_; dsimp only)); refine bx_ 2 #[.slice none 0 0] 26 ?_; intro gb356 hg w4 hbox hb; have BK356 := Aside0.mk (hbox); have GW356 := gw_ hg HB; have GE356 := gw_ hg HB; replace HB := bo_ HB hb; clear hb hbox hg) | ((with_reducible refine gate_callee (f := 82) rfl ?_); refine gL_ (some 12) Try.func82 #[.slice A0 l0.length c0] ?_; (with_reducible refine (spec_GapClash.calls k _ _ l0 t357 t358 t359 _ ?side1 ?side2 A2.out).mono ?_); (case side1 => exact ch_ HR0 HB); (case side2 => exact HC0.out); rintro e w5 ⟨rfl, hb⟩; refine ⟨_, rfl, ?_⟩; replace BK356 := bk_ BK356 hb; replace HB := bp_ HB hb; (try clear hb)) | ((with_reducible refine gate_dst (N := 4) rfl ?_); (try (refine gate_guard (by rfl) ?_; dsimp only)); refine bx_ 4 #[.int .i64 0, .int .i64 0] 70 ?_; intro gb360 hg w6 hbox hb; have BK360 := Aside0.mk (hbox); have GW360 := gq_ hg (bq_ HB); have GE360 := gq_ hg (bq_ HB); replace HB := bp_ HB hb; have NB356_360 := nl_ hg BK356; have NB360_356 := ng_ hg BK356; replace BK356 := bk_ BK356 hb; clear hb hbox hg; have hnb7 := NB360_356.out; have hnc7 := NB356_360.out; have hcz8_0 : w6.cell? ⟨gb360, 0, none⟩ = some (.int .i64 0) := (blk_cell BK360.out 0).trans rfl; have hcz8_1 : w6.cell? ⟨gb360, 1, none⟩ = some (.int .i64 0) := (blk_cell BK360.out 1).trans rfl; have hfz8_0 := blk_frozen BK360.out 0; have hfz8_1 := blk_frozen BK360.out 1))
 (try simp only [Act.put, z1_, z2_, z3_])
 go_cut [20] (fun v20 wc => ∃ (kq : Nat) (x20_2 : Bool), v20 = .bool x20_2 ∧ Aside0 (spec_FromGaps.j0 kq l0 x20_2 = some (r1, r2)) ∧ Aside0 (kq ≤ k) ∧ Aside0 (wc.heap[gb356]? = some (.cells #[(.slice none 0 0)] 26 (0, 0))) ∧ Aside0 (wc.heap[gb360]? = some (.cells #[.int .i64 t357, .int .i64 t358] 70 (0, 0))) ∧ Aside0 (Below w.heap.size w wc))
 case first =>
  have H := HC3.out
  clear HC3
  obtain ⟨t361, A9, H⟩ := ob_ H
  by_cases c10 : t361 = true
  · subst c10
    rw [if_pos rfl] at H
    have H' := Aside0.mk H
    clear H
    go_wp2_with (first | ((with_reducible refine gate_callee (f := 83) rfl ?_); refine gL_ (some 16) Try.func83 #[.slice A0 l0.length c0] ?_; (with_reducible refine (spec_l8Gaps.calls k _ _ l0 true _ ?side1 ?side2 A9.out).mono ?_); (case side1 => exact Kd.C_below HR0.out (bq_ HB)); (case side2 => exact HC0.out); rintro e w' ⟨rfl, ⟨nd, rfl⟩⟩; refine ⟨_, rfl, ?_⟩))
    go_meet
    case rel => exact ⟨_, (t359), rs_, H', ⟨by first | omega | exact Nat.le_refl _⟩, ⟨ba_ BK356⟩, ⟨by (with_reducible repeat (first | refine blk_drewN ?_ _ | refine blk_drew ?_ | refine blk_alloc ?_ _)); refine blk_put (cs := #[.int .i64 t357, .int .i64 0]) ?_ 1 _ rfl; (with_reducible repeat (first | refine blk_drewN ?_ _ | refine blk_drew ?_ | refine blk_alloc ?_ _)); refine blk_put (cs := #[.int .i64 0, .int .i64 0]) ?_ 0 _ rfl; (with_reducible repeat (first | refine blk_drewN ?_ _ | refine blk_drew ?_ | refine blk_alloc ?_ _)); exact BK360.out⟩, ⟨bq_ HB⟩⟩
  replace c10 := Bool.eq_false_iff.mpr c10
  subst c10
  rw [if_neg (show ¬ (false = true) by decide)] at H
  have H' := Aside0.mk H
  clear H
  go_wp2_with (first | ((with_reducible refine gate_callee (f := 83) rfl ?_); refine gL_ (some 16) Try.func83 #[.slice A0 l0.length c0] ?_; (with_reducible refine (spec_l8Gaps.calls k _ _ l0 false _ ?side1 ?side2 A9.out).mono ?_); (case side1 => exact Kd.C_below HR0.out (bq_ HB)); (case side2 => exact HC0.out); rintro e w' ⟨rfl, ⟨nd, rfl⟩⟩; refine ⟨_, rfl, ?_⟩))
  go_meet
  case rel => exact ⟨_, (true), rs_, H', ⟨by first | omega | exact Nat.le_refl _⟩, ⟨ba_ BK356⟩, ⟨by (with_reducible repeat (first | refine blk_drewN ?_ _ | refine blk_drew ?_ | refine blk_alloc ?_ _)); refine blk_put (cs := #[.int .i64 t357, .int .i64 0]) ?_ 1 _ rfl; (with_reducible repeat (first | refine blk_drewN ?_ _ | refine blk_drew ?_ | refine blk_alloc ?_ _)); refine blk_put (cs := #[.int .i64 0, .int .i64 0]) ?_ 0 _ rfl; (with_reducible repeat (first | refine blk_drewN ?_ _ | refine blk_drew ?_ | refine blk_alloc ?_ _)); exact BK360.out⟩, ⟨bq_ HB⟩⟩
 case rest =>
  clear HC3
  try clear hcz8_0
  try clear hcz8_1
  try clear hfz8_0
  try clear hfz8_1
  obtain ⟨kq, x20_2, rfl, HA, HJ2, BK356, BK360, HB⟩ := hcut
  cases kq with
  | zero => exact absurd HA.out (by simp [spec_FromGaps.j0])
  | succ kj2 =>
   have H := HA.out
   clear HA
   simp only [spec_FromGaps.j0] at H
   by_cases c11 : x20_2 = true
   · subst c11
     rw [if_pos rfl] at H
     simp only [Option.some.injEq, Prod.mk.injEq] at H
     obtain ⟨rfl, rfl⟩ := H
     have hnb12 := NB356_360.out
     have hnc12 := NB360_356.out
     have hcz13_0 := cz_ BK356
     have hfz13_0 := blk_frozen BK356.out 0
     go_wp2
     refine bodyPost_ret (results_ct rfl _ _ gb356 26 #[.slice none 0 0] (0, 0) _ rfl (bz_ BK356) Try.underlying26 rfl (by kernel_rfl)) rfl ?_
     exact ⟨_, rf_, by first | exact Kd.R_nil _ _ _ _ _ | exact Kd.N_nil _ _ _ _ _ | exact Kd.V_nil _ _ _ _ _ | exact Kd.Q_nil _ _ _ _ _ | exact Kd.S_nil _ _ _ _ _, bq_ HB⟩
   replace c11 := Bool.eq_false_iff.mpr c11
   subst c11
   rw [if_neg (show ¬ (false = true) by decide)] at H
   obtain ⟨y362, hy362⟩ : ∃ y_ : List Int, y_ = (([] : List Int)) := ⟨_, rfl⟩
   replace H : (if (l0.length : Int) > 0 then (if 0 ≤ (wrap64 ((l0.length : Int) - 1)) then (if (wrap64 ((l0.length : Int) - 1)) < (l0.length : Int) then (spec_FromGaps.j1 kj2 l0 y362 (rd l0 (wrap64 ((l0.length : Int) - 1)))) else (none)) else (none)) else (spec_FromGaps.j1 kj2 l0 y362 0)) = some (r1, r2) := by subst hy362; exact H
   have Ny362 := Aside0.mk hy362
   clear hy362
   have HC14 := Aside0.mk H
   clear H
   go_upto_if 25 with (first | ((with_reducible refine gate_dst (N := 22) rfl ?_); (try (refine gate_guard (by rfl) ?_; dsimp only)); refine Kd.R_lit (Kd.int .i64) _ 3 ?hg (N := 22) ?hd (xs := ([] : List Int)) (inner := []) (ok := fun _ => True) (okp := fun _ => True) ?hr ?hp (fun _ hk => hk) trivial (Below.refl _ _) (Nat.le_refl _) (by simp) ?_; (case hd => rfl); (case hg => rfl); (case hr => first | (go_simp; done) | (go_simp; rfl)); (case hp => exact (Reps.none _ _)); intro v363 w15 ho16 hb hg_ hnew_; clear hg_ hnew_; (first | rw [← Ny362.out] at ho16 | (simp only [Int.reduceToNat] at ho16; rw [← Ny362.out] at ho16)); have HO364 := Aside0.mk (Kd.R_lower ho16 (below_size (bq_ HB))); replace BK356 := bk_ BK356 hb; replace BK360 := bk_ BK360 hb; replace HB := bp_ HB hb; clear hb ho16))
   (try simp only [Act.put, z1_, z2_, z3_])
   go_cut [7] (fun v7 wc => ∃ (kq : Nat) (x7_13 : Int), v7 = .int .i64 x7_13 ∧ Aside0 (spec_FromGaps.j1 kq l0 y362 x7_13 = some (r1, r2)) ∧ Aside0 (kq ≤ kj2) ∧ Aside0 (Kd.R (Kd.int .i64) 3 wc w.heap.size (fun _ => True) v363 y362) ∧ Aside0 (wc.heap[gb356]? = some (.cells #[(.slice none 0 0)] 26 (0, 0))) ∧ Aside0 (wc.heap[gb360]? = some (.cells #[.int .i64 t357, .int .i64 t358] 70 (0, 0))) ∧ Aside0 (Below w.heap.size w wc))
   case first =>
    have H := HC14.out
    clear HC14
    by_cases c17 : (l0.length : Int) > 0
    rotate_left
    · rw [if_neg c17] at H
      have c17b0 : decide (0 < (l0.length : Int)) = false := decide_eq_false c17
      have c17b1 : decide (0 < l0.length) = false := decide_eq_false (by omega)
      clear c17
      (first | rw [c17b0] | (simp only [i64_w, i32_w]; rw [c17b0]) | rw [c17b1] | skip)
      have H' := Aside0.mk H
      clear H
      go_wp2
      go_meet
      case rel => exact ⟨_, (0), rs_, H', ⟨by have := HJ2.out; first | omega | exact Nat.le_refl _⟩, ⟨re_ HO364.out⟩, ⟨be_ BK356.out⟩, ⟨be_ BK360.out⟩, ⟨bq_ HB⟩⟩
    rw [if_pos c17] at H
    have c17b0 : decide (0 < (l0.length : Int)) = true := decide_eq_true c17
    have c17b1 : decide (0 < l0.length) = true := decide_eq_true (by omega)
    clear c17
    (first | rw [c17b0] | (simp only [i64_w, i32_w]; rw [c17b0]) | rw [c17b1] | skip)
    obtain ⟨ji18, hji18⟩ : ∃ j_ : Int, (wrap64 ((l0.length : Int) - 1)) = j_ := ⟨_, rfl⟩
    replace H : (if 0 ≤ (ji18) then (if (ji18) < (l0.length : Int) then (spec_FromGaps.j1 kj2 l0 y362 (rd l0 (ji18))) else (none)) else (none)) = some (r1, r2) := by first | (rw [hji18] at H; exact H) | (simp only [hji18] at H ⊢; exact H)
    have hji18w : (IntKind.i64.wrap ((l0.length : Int) - 1)) = ji18 := (i64_w _).trans hji18
    obtain ⟨c19b0, H⟩ := ipd_ H
    obtain ⟨c20b0, H⟩ := ipd_ H
    have H' := Aside0.mk H
    clear H
    have p365 : 0 ≤ ((ji18) : Int) := od_
    have q365 : (ji18) < (l0.length : Int) := od_
    obtain ⟨ad365, e365, hx365_0⟩ := Kd.at_int HR0.out (ji18) p365 q365
    cases e365
    (try replace hx365_0 := (HB.out.cell (World.block_lt_of_cell? w _ hx365_0)).trans hx365_0)
    replace p365 := eq_true p365
    replace q365 := eq_true q365
    go_wp2
    go_meet
    case rel => exact ⟨_, (rd l0 (ji18)), (by first | rfl | (simp; done) | (simp only [← hji18] <;> (first | rfl | simp)) | (simp [*]; done)), H', ⟨by have := HJ2.out; first | omega | exact Nat.le_refl _⟩, ⟨re_ HO364.out⟩, ⟨be_ BK356.out⟩, ⟨be_ BK360.out⟩, ⟨bq_ HB⟩⟩
   case rest =>
    clear HC14
    obtain ⟨kq, x7_13, rfl, HA, HJ13, HO_6, BK356, BK360, HB⟩ := hcut
    cases kq with
    | zero => exact absurd HA.out (by simp [spec_FromGaps.j1])
    | succ kj13 =>
     have H := HA.out
     clear HA
     simp only [spec_FromGaps.j1] at H
     have H' := Aside0.mk H
     clear H
     go_wp2
     go_loopg [6, 8] kj13 (fun kq v6 v8 w' => ∃ (x6_3 : List Int) (x8_3 : Int), v8 = .int .i64 x8_3 ∧ Aside0 (spec_FromGaps.l0 kq l0 x6_3 x7_13 x8_3 = some (r1, r2)) ∧ Aside0 (kq ≤ kj13) ∧ Aside0 (Kd.R (Kd.int .i64) 3 w' w.heap.size (fun _ => True) v6 x6_3) ∧ Aside0 (w'.heap[gb356]? = some (.cells #[(.slice none 0 0)] 26 (0, 0))) ∧ Aside0 (w'.heap[gb360]? = some (.cells #[.int .i64 t357, .int .i64 t358] 70 (0, 0))) ∧ Aside0 (Below w.heap.size w w'))
     case atStart => exact ⟨(y362), (1), rs_, H', ⟨Nat.le_refl _⟩, ⟨re_ HO_6.out⟩, ⟨be_ BK356.out⟩, ⟨be_ BK360.out⟩, ⟨bq_ HB⟩⟩
     case round =>
      clear H'
      obtain ⟨x6_3, x8_3, rfl, HA, HK3, HO_6, BK356, BK360, HB⟩ := hrel
      cases gk with
      | zero => exact absurd HA.out (by simp [spec_FromGaps.l0])
      | succ k3 =>
       have H := HA.out
       clear HA
       simp only [spec_FromGaps.l0] at H
       by_cases c21 : x8_3 ≤ (wrap64 ((wrap64 (2 * x7_13)) + 2))
       rotate_left
       · rw [if_neg c21] at H
         have c21b0 : decide (x8_3 ≤ (wrap64 ((wrap64 (2 * x7_13)) + 2))) = false := decide_eq_false c21
         clear c21
         obtain ⟨t367, A41, H⟩ := ob_ H
         by_cases c42 : t367 = true
         · subst c42
           rw [if_pos rfl] at H
           simp only [Option.some.injEq, Prod.mk.injEq] at H
           obtain ⟨rfl, rfl⟩ := H
           obtain ⟨Ao43, co43, eo43⟩ := Kd.R_slice HO_6.out
           subst eo43
           go_wp2_with (first | ((with_reducible refine gate_dst (N := 9) rfl ?_); (try (refine gate_guard (by rfl) ?_; dsimp only)); refine bx_ 9 #[.slice none 0 0] 26 ?_; intro gb366 hg w44 hbox hb; replace HO_6 := Aside0.mk (Kd.R_below (re_ HO_6.out) hb); have BK366 := Aside0.mk (hbox); have GW366 := gq_ hg (bq_ HB); have GE366 := gq_ hg (bq_ HB); replace HB := bp_ HB hb; have NB356_366 := nl_ hg BK356; have NB366_356 := ng_ hg BK356; replace BK356 := bk_ BK356 hb; have NB360_366 := nl_ hg BK360; have NB366_360 := ng_ hg BK360; replace BK360 := bk_ BK360 hb; clear hb hbox hg; have hnb45 := NB366_356.out; have hnc45 := NB356_366.out; have hnb46 := NB366_360.out; have hnc46 := NB360_366.out; have hcz47_0 := cz_ BK366; have hfz47_0 := blk_frozen BK366.out 0) | ((with_reducible refine gate_callee (f := 25) rfl ?_); refine gL_ (some 62) Try.func25 #[.agg #[.slice Ao43 x6_3.length co43]] ?_; (with_reducible refine (spec_IsSemigroup.calls k3 _ _ x6_3 true _ ?side1 ?side2 A41.out).mono ?_); (case side1 => refine (Kd.R_reads' (e := 3) (base := w.heap.size) (ok := fun k_ => True) (n := x6_3.length) (c := co43) ?_).2.2; exact (rf1_ HO_6 BK366)); (case side2 => exact (Kd.R_reads' HO_6.out).2.1); rintro e w48 ⟨rfl, hb⟩; refine ⟨_, rfl, ?_⟩; replace HO_6 := Aside0.mk (Kd.R_below (rf1_ HO_6 BK366) hb); replace BK356 := Aside0.mk (blk_below (g := gb356) (o := .cells #[.slice none 0 0] 26 (0, 0)) (ba_ BK356) hb); replace BK360 := Aside0.mk (blk_below (g := gb360) (o := .cells #[.int .i64 t357, .int .i64 t358] 70 (0, 0)) (ba_ BK360) hb); replace BK366 := Aside0.mk (blk_below (g := gb366) (o := .cells #[.slice Ao43 x6_3.length co43] 26 (0, 0)) (bz_ BK366) hb); replace HB := bp_ HB hb; (try clear hb); have hcz49_0 := cz_ BK366; have hfz49_0 := blk_frozen BK366.out 0; have hnb50 := NB356_360.out; have hnc50 := NB360_356.out; have hcz51_0 := cz_ BK356; have hfz51_0 := blk_frozen BK356.out 0))
           refine bodyPost_ret (results_ct rfl _ _ gb356 26 #[.slice Ao43 x6_3.length co43] (0, 0) _ rfl (bz_ BK356) Try.underlying26 rfl (by kernel_rfl)) rfl ?_
           exact ⟨_, rf_, by (with_reducible repeat (first | apply Kd.R_alloc | apply Kd.R_drewN | apply Kd.R_drew)); exact Kd.R_mono (Kd.R_far (p := ⟨gb356, 0, none⟩) (Kd.R_types HO_6.out BK356.out (by decide)) (fun _ hk => hk.2) (.slice Ao43 x6_3.length co43)) (fun _ hk => trivial), bq_ HB⟩
         replace c42 := Bool.eq_false_iff.mpr c42
         subst c42
         rw [if_neg (show ¬ (false = true) by decide)] at H
         simp only [Option.some.injEq, Prod.mk.injEq] at H
         obtain ⟨rfl, rfl⟩ := H
         obtain ⟨Ao52, co52, eo52⟩ := Kd.R_slice HO_6.out
         subst eo52
         go_wp2_with (first | ((with_reducible refine gate_dst (N := 9) rfl ?_); (try (refine gate_guard (by rfl) ?_; dsimp only)); refine bx_ 9 #[.slice none 0 0] 26 ?_; intro gb366 hg w53 hbox hb; replace HO_6 := Aside0.mk (Kd.R_below (re_ HO_6.out) hb); have BK366 := Aside0.mk (hbox); have GW366 := gq_ hg (bq_ HB); have GE366 := gq_ hg (bq_ HB); replace HB := bp_ HB hb; have NB356_366 := nl_ hg BK356; have NB366_356 := ng_ hg BK356; replace BK356 := bk_ BK356 hb; have NB360_366 := nl_ hg BK360; have NB366_360 := ng_ hg BK360; replace BK360 := bk_ BK360 hb; clear hb hbox hg; have hnb54 := NB366_356.out; have hnc54 := NB356_366.out; have hnb55 := NB366_360.out; have hnc55 := NB360_366.out; have hcz56_0 := cz_ BK366; have hfz56_0 := blk_frozen BK366.out 0) | ((with_reducible refine gate_callee (f := 25) rfl ?_); refine gL_ (some 62) Try.func25 #[.agg #[.slice Ao52 x6_3.length co52]] ?_; (with_reducible refine (spec_IsSemigroup.calls k3 _ _ x6_3 false _ ?side1 ?side2 A41.out).mono ?_); (case side1 => refine (Kd.R_reads' (e := 3) (base := w.heap.size) (ok := fun k_ => True) (n := x6_3.length) (c := co52) ?_).2.2; exact (rf1_ HO_6 BK366)); (case side2 => exact (Kd.R_reads' HO_6.out).2.1); rintro e w57 ⟨rfl, hb⟩; refine ⟨_, rfl, ?_⟩; replace HO_6 := Aside0.mk (Kd.R_below (rf1_ HO_6 BK366) hb); replace BK356 := Aside0.mk (blk_below (g := gb356) (o := .cells #[.slice none 0 0] 26 (0, 0)) (ba_ BK356) hb); replace BK360 := Aside0.mk (blk_below (g := gb360) (o := .cells #[.int .i64 t357, .int .i64 t358] 70 (0, 0)) (ba_ BK360) hb); replace BK366 := Aside0.mk (blk_below (g := gb366) (o := .cells #[.slice Ao52 x6_3.length co52] 26 (0, 0)) (bz_ BK366) hb); replace HB := bp_ HB hb; (try clear hb); have hnb58 := NB356_360.out; have hnc58 := NB360_356.out; have hcz59_0 := cz_ BK356; have hfz59_0 := blk_frozen BK356.out 0))
         refine bodyPost_ret (results_ct rfl _ _ gb356 26 #[.slice none 0 0] (0, 0) _ rfl (bz_ BK356) Try.underlying26 rfl (by kernel_rfl)) rfl ?_
         exact ⟨_, rf_, by first | exact Kd.R_nil _ _ _ _ _ | exact Kd.N_nil _ _ _ _ _ | exact Kd.V_nil _ _ _ _ _ | exact Kd.Q_nil _ _ _ _ _ | exact Kd.S_nil _ _ _ _ _, bq_ HB⟩
       rw [if_pos c21] at H
       have c21b0 : decide (x8_3 ≤ (wrap64 ((wrap64 (2 * x7_13)) + 2))) = true := decide_eq_true c21
       clear c21
       obtain ⟨t368, A22, H⟩ := ob_ H
       by_cases c23 : t368 = true
       · subst c23
         rw [if_pos rfl] at H
         have H' := Aside0.mk H
         clear H
         go_wp2_with (first | ((with_reducible refine gate_callee (f := 84) rfl ?_); refine gL_ (some 41) Try.func84 #[.slice A0 l0.length c0, .int .i64 x8_3] ?_; (with_reducible refine (spec_HasNumber.calls k3 _ _ l0 x8_3 true _ ?side1 ?side2 A22.out).mono ?_); (case side1 => exact ch_ HR0 HB); (case side2 => exact HC0.out); rintro e w' ⟨rfl, ⟨nd, rfl⟩⟩; refine ⟨_, rfl, ?_⟩))
         go_roundg k3
         case measure => have := HJ2.out; have := HJ13.out; have := HK3.out; omega
         case rel => exact ⟨(x6_3), (wrap64 (x8_3 + 1)), rs_, H', ⟨by have := HJ2.out; have := HJ13.out; have := HK3.out; omega⟩, ⟨re_ HO_6.out⟩, ⟨be_ BK356.out⟩, ⟨be_ BK360.out⟩, ⟨bq_ HB⟩⟩
       replace c23 := Bool.eq_false_iff.mpr c23
       subst c23
       rw [if_neg (show ¬ (false = true) by decide)] at H
       by_cases c24 : (x6_3.length : Int) > 0
       rotate_left
       · rw [if_neg c24] at H
         have c24b0 : decide (0 < (x6_3.length : Int)) = false := decide_eq_false c24
         have c24b1 : decide (0 < x6_3.length) = false := decide_eq_false (by omega)
         clear c24
         obtain ⟨c38, H⟩ := ip_ H
         have LMc38 := Aside0.mk c38
         clear c38
         obtain ⟨y376, hy376⟩ : ∃ y_ : List Int, y_ = (x6_3 ++ [x8_3]) := ⟨_, rfl⟩
         replace H : (spec_FromGaps.l0 k3 l0 y376 x7_13 (wrap64 (x8_3 + 1))) = some (r1, r2) := by subst hy376; exact H
         have Ny376 := Aside0.mk hy376
         clear hy376
         have H' := Aside0.mk H
         clear H
         go_wp2_with (first | ((with_reducible refine gate_callee (f := 84) rfl ?_); refine gL_ (some 41) Try.func84 #[.slice A0 l0.length c0, .int .i64 x8_3] ?_; (with_reducible refine (spec_HasNumber.calls k3 _ _ l0 x8_3 false _ ?side1 ?side2 A22.out).mono ?_); (case side1 => exact ch_ HR0 HB); (case side2 => exact HC0.out); rintro e w' ⟨rfl, ⟨nd, rfl⟩⟩; refine ⟨_, rfl, ?_⟩; obtain ⟨Ao39, co39, eo39⟩ := Kd.R_slice HO_6.out; subst eo39) | ((with_reducible refine gate_builtin (b := .append) (xs := #[.tmp 55, .tmp 57]) rfl ?_); (try (refine gate_guard (by rfl) ?_; dsimp only)); at_builtin; refine Kd.R_append (Kd.int .i64) (w0 := w) w.heap.size rfl (.tmp 55) (.tmp 57) 24 3 (.int .i64 0) 8 rfl Try.underlying24 info3 rfl (by decide) (by omega) (.slice Ao39 x6_3.length co39) x6_3 x8_3 [.int .i64 x8_3] (fun _ => True) (fun _ => False) rfl rfl ?aP (fun _ hk => hk.elim) ?aF ?aO ?aB ?aS ?aL ?_; (case aP => exact rfl); (case aB => exact (bq_ HB)); (case aF => exact (fun _ _ => trivial)); (case aO => exact (re_ HO_6.out)); (case aS => exact (below_size (bq_ HB))); (case aL => have := LMc38.out; omega); intro v377 w40 ho hb hg hat; rw [← Ny376.out] at ho; replace BK356 := Aside0.mk (blk_grown (be_ BK356.out) hg (Kd.R_ne HO_6.out BK356.out (by decide))); replace BK360 := Aside0.mk (blk_grown (be_ BK360.out) hg (Kd.R_ne HO_6.out BK360.out (by decide))); replace HB := Aside0.mk (hb); have HO378 := Aside0.mk (ho); clear HO_6; clear ho hb hg hat))
         go_roundg k3
         case measure => have := HJ2.out; have := HJ13.out; have := HK3.out; omega
         case rel => exact ⟨(y376), (wrap64 (x8_3 + 1)), rs_, H', ⟨by have := HJ2.out; have := HJ13.out; have := HK3.out; omega⟩, ⟨re_ HO378.out⟩, ⟨be_ BK356.out⟩, ⟨be_ BK360.out⟩, ⟨bq_ HB⟩⟩
       rw [if_pos c24] at H
       have c24b0 : decide (0 < (x6_3.length : Int)) = true := decide_eq_true c24
       have c24b1 : decide (0 < x6_3.length) = true := decide_eq_true (by omega)
       clear c24
       obtain ⟨t369, A25, H⟩ := ob_ H
       obtain ⟨c26b0, H⟩ := ipd_ H
       obtain ⟨c27b0, H⟩ := ipd_ H
       obtain ⟨bq28, hbq28⟩ : ∃ b_ : Bool, b_ = (rdOf false t369 x8_3) := ⟨_, rfl⟩
       replace H : (if bq28 = true then (spec_FromGaps.l0 k3 l0 x6_3 x7_13 (wrap64 (x8_3 + 1))) else (if x6_3.length < 17592186044416 then (spec_FromGaps.l0 k3 l0 (x6_3 ++ [x8_3]) x7_13 (wrap64 (x8_3 + 1))) else (none))) = some (r1, r2) := by rw [← hbq28] at H; exact H
       have Nbq28 := Aside0.mk hbq28
       clear hbq28
       by_cases c29 : bq28 = true
       · subst c29
         rw [if_pos rfl] at H
         have H' := Aside0.mk H
         clear H
         go_wp2_with (first | ((with_reducible refine gate_callee (f := 84) rfl ?_); refine gL_ (some 41) Try.func84 #[.slice A0 l0.length c0, .int .i64 x8_3] ?_; (with_reducible refine (spec_HasNumber.calls k3 _ _ l0 x8_3 false _ ?side1 ?side2 A22.out).mono ?_); (case side1 => exact ch_ HR0 HB); (case side2 => exact HC0.out); rintro e w' ⟨rfl, ⟨nd, rfl⟩⟩; refine ⟨_, rfl, ?_⟩; obtain ⟨Ao30, co30, eo30⟩ := Kd.R_slice HO_6.out; subst eo30) | (go_at_call 81; (with_reducible refine (spec_l3Table.calls k3 _ _ x6_3 x8_3 t369 _ ?side1 ?side2 A25.out).mono ?_); (case side1 => exact ce_ ((Kd.R_reads' HO_6.out).2.2)); (case side2 => exact (Kd.R_reads' HO_6.out).2.1); rintro e w31 ⟨v370, rfl, ho0, hb⟩; replace HO_6 := Aside0.mk (Kd.R_below (re_ HO_6.out) hb); have HO371 := Aside0.mk (Kd.R_lower ho0 (below_size (bq_ HB))); replace BK356 := bk_ BK356 hb; replace BK360 := bk_ BK360 hb; replace HB := bp_ HB hb; (try clear hb); (try clear ho0); obtain ⟨Ao32, co32, eo32⟩ := Kd.R_slice HO371.out; subst eo32; have p372 : 0 ≤ (x8_3 : Int) := od_; have q372 : x8_3 < (t369.length : Int) := od_; obtain ⟨ad372, e372, hx372_0⟩ := Kd.at_bool (Kd.R_reads' HO371.out).2.2 x8_3 p372 q372; (try rw [← Nbq28.out] at hx372_0); cases e372; replace p372 := eq_true p372; replace q372 := eq_true q372))
         go_roundg k3
         case measure => have := HJ2.out; have := HJ13.out; have := HK3.out; omega
         case rel => exact ⟨(x6_3), (wrap64 (x8_3 + 1)), rs_, H', ⟨by have := HJ2.out; have := HJ13.out; have := HK3.out; omega⟩, ⟨re_ HO_6.out⟩, ⟨be_ BK356.out⟩, ⟨be_ BK360.out⟩, ⟨bq_ HB⟩⟩
       replace c29 := Bool.eq_false_iff.mpr c29
       subst c29
       rw [if_neg (show ¬ (false = true) by decide)] at H
       obtain ⟨c33, H⟩ := ip_ H
       have LMc33 := Aside0.mk c33
       clear c33
       obtain ⟨y373, hy373⟩ : ∃ y_ : List Int, y_ = (x6_3 ++ [x8_3]) := ⟨_, rfl⟩
       replace H : (spec_FromGaps.l0 k3 l0 y373 x7_13 (wrap64 (x8_3 + 1))) = some (r1, r2) := by subst hy373; exact H
       have Ny373 := Aside0.mk hy373
       clear hy373
       have H' := Aside0.mk H
       clear H
       go_wp2_with (first | ((with_reducible refine gate_callee (f := 84) rfl ?_); refine gL_ (some 41) Try.func84 #[.slice A0 l0.length c0, .int .i64 x8_3] ?_; (with_reducible refine (spec_HasNumber.calls k3 _ _ l0 x8_3 false _ ?side1 ?side2 A22.out).mono ?_); (case side1 => exact ch_ HR0 HB); (case side2 => exact HC0.out); rintro e w' ⟨rfl, ⟨nd, rfl⟩⟩; refine ⟨_, rfl, ?_⟩; obtain ⟨Ao34, co34, eo34⟩ := Kd.R_slice HO_6.out; subst eo34) | (go_at_call 81; (with_reducible refine (spec_l3Table.calls k3 _ _ x6_3 x8_3 t369 _ ?side1 ?side2 A25.out).mono ?_); (case side1 => exact ce_ ((Kd.R_reads' HO_6.out).2.2)); (case side2 => exact (Kd.R_reads' HO_6.out).2.1); rintro e w35 ⟨v370, rfl, ho0, hb⟩; replace HO_6 := Aside0.mk (Kd.R_below (re_ HO_6.out) hb); have HO371 := Aside0.mk (Kd.R_lower ho0 (below_size (bq_ HB))); replace BK356 := bk_ BK356 hb; replace BK360 := bk_ BK360 hb; replace HB := bp_ HB hb; (try clear hb); (try clear ho0); obtain ⟨Ao36, co36, eo36⟩ := Kd.R_slice HO371.out; subst eo36; have p372 : 0 ≤ (x8_3 : Int) := od_; have q372 : x8_3 < (t369.length : Int) := od_; obtain ⟨ad372, e372, hx372_0⟩ := Kd.at_bool (Kd.R_reads' HO371.out).2.2 x8_3 p372 q372; (try rw [← Nbq28.out] at hx372_0); cases e372; replace p372 := eq_true p372; replace q372 := eq_true q372) | ((with_reducible refine gate_builtin (b := .append) (xs := #[.tmp 55, .tmp 57]) rfl ?_); (try (refine gate_guard (by rfl) ?_; dsimp only)); at_builtin; refine Kd.R_append (Kd.int .i64) (w0 := w) w.heap.size rfl (.tmp 55) (.tmp 57) 24 3 (.int .i64 0) 8 rfl Try.underlying24 info3 rfl (by decide) (by omega) (.slice Ao34 x6_3.length co34) x6_3 x8_3 [.int .i64 x8_3] (fun _ => True) (fun _ => False) rfl rfl ?aP (fun _ hk => hk.elim) ?aF ?aO ?aB ?aS ?aL ?_; (case aP => exact rfl); (case aB => exact (bq_ HB)); (case aF => exact (fun _ _ => trivial)); (case aO => exact (re_ HO_6.out)); (case aS => exact (below_size (bq_ HB))); (case aL => have := LMc33.out; omega); intro v374 w37 ho hb hg hat; rw [← Ny373.out] at ho; replace BK356 := Aside0.mk (blk_grown (be_ BK356.out) hg (Kd.R_ne HO_6.out BK356.out (by decide))); replace BK360 := Aside0.mk (blk_grown (be_ BK360.out) hg (Kd.R_ne HO_6.out BK360.out (by decide))); replace HO371 := Aside0.mk (Kd.R_over' (re_ HO371.out) (Kd.R_typed (re_ HO_6.out)) (by decide) hg); replace HB := Aside0.mk (hb); have HO375 := Aside0.mk (ho); clear HO_6; clear ho hb hg hat))
       go_roundg k3
       case measure => have := HJ2.out; have := HJ13.out; have := HK3.out; omega
       case rel => exact ⟨(y373), (wrap64 (x8_3 + 1)), rs_, H', ⟨by have := HJ2.out; have := HJ13.out; have := HK3.out; omega⟩, ⟨re_ HO375.out⟩, ⟨be_ BK356.out⟩, ⟨be_ BK360.out⟩, ⟨bq_ HB⟩⟩
def spec_RemoveGenerator.j0 : Nat → Int → Bool → List Int → Option (List Int × Bool)
 | 0, _, _, _ => none
 | k + 1, x1, x17, x380000 => if x17 = true then (some (([] : List Int), false)) else ((spec_l4Gaps.f k x380000).bind fun t383 => (if t383.length < 17592186044416 then ((spec_SortList.f k (t383 ++ [x1])).bind fun t389 => ((spec_FromGaps.f k t389).bind fun bt392 => (some (bt392.1, bt392.2)))) else (none)))
def spec_RemoveGenerator.f (k : Nat) (l0_0 : List Int) (a1 : Int) : Option (List Int × Bool) := (spec_IsSemigroup.f k l0_0).bind fun t381 => (if t381 = true then ((spec_HasNumber.f k l0_0 a1).bind fun t382 => (spec_RemoveGenerator.j0 k a1 (!t382) l0_0)) else (spec_RemoveGenerator.j0 k a1 true l0_0))
theorem spec_RemoveGenerator.calls (k : Nat) (A0_0 : Option Addr) (c0_0 : Nat) (l0_0 : List Int) (a1 : Int) (r1 : List Int) (r2 : Bool) (w : World) (hr0_0 : Kd.C (Kd.int .i64) w A0_0 l0_0.length l0_0) (hc0_0 : l0_0.length ≤ c0_0) (h : spec_RemoveGenerator.f k l0_0 a1 = some (r1, r2)) :
 Calls Try.prog 72 #[.agg #[.slice A0_0 l0_0.length c0_0], .int .i64 a1] w fun e w' => ∃ v0_ : Value, e = .returned (.tuple #[.agg #[v0_], .bool r2]) ∧ Kd.R (Kd.int .i64) 3 w' w.heap.size (fun _ => True) v0_ r1 ∧ Below w.heap.size w w' := by
 have hu26 := Try.underlying26
 have HR0_0 := Aside0.mk hr0_0
 have HC0_0 := Aside0.mk hc0_0
 clear hr0_0 hc0_0
 have HB := Aside0.mk (Below.refl w.heap.size w)
 have H := h
 clear h
 unfold spec_RemoveGenerator.f at H
 have HC3 := Aside0.mk H
 clear H
 go_enter Try.func72, Try.ntmps72
 go_upto_region 1 with (first | ((with_reducible refine gate_dst (N := 2) rfl ?_); refine bx_ 2 #[.slice A0_0 l0_0.length c0_0] 26 ?_; intro gb379 hg w4 hbox hb; have BK379 := Aside0.mk (hbox); have GW379 := gw_ hg HB; have GE379 := gw_ hg HB; replace HB := bo_ HB hb; clear hb hbox hg) | ((with_reducible refine gate_dst (N := 4) rfl ?_); refine bx_ 4 #[.slice none 0 0] 26 ?_; intro gb380 hg w5 hbox hb; have BK380 := Aside0.mk (hbox); have GW380 := gq_ hg (bq_ HB); have GE380 := gq_ hg (bq_ HB); replace HB := bp_ HB hb; have NB379_380 := nl_ hg BK379; have NB380_379 := ng_ hg BK379; replace BK379 := bk_ BK379 hb; clear hb hbox hg))
 (try simp only [Act.put, z1_, z2_, z3_])
 go_cut [17] (fun v17 wc => ∃ (kq : Nat) (x17_2 : Bool), v17 = .bool x17_2 ∧ Aside0 (spec_RemoveGenerator.j0 kq a1 x17_2 l0_0 = some (r1, r2)) ∧ Aside0 (kq ≤ k) ∧ Aside0 (wc.heap[gb379]? = some (.cells #[(.slice A0_0 l0_0.length c0_0)] 26 (0, 0))) ∧ Aside0 (wc.heap[gb380]? = some (.cells #[(.slice none 0 0)] 26 (0, 0))) ∧ Aside0 (Below w.heap.size w wc))
 case first =>
  have H := HC3.out
  clear HC3
  obtain ⟨t381, A6, H⟩ := ob_ H
  by_cases c7 : t381 = true
  rotate_left
  · replace c7 := Bool.eq_false_iff.mpr c7
    subst c7
    rw [if_neg (show ¬ (false = true) by decide)] at H
    have H' := Aside0.mk H
    clear H
    have hnb13 := NB379_380.out
    have hnc13 := NB380_379.out
    have hcz14_0 := cz_ BK379
    have hfz14_0 := blk_frozen BK379.out 0
    go_wp2_with (first | ((with_reducible refine gate_callee (f := 25) rfl ?_); refine gL_ (some 9) Try.func25 #[.agg #[.slice A0_0 l0_0.length c0_0]] ?_; (with_reducible refine (spec_IsSemigroup.calls k _ _ l0_0 false _ ?side1 ?side2 A6.out).mono ?_); (case side1 => exact ch_ HR0_0 HB); (case side2 => exact HC0_0.out); rintro e w15 ⟨rfl, hb⟩; refine ⟨_, rfl, ?_⟩; replace BK379 := bk_ BK379 hb; replace BK380 := bk_ BK380 hb; replace HB := bp_ HB hb; (try clear hb)))
    go_meet
    case rel => exact ⟨_, (true), rs_, H', ⟨by first | omega | exact Nat.le_refl _⟩, ⟨be_ BK379.out⟩, ⟨be_ BK380.out⟩, ⟨bq_ HB⟩⟩
  subst c7
  rw [if_pos rfl] at H
  obtain ⟨t382, A8, H⟩ := ob_ H
  have H' := Aside0.mk H
  clear H
  have hnb9 := NB379_380.out
  have hnc9 := NB380_379.out
  have hcz10_0 := cz_ BK379
  have hfz10_0 := blk_frozen BK379.out 0
  go_wp2_with (first | ((with_reducible refine gate_callee (f := 25) rfl ?_); refine gL_ (some 9) Try.func25 #[.agg #[.slice A0_0 l0_0.length c0_0]] ?_; (with_reducible refine (spec_IsSemigroup.calls k _ _ l0_0 true _ ?side1 ?side2 A6.out).mono ?_); (case side1 => exact ch_ HR0_0 HB); (case side2 => exact HC0_0.out); rintro e w11 ⟨rfl, hb⟩; refine ⟨_, rfl, ?_⟩; replace BK379 := bk_ BK379 hb; replace BK380 := bk_ BK380 hb; replace HB := bp_ HB hb; (try clear hb); have hcz12_0 := cz_ BK379; have hfz12_0 := blk_frozen BK379.out 0) | (go_at_call 84; (with_reducible refine (spec_HasNumber.calls k _ _ l0_0 a1 t382 _ ?side1 ?side2 A8.out).mono ?_); (case side1 => exact ch_ HR0_0 HB); (case side2 => exact HC0_0.out); rintro e w' ⟨rfl, ⟨nd, rfl⟩⟩))
  go_meet
  case rel => exact ⟨_, (!t382), rs_, H', ⟨by first | omega | exact Nat.le_refl _⟩, ⟨be_ BK379.out⟩, ⟨be_ BK380.out⟩, ⟨bq_ HB⟩⟩
 case rest =>
  clear HC3
  obtain ⟨kq, x17_2, rfl, HA, HJ2, BK379, BK380, HB⟩ := hcut
  cases kq with
  | zero => exact absurd HA.out (by simp [spec_RemoveGenerator.j0])
  | succ kj2 =>
   have H := HA.out
   clear HA
   simp only [spec_RemoveGenerator.j0] at H
   by_cases c16 : x17_2 = true
   · subst c16
     rw [if_pos rfl] at H
     simp only [Option.some.injEq, Prod.mk.injEq] at H
     obtain ⟨rfl, rfl⟩ := H
     have hnb17 := NB380_379.out
     have hnc17 := NB379_380.out
     have hcz18_0 := cz_ BK380
     have hfz18_0 := blk_frozen BK380.out 0
     go_wp2
     refine bodyPost_ret (results_ct rfl _ _ gb380 26 #[.slice none 0 0] (0, 0) _ rfl (bz_ BK380) Try.underlying26 rfl (by kernel_rfl)) rfl ?_
     exact ⟨_, rf_, by first | exact Kd.R_nil _ _ _ _ _ | exact Kd.N_nil _ _ _ _ _ | exact Kd.V_nil _ _ _ _ _ | exact Kd.Q_nil _ _ _ _ _ | exact Kd.S_nil _ _ _ _ _, bq_ HB⟩
   replace c16 := Bool.eq_false_iff.mpr c16
   subst c16
   rw [if_neg (show ¬ (false = true) by decide)] at H
   obtain ⟨t383, A19, H⟩ := ob_ H
   obtain ⟨c20, H⟩ := ip_ H
   have LMc20 := Aside0.mk c20
   clear c20
   obtain ⟨y386, hy386⟩ : ∃ y_ : List Int, y_ = (t383 ++ [a1]) := ⟨_, rfl⟩
   replace H : ((spec_SortList.f kj2 y386).bind fun t389 => ((spec_FromGaps.f kj2 t389).bind fun bt392 => (some (bt392.1, bt392.2)))) = some (r1, r2) := by subst hy386; exact H
   have Ny386 := Aside0.mk hy386
   clear hy386
   obtain ⟨t389, A21, H⟩ := ob_ H
   obtain ⟨⟨t392, t395⟩, A22, H⟩ := ob_ H
   (try dsimp only at H)
   simp only [Option.some.injEq, Prod.mk.injEq] at H
   obtain ⟨rfl, rfl⟩ := H
   have hnb23 := NB379_380.out
   have hnc23 := NB380_379.out
   have hcz24_0 := cz_ BK379
   have hfz24_0 := blk_frozen BK379.out 0
   go_wp2_with (first | ((with_reducible refine gate_callee (f := 54) rfl ?_); refine gL_ (some 21) Try.func54 #[.agg #[.slice A0_0 l0_0.length c0_0]] ?_; (with_reducible refine (spec_l4Gaps.calls kj2 _ _ l0_0 t383 _ ?side1 ?side2 A19.out).mono ?_); (case side1 => exact ch_ HR0_0 HB); (case side2 => exact HC0_0.out); rintro e w25 ⟨v384, rfl, ho0, hb⟩; refine ⟨_, rfl, ?_⟩; have HO385 := Aside0.mk (Kd.R_lower ho0 (below_size (bq_ HB))); replace BK379 := bk_ BK379 hb; replace BK380 := bk_ BK380 hb; replace HB := bp_ HB hb; (try clear hb); (try clear ho0)) | ((with_reducible refine gate_builtin (b := .append) (xs := #[.tmp 21, .tmp 23]) rfl ?_); at_builtin; refine Kd.R_append (Kd.int .i64) (w0 := w) w.heap.size rfl (.tmp 21) (.tmp 23) 24 3 (.int .i64 0) 8 rfl Try.underlying24 info3 rfl (by decide) (by omega) v384 t383 a1 [.int .i64 a1] (fun _ => True) (fun _ => False) rfl rfl ?aP (fun _ hk => hk.elim) ?aF ?aO ?aB ?aS ?aL ?_; (case aP => exact rfl); (case aB => exact (bq_ HB)); (case aF => exact (fun _ _ => trivial)); (case aO => exact (re_ HO385.out)); (case aS => exact (below_size (bq_ HB))); (case aL => have := LMc20.out; omega); intro v387 w26 ho hb hg hat; rw [← Ny386.out] at ho; replace BK379 := Aside0.mk (blk_grown (be_ BK379.out) hg (Kd.R_ne HO385.out BK379.out (by decide))); replace BK380 := Aside0.mk (blk_grown (be_ BK380.out) hg (Kd.R_ne HO385.out BK380.out (by decide))); replace HB := Aside0.mk (hb); have HO388 := Aside0.mk (ho); clear HO385; clear ho hb hg hat; obtain ⟨Ao27, co27, eo27⟩ := Kd.R_slice HO388.out; subst eo27) | ((with_reducible refine gate_callee (f := 53) rfl ?_); refine gL_ (some 25) Try.func53 #[.slice Ao27 y386.length co27] ?_; (with_reducible refine (spec_SortList.calls kj2 _ _ y386 t389 _ ?side1 ?side2 A21.out).mono ?_); (case side1 => exact ce_ ((Kd.R_reads' HO388.out).2.2)); (case side2 => exact (Kd.R_reads' HO388.out).2.1); rintro e w28 ⟨v390, rfl, ho0, hb⟩; refine ⟨_, rfl, ?_⟩; have HO391 := Aside0.mk (Kd.R_lower (Kd.R_new' ho0 (Kd.R_lt (re_ HO388.out))) (below_size (bq_ HB))); replace HO388 := Aside0.mk (Kd.R_elder' (re_ HO388.out) (Kd.R_base ho0) hb); replace BK379 := bk_ BK379 hb; replace BK380 := bk_ BK380 hb; replace HB := bp_ HB hb; (try clear hb); (try clear ho0); obtain ⟨Ao29, co29, eo29⟩ := Kd.R_slice HO391.out; subst eo29) | ((with_reducible refine gate_callee (f := 52) rfl ?_); refine gL_ (some 26) Try.func52 #[.slice Ao29 t389.length co29] ?_; (with_reducible refine (spec_FromGaps.calls kj2 _ _ t389 t392 t395 _ ?side1 ?side2 A22.out).mono ?_); (case side1 => exact ce_ ((Kd.R_reads' HO391.out).2.2)); (case side2 => exact (Kd.R_reads' HO391.out).2.1); rintro e w30 ⟨v393, rfl, ho0, hb⟩; refine ⟨_, rfl, ?_⟩; have HO394 := Aside0.mk (Kd.R_lower (Kd.R_new' (Kd.R_new' ho0 (Kd.R_lt (re_ HO388.out))) (Kd.R_lt (re_ HO391.out))) (below_size (bq_ HB))); replace HO388 := Aside0.mk (Kd.R_elder' (re_ HO388.out) (Kd.R_base ho0) hb); replace HO391 := Aside0.mk (Kd.R_elder' (re_ HO391.out) (Kd.R_base ho0) hb); replace BK379 := bk_ BK379 hb; replace BK380 := bk_ BK380 hb; replace HB := bp_ HB hb; (try clear hb); (try clear ho0)) | ((with_reducible refine gate_dst (N := 6) rfl ?_); refine bx_ 6 #[.slice none 0 0] 26 ?_; intro gb396 hg w31 hbox hb; replace HO388 := Aside0.mk (Kd.R_below (re_ HO388.out) hb); replace HO391 := Aside0.mk (Kd.R_below (re_ HO391.out) hb); replace HO394 := Aside0.mk (Kd.R_below (re_ HO394.out) hb); have BK396 := Aside0.mk (hbox); have GW396 := gq_ hg (bq_ HB); have GE396 := gq_ hg (bq_ HB); replace HB := bp_ HB hb; have NB379_396 := nl_ hg BK379; have NB396_379 := ng_ hg BK379; replace BK379 := bk_ BK379 hb; have NB380_396 := nl_ hg BK380; have NB396_380 := ng_ hg BK380; replace BK380 := bk_ BK380 hb; clear hb hbox hg; obtain ⟨Ao32, co32, eo32⟩ := Kd.R_slice HO394.out; subst eo32; have hnb33 := NB396_379.out; have hnc33 := NB379_396.out; have hnb34 := NB396_380.out; have hnc34 := NB380_396.out; have hcz35_0 := cz_ BK396; have hfz35_0 := blk_frozen BK396.out 0; have hcz36_0 := cz_ BK380; have hfz36_0 := blk_frozen BK380.out 0))
   refine bodyPost_ret (results_ct rfl _ _ gb380 26 #[.slice Ao32 t392.length co32] (0, 0) _ rfl (bz_ BK380) Try.underlying26 rfl (by kernel_rfl)) rfl ?_
   exact ⟨_, rf_, by (with_reducible repeat (first | apply Kd.R_alloc | apply Kd.R_drewN | apply Kd.R_drew)); exact Kd.R_mono (Kd.R_far (p := ⟨gb380, 0, none⟩) (Kd.R_far (p := ⟨gb396, 0, none⟩) (Kd.R_types (Kd.R_types HO394.out BK396.out (by decide)) BK380.out (by decide)) (fun _ hk => hk.1.2) (.slice Ao32 t392.length co32)) (fun _ hk => hk.2) (.slice Ao32 t392.length co32)) (fun _ hk => trivial), bq_ HB⟩
def spec_ChildrenOf.l0 : Nat → List (S26) → Int → Int → List Int → Option ((List (S26)) × Bool)
 | 0, _, _, _, _ => none
 | k + 1, x4, x5, x6, x398000 => if x6 < (x398000.length : Int) then (if 0 ≤ x6 then (if (rd x398000 x6) ≤ x5 then (spec_ChildrenOf.l0 k x4 x5 (wrap64 (x6 + 1)) x398000) else ((spec_RemoveGenerator.f k x398000 (rd x398000 x6)).bind fun bt408 => (if bt408.2 = true then (if x4.length < 5864062014805 then (spec_ChildrenOf.l0 k (x4 ++ [(⟨bt408.1⟩ : S26)]) x5 (wrap64 (x6 + 1)) x398000) else (none)) else (some ((([] : List (S26))), false))))) else (none)) else (some (x4, true))
def spec_ChildrenOf.f (k : Nat) (l0_0 : List Int) : Option ((List (S26)) × Bool) := (spec_IsSemigroup.f k l0_0).bind fun t398 => (if t398 = true then ((spec_FrobeniusOf.f k l0_0).bind fun t405 => (spec_ChildrenOf.l0 k (([] : List (S26))) t405 0 l0_0)) else (some ((([] : List (S26))), false)))
def spec_ChildrenOf.T9 : Bool × List (List Nat × List Nat) := (true, [([], []), ([], []), ([1], [1]), ([], []), ([2, 3], [2, 3]), ([4], [4]), ([0, 5], [0, 5]), ([6], [6]), ([7], [7]), ([7], [7]), ([], []), ([10, 8, 6, 0, 1, 2, 3, 4, 5, 6, 7, 8, 10], [8, 10]), ([9, 11, 0, 1, 2, 3, 4, 5, 6, 7, 8, 9, 10, 11], [9])])
def spec_ChildrenOf.B9 : List Nat := [0, 0, 2, 0, 14, 30, 63, 127, 255, 255, 0, 1535, 4095]
theorem spec_ChildrenOf.tab9 : rtab .any (opsOf Try.f42 9) = spec_ChildrenOf.T9 := by kernel_rfl
theorem spec_ChildrenOf.bits9 : waitsOk spec_ChildrenOf.T9.2 spec_ChildrenOf.B9 = true := by kernel_rfl
theorem spec_ChildrenOf.calls (k : Nat) (A0_0 : Option Addr) (c0_0 : Nat) (l0_0 : List Int) (r1 : List (S26)) (r2 : Bool) (w : World) (hr0_0 : Kd.C (Kd.int .i64) w A0_0 l0_0.length l0_0) (hc0_0 : l0_0.length ≤ c0_0) (h : spec_ChildrenOf.f k l0_0 = some (r1, r2)) :
 Calls Try.prog 42 #[.agg #[.slice A0_0 l0_0.length c0_0]] w fun e w' => ∃ v0_ : Value, e = .returned (.tuple #[v0_, .bool r2]) ∧ Kd.S k26 26 w' w.heap.size (fun _ => True) v0_ r1 ∧ Below w.heap.size w w' := by
 have hu26 := Try.underlying26
 have HR0_0 := Aside0.mk hr0_0
 have HC0_0 := Aside0.mk hc0_0
 clear hr0_0 hc0_0
 have HB := Aside0.mk (Below.refl w.heap.size w)
 have H := h
 clear h
 unfold spec_ChildrenOf.f at H
 obtain ⟨t398, A2, H⟩ := ob_ H
 by_cases c3 : t398 = true
 rotate_left
 · replace c3 := Bool.eq_false_iff.mpr c3
   subst c3
   rw [if_neg (show ¬ (false = true) by decide)] at H
   obtain ⟨y399, hy399⟩ : ∃ y_ : List (S26), y_ = (([] : List (S26))) := ⟨_, rfl⟩
   replace H : (some (y399, false)) = some (r1, r2) := by subst hy399; exact H
   have Ny399 := Aside0.mk hy399
   clear hy399
   simp only [Option.some.injEq, Prod.mk.injEq] at H
   obtain ⟨rfl, rfl⟩ := H
   go_enter Try.func42, Try.ntmps42
   go_wp2_with (first | ((with_reducible refine gate_dst (N := 1) rfl ?_); refine bx_ 1 #[.slice A0_0 l0_0.length c0_0] 26 ?_; intro gb397 hg w40 hbox hb; have BK397 := Aside0.mk (hbox); have GW397 := gw_ hg HB; have GE397 := gw_ hg HB; replace HB := bo_ HB hb; clear hb hbox hg; have hcz41_0 := cz_ BK397; have hfz41_0 := blk_frozen BK397.out 0) | ((with_reducible refine gate_callee (f := 25) rfl ?_); refine gL_ (some 10) Try.func25 #[.agg #[.slice A0_0 l0_0.length c0_0]] ?_; (with_reducible refine (spec_IsSemigroup.calls k _ _ l0_0 false _ ?side1 ?side2 A2.out).mono ?_); (case side1 => exact ch_ HR0_0 HB); (case side2 => exact HC0_0.out); rintro e w42 ⟨rfl, hb⟩; refine ⟨_, rfl, ?_⟩; replace BK397 := bk_ BK397 hb; replace HB := bp_ HB hb; (try clear hb)) | ((with_reducible refine gate_dst (N := 12) rfl ?_); refine Kd.S_lit k26 _ 26 ?hg (N := 12) ?hd (xs := ([] : List (S26))) (inner := []) (ok := fun _ => True) (okp := fun _ => True) ?hr ?hp (fun _ hk => hk) trivial (Below.refl _ _) (Nat.le_refl _) (by simp) ?_; (case hd => rfl); (case hg => rfl); (case hr => first | (go_simp; done) | (go_simp; rfl)); (case hp => exact (Reps.none _ _)); intro v400 w43 ho44 hb hg_ hnew_; clear hg_ hnew_; (first | rw [← Ny399.out] at ho44 | (simp only [Int.reduceToNat] at ho44; rw [← Ny399.out] at ho44)); have HO401 := Aside0.mk (Kd.S_lower (Kd.S_newB ho44 (g := gb397) (o := .cells #[.slice A0_0 l0_0.length c0_0] 26 (0, 0)) (be_ BK397.out)) (below_size (bq_ HB))); replace BK397 := bk_ BK397 hb; replace HB := bp_ HB hb; clear hb ho44))
   go_ret2
   exact ⟨_, rf_, by (with_reducible repeat (first | apply Kd.S_alloc | apply Kd.S_drewN | apply Kd.S_drew)); exact Kd.S_mono HO401.out (fun _ hk => trivial), bq_ HB⟩
 subst c3
 rw [if_pos rfl] at H
 obtain ⟨y402, hy402⟩ : ∃ y_ : List (S26), y_ = (([] : List (S26))) := ⟨_, rfl⟩
 replace H : ((spec_FrobeniusOf.f k l0_0).bind fun t405 => (spec_ChildrenOf.l0 k y402 t405 0 l0_0)) = some (r1, r2) := by subst hy402; exact H
 have Ny402 := Aside0.mk hy402
 clear hy402
 obtain ⟨t405, A4, H⟩ := ob_ H
 have H' := Aside0.mk H
 clear H
 go_enter Try.func42, Try.ntmps42
 go_wp2_with (first | ((with_reducible refine gate_dst (N := 1) rfl ?_); refine bx_ 1 #[.slice A0_0 l0_0.length c0_0] 26 ?_; intro gb397 hg w5 hbox hb; have BK397 := Aside0.mk (hbox); have GW397 := gw_ hg HB; have GE397 := gw_ hg HB; replace HB := bo_ HB hb; clear hb hbox hg; have hcz6_0 := cz_ BK397; have hfz6_0 := blk_frozen BK397.out 0) | ((with_reducible refine gate_callee (f := 25) rfl ?_); refine gL_ (some 10) Try.func25 #[.agg #[.slice A0_0 l0_0.length c0_0]] ?_; (with_reducible refine (spec_IsSemigroup.calls k _ _ l0_0 true _ ?side1 ?side2 A2.out).mono ?_); (case side1 => exact ch_ HR0_0 HB); (case side2 => exact HC0_0.out); rintro e w7 ⟨rfl, hb⟩; refine ⟨_, rfl, ?_⟩; replace BK397 := bk_ BK397 hb; replace HB := bp_ HB hb; (try clear hb)) | ((with_reducible refine gate_dst (N := 13) rfl ?_); refine Kd.S_lit k26 _ 26 ?hg (N := 13) ?hd (xs := ([] : List (S26))) (inner := []) (ok := fun _ => True) (okp := fun _ => True) ?hr ?hp (fun _ hk => hk) trivial (Below.refl _ _) (Nat.le_refl _) (by simp) ?_; (case hd => rfl); (case hg => rfl); (case hr => first | (go_simp; done) | (go_simp; rfl)); (case hp => exact (Reps.none _ _)); intro v403 w8 ho9 hb hg_ hnew_; clear hg_ hnew_; (first | rw [← Ny402.out] at ho9 | (simp only [Int.reduceToNat] at ho9; rw [← Ny402.out] at ho9)); have HO404 := Aside0.mk (Kd.S_lower (Kd.S_newB ho9 (g := gb397) (o := .cells #[.slice A0_0 l0_0.length c0_0] 26 (0, 0)) (be_ BK397.out)) (below_size (bq_ HB))); replace BK397 := bk_ BK397 hb; replace HB := bp_ HB hb; clear hb ho9; have hcz10_0 := cz_ BK397; have hfz10_0 := blk_frozen BK397.out 0) | ((with_reducible refine gate_callee (f := 71) rfl ?_); refine gL_ (some 15) Try.func71 #[.agg #[.slice A0_0 l0_0.length c0_0]] ?_; (with_reducible refine (spec_FrobeniusOf.calls k _ _ l0_0 t405 _ ?side1 ?side2 A4.out).mono ?_); (case side1 => exact ch_ HR0_0 HB); (case side2 => exact HC0_0.out); rintro e w11 ⟨rfl, hb⟩; refine ⟨_, rfl, ?_⟩; replace HO404 := Aside0.mk (Kd.S_below (by (with_reducible repeat (first | apply Kd.S_alloc | apply Kd.S_drewN | apply Kd.S_drew)); exact HO404.out) hb); replace BK397 := bk_ BK397 hb; replace HB := bp_ HB hb; (try clear hb)))
 go_loopg [4, 6] k (fun kq v4 v6 w' => ∃ (x4_1 : List (S26)) (x6_1 : Int), v6 = .int .i64 x6_1 ∧ Aside0 (spec_ChildrenOf.l0 kq x4_1 t405 x6_1 l0_0 = some (r1, r2)) ∧ Aside0 (kq ≤ k) ∧ Aside0 (Kd.S k26 26 w' w.heap.size (fun k_ => k_ ≠ gb397) v4 x4_1) ∧ Aside0 (w'.heap[gb397]? = some (.cells #[(.slice A0_0 l0_0.length c0_0)] 26 (0, 0))) ∧ Aside0 (Below w.heap.size w w'))
 case atStart => exact ⟨(y402), (0), rs_, H', ⟨Nat.le_refl _⟩, ⟨by (with_reducible repeat (first | apply Kd.S_alloc | apply Kd.S_drewN | apply Kd.S_drew)); exact Kd.S_mono HO404.out (fun _ hk => hk.2)⟩, ⟨be_ BK397.out⟩, ⟨bq_ HB⟩⟩
 case round =>
  clear H'
  try clear hcz10_0
  try clear hcz6_0
  try clear hfz10_0
  try clear hfz6_0
  obtain ⟨x4_1, x6_1, rfl, HA, HK1, HO_4, BK397, HB⟩ := hrel
  cases gk with
  | zero => exact absurd HA.out (by simp [spec_ChildrenOf.l0])
  | succ k1 =>
   have H := HA.out
   clear HA
   simp only [spec_ChildrenOf.l0] at H
   by_cases c12 : x6_1 < (l0_0.length : Int)
   rotate_left
   · rw [if_neg c12] at H
     have c12b0 : decide (x6_1 < (l0_0.length : Int)) = false := decide_eq_false c12
     clear c12
     simp only [Option.some.injEq, Prod.mk.injEq] at H
     obtain ⟨rfl, rfl⟩ := H
     have hcz39_0 := cz_ BK397
     have hfz39_0 := blk_frozen BK397.out 0
     go_wp2
     go_ret2
     exact ⟨_, rf_, by (with_reducible repeat (first | apply Kd.S_alloc | apply Kd.S_drewN | apply Kd.S_drew)); exact Kd.S_mono HO_4.out (fun _ hk => trivial), bq_ HB⟩
   rw [if_pos c12] at H
   have c12b0 : decide (x6_1 < (l0_0.length : Int)) = true := decide_eq_true c12
   clear c12
   obtain ⟨c13b0, H⟩ := ipd_ H
   by_cases c14 : (rd l0_0 x6_1) ≤ t405
   · rw [if_pos c14] at H
     have c14b0 : decide ((rd l0_0 x6_1) ≤ t405) = true := decide_eq_true c14
     clear c14
     have H' := Aside0.mk H
     clear H
     have hcz15_0 := cz_ BK397
     have hfz15_0 := blk_frozen BK397.out 0
     have p406 : 0 ≤ (x6_1 : Int) := od_
     have q406 : x6_1 < (l0_0.length : Int) := od_
     obtain ⟨ad406, e406, hx406_0⟩ := Kd.at_int HR0_0.out x6_1 p406 q406
     cases e406
     (try replace hx406_0 := (HB.out.cell (World.block_lt_of_cell? w _ hx406_0)).trans hx406_0)
     replace p406 := eq_true p406
     replace q406 := eq_true q406
     go_wp2
     go_roundg k1
     case measure => have := HK1.out; omega
     case rel => exact ⟨(x4_1), (wrap64 (x6_1 + 1)), rs_, H', ⟨by have := HK1.out; omega⟩, ⟨by (with_reducible repeat (first | apply Kd.S_alloc | apply Kd.S_drewN | apply Kd.S_drew)); exact HO_4.out⟩, ⟨be_ BK397.out⟩, ⟨bq_ HB⟩⟩
   rw [if_neg c14] at H
   have c14b0 : decide ((rd l0_0 x6_1) ≤ t405) = false := decide_eq_false c14
   clear c14
   obtain ⟨⟨t408, t411⟩, A16, H⟩ := ob_ H
   (try dsimp only at H)
   by_cases c17 : t411 = true
   rotate_left
   · replace c17 := Bool.eq_false_iff.mpr c17
     subst c17
     rw [if_neg (show ¬ (false = true) by decide)] at H
     obtain ⟨y416, hy416⟩ : ∃ y_ : List (S26), y_ = (([] : List (S26))) := ⟨_, rfl⟩
     replace H : (some (y416, false)) = some (r1, r2) := by subst hy416; exact H
     have Ny416 := Aside0.mk hy416
     clear hy416
     simp only [Option.some.injEq, Prod.mk.injEq] at H
     obtain ⟨rfl, rfl⟩ := H
     have hcz30_0 := cz_ BK397
     have hfz30_0 := blk_frozen BK397.out 0
     have p406 : 0 ≤ (x6_1 : Int) := od_
     have q406 : x6_1 < (l0_0.length : Int) := od_
     obtain ⟨ad406, e406, hx406_0⟩ := Kd.at_int HR0_0.out x6_1 p406 q406
     cases e406
     (try replace hx406_0 := (HB.out.cell (World.block_lt_of_cell? w _ hx406_0)).trans hx406_0)
     replace p406 := eq_true p406
     replace q406 := eq_true q406
     try go_wp2
     replace HO_4 := Aside0.mk (Kd.S_drew HO_4.out)
     replace BK397 := Aside0.mk (blk_drew BK397.out)
     replace HB := Aside0.mk (below_drew1 HB.out)
     have p407 : 0 ≤ (x6_1 : Int) := od_
     have q407 : x6_1 < (l0_0.length : Int) := od_
     obtain ⟨ad407, e407, hx407_0⟩ := Kd.at_int HR0_0.out x6_1 p407 q407
     have hw407_0 := hx407_0
     obtain rfl : ad406 = ad407 := (by injection e407)
     (try replace hx407_0 := (HB.out.cell (World.block_lt_of_cell? w _ hx407_0)).trans hx407_0)
     replace p407 := eq_true p407
     replace q407 := eq_true q407
     refine start_ (n := 13) (S := fun w' => w'.cell? ⟨gb397, 0, none⟩ = some (.slice (some ad406) l0_0.length c0_0) ∧ w'.cell? (ad406.add (x6_1).toNat) = some (.int .i64 (rd l0_0 x6_1))) (ds := []) (B_ 0 13) (by kernel_rfl) rfl rfl ⟨(blk_cell BK397.out 0).trans rfl, ((HB.out.cell (World.block_lt_of_cell? w _ hw407_0)).trans hw407_0)⟩ (fun hHeld => ?_); refine with_tabW spec_ChildrenOf.tab9 spec_ChildrenOf.bits9 (fun HT_ HW_ => ?_)
     generalize wr.drew = w31 at HO_4 BK397 HB hx407_0 hHeld ⊢
     refine pu_ HT_ 1 32 (B_ 2 13) ?_
     refine pu_ HT_ 3 34 (B_ 10 13) ?_
     refine tk2_ HT_ HW_ hHeld 0 31 (B_ 11 13) ?_
     refine tk2_ HT_ HW_ hHeld 2 33 (B_ 15 13) ?_
     refine pu_ HT_ 4 35 (B_ 31 13) ?_
     refine tk2_ HT_ HW_ hHeld 5 36 (B_ 63 13) ?_
     refine join_ (σ := Value × Nat) 2 (B_ 2047 13) (fun s_ => [(37, .tuple #[.agg #[s_.1], .bool false]), (7, .pointer (some ⟨s_.2, 0, none⟩)), (30, .tuple #[.agg #[s_.1], .bool false]), (38, .agg #[s_.1]), (39, .bool false)]) (fun s_ w' => (w'.cell? ⟨gb397, 0, none⟩ = some (.slice (some ad406) l0_0.length c0_0) ∧ w'.cell? (ad406.add (x6_1).toNat) = some (.int .i64 (rd l0_0 x6_1))) ∧ (Kd.R (Kd.int .i64) 3 w' w.heap.size (fun _ => True) s_.1 t408) ∧ (Kd.S k26 26 w' w.heap.size (fun k_ => some k_ ≠ (s_.1 : Value).ownBlock ∧ k_ ≠ gb397 ∧ k_ ≠ s_.2) u4 x4_1) ∧ (w'.heap[gb397]? = some (.cells #[.slice (some ad406) l0_0.length c0_0] 26 (0, 0))) ∧ (w'.heap[s_.2]? = some (.cells #[.slice none 0 0] 26 (0, 0))) ∧ (w.heap.size ≤ s_.2) ∧ (w.heap.size ≤ s_.2) ∧ (gb397 ≠ s_.2) ∧ (s_.2 ≠ gb397) ∧ (Below w.heap.size w w')) ?_ ?_
     rotate_left
     · intro hCont
       refine two_ (i := 6) (j := 10) (Ni := some 37) (Nj := some 7) (B_ 127 13) (B_ 1087 13) rfl rfl rfl rfl (two_of HT_.out (by kernel_rfl)) (by decide) (by decide) (fun K hK => ?_) (fun K hK => ?_)
       · skip
         refine goes_ Try.func72 (by kernel_rfl) rfl #[.agg #[.slice (some ad406) l0_0.length c0_0], .int .i64 (rd l0_0 x6_1)] (by rfl) rfl rfl (by (try simp only [List.map_toArray, List.map_cons, List.map_nil]); first | done | rfl | (simp only [List.length_drop, List.length_take]; rfl)) ?_
         with_reducible refine (spec_RemoveGenerator.calls k1 _ _ l0_0 (rd l0_0 x6_1) t408 false _ ?side1 ?side2 A16.out).mono ?_
         (case side1 => exact ch_ HR0_0 HB)
         (case side2 => exact HC0_0.out)
         rintro e w32 ⟨v409, rfl, ho0, hb⟩
         refine ⟨_, rfl, ?_⟩
         replace HO_4 := Aside0.mk (Kd.S_elder' (by (with_reducible repeat (first | apply Kd.S_alloc | apply Kd.S_drewN | apply Kd.S_drew)); exact HO_4.out) (Kd.R_base ho0) hb)
         have HO410 := Aside0.mk (Kd.R_lower ho0 (below_size (bq_ HB)))
         replace BK397 := bk_ BK397 hb
         replace HB := bp_ HB hb
         (try clear hb)
         (try clear ho0)
         refine hK.out _ _ ⟨(blk_cell BK397.out 0).trans rfl, ((HB.out.cell (World.block_lt_of_cell? w _ hw407_0)).trans hw407_0)⟩ (fun hHeld => ?_)
         clear hK K
         refine norm_ (a' := ?_) ?_ ?_
         rotate_left
         · show Act.put _ (some 37) _ = _
           simp only [Act.put, z1_, z2_, z3_, i64_w, i32_w]
           rfl
         refine pu_ HT_ 7 30 (B_ 255 13) ?_
         refine pu_ HT_ 8 38 (B_ 511 13) ?_
         refine pu_ HT_ 9 39 (B_ 1023 13) ?_
         refine on_ HT_ 10 7 (B_ 2047 13) (fun K hK => ?_)
         refine box_step ?hg (N := 7) ?hd (cs := #[.slice none 0 0]) (t := 26) ?hr ?_; (case hd => rfl); (case hg => rfl); (case hr => first | (go_simp; done) | (go_simp; rfl))
         intro gb412 hg w33 hbox hb
         replace HO_4 := Aside0.mk (Kd.S_below (Kd.S_elderB (by (with_reducible repeat (first | apply Kd.S_alloc | apply Kd.S_drewN | apply Kd.S_drew)); exact HO_4.out) gb412 (Nat.le_of_eq hg.symm)) hb)
         replace HO410 := Aside0.mk (Kd.R_below (re_ HO410.out) hb)
         have BK412 := Aside0.mk (hbox)
         have GW412 := gq_ hg (bq_ HB)
         have GE412 := gq_ hg (bq_ HB)
         replace HB := bp_ HB hb
         have NB397_412 := nl_ hg BK397
         have NB412_397 := ng_ hg BK397
         replace BK397 := bk_ BK397 hb
         clear hb hbox hg
         refine hK.out _ _ ⟨(blk_cell BK397.out 0).trans rfl, ((HB.out.cell (World.block_lt_of_cell? w _ hw407_0)).trans hw407_0)⟩ (fun hHeld => ?_)
         clear hK K
         refine norm_ (a' := ?_) ?_ ?_
         rotate_left
         · show Act.put _ (some 7) _ = _
           simp only [Act.put, z1_, z2_, z3_, i64_w, i32_w]
           rfl
         exact norm_ (by simp only [putAll, Act.put, z1_, z2_, z3_]) (hCont (v409, gb412) _ ⟨hHeld, (re_ HO410.out), (by (with_reducible repeat (first | apply Kd.S_alloc | apply Kd.S_drewN | apply Kd.S_drew)); exact Kd.S_mono HO_4.out (fun _ hk => ⟨hk.1.2, ⟨hk.1.1, hk.2⟩⟩)), (be_ BK397.out), (be_ BK412.out), GW412.out, GE412.out, NB397_412.out, NB412_397.out, (bq_ HB)⟩)
       · skip
         refine box_step ?hg (N := 7) ?hd (cs := #[.slice none 0 0]) (t := 26) ?hr ?_; (case hd => rfl); (case hg => rfl); (case hr => first | (go_simp; done) | (go_simp; rfl))
         intro gb412 hg w32 hbox hb
         replace HO_4 := Aside0.mk (Kd.S_below (Kd.S_elderB (by (with_reducible repeat (first | apply Kd.S_alloc | apply Kd.S_drewN | apply Kd.S_drew)); exact HO_4.out) gb412 (Nat.le_of_eq hg.symm)) hb)
         have BK412 := Aside0.mk (hbox)
         have GW412 := gq_ hg (bq_ HB)
         have GE412 := gq_ hg (bq_ HB)
         replace HB := bp_ HB hb
         have NB397_412 := nl_ hg BK397
         have NB412_397 := ng_ hg BK397
         replace BK397 := bk_ BK397 hb
         clear hb hbox hg
         refine hK.out _ _ ⟨(blk_cell BK397.out 0).trans rfl, ((HB.out.cell (World.block_lt_of_cell? w _ hw407_0)).trans hw407_0)⟩ (fun hHeld => ?_)
         clear hK K
         refine norm_ (a' := ?_) ?_ ?_
         rotate_left
         · show Act.put _ (some 7) _ = _
           simp only [Act.put, z1_, z2_, z3_, i64_w, i32_w]
           rfl
         refine on_ HT_ 6 37 (B_ 1151 13) (fun K hK => ?_)
         refine goes_ Try.func72 (by kernel_rfl) rfl #[.agg #[.slice (some ad406) l0_0.length c0_0], .int .i64 (rd l0_0 x6_1)] (by rfl) rfl rfl (by (try simp only [List.map_toArray, List.map_cons, List.map_nil]); first | done | rfl | (simp only [List.length_drop, List.length_take]; rfl)) ?_
         with_reducible refine (spec_RemoveGenerator.calls k1 _ _ l0_0 (rd l0_0 x6_1) t408 false _ ?side1 ?side2 A16.out).mono ?_
         (case side1 => exact ch_ HR0_0 HB)
         (case side2 => exact HC0_0.out)
         rintro e w33 ⟨v409, rfl, ho0, hb⟩
         refine ⟨_, rfl, ?_⟩
         replace HO_4 := Aside0.mk (Kd.S_elder' (by (with_reducible repeat (first | apply Kd.S_alloc | apply Kd.S_drewN | apply Kd.S_drew)); exact HO_4.out) (Kd.R_base ho0) hb)
         have HO410 := Aside0.mk (Kd.R_lower ho0 (below_size (bq_ HB)))
         replace BK397 := bk_ BK397 hb
         replace BK412 := bk_ BK412 hb
         replace HB := bp_ HB hb
         (try clear hb)
         (try clear ho0)
         refine hK.out _ _ ⟨(blk_cell BK397.out 0).trans rfl, ((HB.out.cell (World.block_lt_of_cell? w _ hw407_0)).trans hw407_0)⟩ (fun hHeld => ?_)
         clear hK K
         refine norm_ (a' := ?_) ?_ ?_
         rotate_left
         · show Act.put _ (some 37) _ = _
           simp only [Act.put, z1_, z2_, z3_, i64_w, i32_w]
           rfl
         refine pu_ HT_ 7 30 (B_ 1279 13) ?_
         refine pu_ HT_ 8 38 (B_ 1535 13) ?_
         refine pu_ HT_ 9 39 (B_ 2047 13) ?_
         exact norm_ (by simp only [putAll, Act.put, z1_, z2_, z3_]) (hCont (v409, gb412) _ ⟨hHeld, (re_ HO410.out), (by (with_reducible repeat (first | apply Kd.S_alloc | apply Kd.S_drewN | apply Kd.S_drew)); exact Kd.S_mono HO_4.out (fun _ hk => ⟨hk.2, ⟨hk.1.1, hk.1.2⟩⟩)), (be_ BK397.out), (be_ BK412.out), GW412.out, GE412.out, NB397_412.out, NB412_397.out, (bq_ HB)⟩)
     rintro ⟨v409, gb412⟩ w34 ⟨hS_, h0_, h1_, h2_, h3_, h4_, h5_, h6_, h7_, h8_⟩
     have n0_ : Aside0 (Kd.R (Kd.int .i64) 3 w34 w.heap.size (fun _ => True) v409 t408) := ⟨h0_⟩
     have n1_ : Aside0 (Kd.S k26 26 w34 w.heap.size (fun k_ => some k_ ≠ (v409 : Value).ownBlock ∧ k_ ≠ gb397 ∧ k_ ≠ gb412) u4 x4_1) := ⟨h1_⟩
     have n2_ : Aside0 (w34.heap[gb397]? = some (.cells #[.slice (some ad406) l0_0.length c0_0] 26 (0, 0))) := ⟨h2_⟩
     have n3_ : Aside0 (w34.heap[gb412]? = some (.cells #[.slice none 0 0] 26 (0, 0))) := ⟨h3_⟩
     have n4_ : Aside0 (w.heap.size ≤ gb412) := ⟨h4_⟩
     have n5_ : Aside0 (w.heap.size ≤ gb412) := ⟨h5_⟩
     have n6_ : Aside0 (gb397 ≠ gb412) := ⟨h6_⟩
     have n7_ : Aside0 (gb412 ≠ gb397) := ⟨h7_⟩
     have n8_ : Aside0 (Below w.heap.size w w34) := ⟨h8_⟩
     clear HO_4
     clear BK397
     clear HB
     clear h0_ h1_ h2_ h3_ h4_ h5_ h6_ h7_ h8_
     have HO410 := n0_
     have HO_4 := n1_
     have BK397 := n2_
     have BK412 := n3_
     have GW412 := n4_
     have GE412 := n5_
     have NB397_412 := n6_
     have NB412_397 := n7_
     have HB := n8_
     clear n0_ n1_ n2_ n3_ n4_ n5_ n6_ n7_ n8_
     have hHeld : w34.cell? ⟨gb397, 0, none⟩ = some (.slice (some ad406) l0_0.length c0_0) ∧ w34.cell? (ad406.add (x6_1).toNat) = some (.int .i64 (rd l0_0 x6_1)) := hS_
     obtain ⟨Ao35, co35, eo35⟩ := Kd.R_slice HO410.out
     (first | subst eo35 | (injection eo35 with f1_ f2_ f3_; have f4_ := f1_.symm; have f5_ := f3_.symm; clear f1_ f2_ f3_; subst f4_; subst f5_))
     refine norm_ (a' := ?_) ?_ ?_
     rotate_left
     · simp only [putAll, Act.put, z1_, z2_, z3_]
       rfl
     refine one_ (i := 11) (N := none) (B_ 4095 13) rfl rfl (one_of HT_.out (by kernel_rfl)) (by decide) (fun K hK => ?_)
     have hs36 : w34.cell? ⟨gb412, 0, none⟩ = some (.slice none 0 0) := (blk_cell BK412.out 0).trans rfl
     have hfs36 := blk_frozen BK412.out 0
     have hns36_0 := NB397_412.out
     have hms36_0 := NB412_397.out
     refine skip_ (w1 := ?_) (by rfl) rfl ?_ ?_
     rotate_left
     · go_simp
       rfl
     refine hK.out _ _ ⟨((cell_far (p := ⟨gb412, _, none⟩) NB397_412.out _).trans (hHeld.1)), ((cell_far (p := ⟨gb412, _, none⟩) (by first | exact Nat.ne_of_lt (Nat.lt_of_lt_of_le (by have := World.block_lt_of_cell? _ _ hw407_0; first | rwa [add_block] at this | exact this) GW412.out) | (rw [add_block]; exact Nat.ne_of_lt (Nat.lt_of_lt_of_le (by have := World.block_lt_of_cell? _ _ hw407_0; first | rwa [add_block] at this | exact this) GW412.out)) | (show (Addr.add _ _).block ≠ _; rw [add_block]; exact Nat.ne_of_lt (Nat.lt_of_lt_of_le (by have := World.block_lt_of_cell? _ _ hw407_0; first | rwa [add_block] at this | exact this) GW412.out)) | (dsimp only; exact Nat.ne_of_lt (Nat.lt_of_lt_of_le (by have := World.block_lt_of_cell? _ _ hw407_0; first | rwa [add_block] at this | exact this) GW412.out))) _).trans (hHeld.2))⟩ (fun hHeld => ?_)
     clear hK K
     refine pu_ HT_ 12 8 (B_ 8191 13) ?_
     refine done_ (done_of HT_.out (by kernel_rfl)) ?_
     try go_wp2_with (first | ((with_reducible refine gate_dst (N := 42) rfl ?_); refine Kd.S_lit k26 _ 26 ?hg (N := 42) ?hd (xs := ([] : List (S26))) (inner := []) (ok := fun _ => True) (okp := fun _ => True) ?hr ?hp (fun _ hk => hk) trivial (Below.refl _ _) (Nat.le_refl _) (by simp) ?_; (case hd => rfl); (case hg => rfl); (case hr => first | (go_simp; done) | (go_simp; rfl)); (case hp => exact (Reps.none _ _)); intro v417 w37 ho38 hb hg_ hnew_; clear hg_ hnew_; (first | rw [← Ny416.out] at ho38 | (simp only [Int.reduceToNat] at ho38; rw [← Ny416.out] at ho38)); have HO418 := Aside0.mk (Kd.S_lower (Kd.S_newB (Kd.S_newB (Kd.S_new' (Kd.S_new' ho38 (Kd.S_lt (by (with_reducible repeat (first | apply Kd.S_alloc | apply Kd.S_drewN | apply Kd.S_drew)); exact (Kd.S_mono (Kd.S_far (p := ⟨gb412, 0, none⟩) (Kd.S_mono HO_4.out (fun k_ hk => (⟨hk, hk.2.2⟩ : _ ∧ k_ ≠ gb412))) (fun _ hk => hk.2) (.slice Ao35 t408.length co35)) (fun _ h_ => h_.1))))) (Kd.R_lt (rf1_ HO410 BK412))) (g := gb397) (o := .cells #[.slice (some ad406) l0_0.length c0_0] 26 (0, 0)) (ba_ BK397)) (g := gb412) (o := .cells #[.slice Ao35 t408.length co35] 26 (0, 0)) (bz_ BK412)) (below_size (bq_ HB))); replace HO_4 := Aside0.mk (Kd.S_elder' (by (with_reducible repeat (first | apply Kd.S_alloc | apply Kd.S_drewN | apply Kd.S_drew)); exact (Kd.S_mono (Kd.S_far (p := ⟨gb412, 0, none⟩) (Kd.S_mono HO_4.out (fun k_ hk => (⟨hk, hk.2.2⟩ : _ ∧ k_ ≠ gb412))) (fun _ hk => hk.2) (.slice Ao35 t408.length co35)) (fun _ h_ => h_.1))) (Kd.S_base ho38) hb); replace HO410 := Aside0.mk (Kd.R_below (rf1_ HO410 BK412) hb); replace BK397 := Aside0.mk (blk_below (g := gb397) (o := .cells #[.slice (some ad406) l0_0.length c0_0] 26 (0, 0)) (ba_ BK397) hb); replace BK412 := Aside0.mk (blk_below (g := gb412) (o := .cells #[.slice Ao35 t408.length co35] 26 (0, 0)) (bz_ BK412) hb); replace HB := bp_ HB hb; clear hb ho38))
     go_ret2
     exact ⟨_, rf_, by (with_reducible repeat (first | apply Kd.S_alloc | apply Kd.S_drewN | apply Kd.S_drew)); exact Kd.S_mono HO418.out (fun _ hk => trivial), bq_ HB⟩
   subst c17
   rw [if_pos rfl] at H
   obtain ⟨c18, H⟩ := ip_ H
   have LMc18 := Aside0.mk c18
   clear c18
   obtain ⟨y413, hy413⟩ : ∃ y_ : List (S26), y_ = (x4_1 ++ [(⟨t408⟩ : S26)]) := ⟨_, rfl⟩
   replace H : (spec_ChildrenOf.l0 k1 y413 t405 (wrap64 (x6_1 + 1)) l0_0) = some (r1, r2) := by subst hy413; exact H
   have Ny413 := Aside0.mk hy413
   clear hy413
   have H' := Aside0.mk H
   clear H
   have hcz19_0 := cz_ BK397
   have hfz19_0 := blk_frozen BK397.out 0
   have p406 : 0 ≤ (x6_1 : Int) := od_
   have q406 : x6_1 < (l0_0.length : Int) := od_
   obtain ⟨ad406, e406, hx406_0⟩ := Kd.at_int HR0_0.out x6_1 p406 q406
   cases e406
   (try replace hx406_0 := (HB.out.cell (World.block_lt_of_cell? w _ hx406_0)).trans hx406_0)
   replace p406 := eq_true p406
   replace q406 := eq_true q406
   try go_wp2
   replace HO_4 := Aside0.mk (Kd.S_drew HO_4.out)
   replace BK397 := Aside0.mk (blk_drew BK397.out)
   replace HB := Aside0.mk (below_drew1 HB.out)
   have p407 : 0 ≤ (x6_1 : Int) := od_
   have q407 : x6_1 < (l0_0.length : Int) := od_
   obtain ⟨ad407, e407, hx407_0⟩ := Kd.at_int HR0_0.out x6_1 p407 q407
   have hw407_0 := hx407_0
   obtain rfl : ad406 = ad407 := (by injection e407)
   (try replace hx407_0 := (HB.out.cell (World.block_lt_of_cell? w _ hx407_0)).trans hx407_0)
   replace p407 := eq_true p407
   replace q407 := eq_true q407
   refine start_ (n := 13) (S := fun w' => w'.cell? ⟨gb397, 0, none⟩ = some (.slice (some ad406) l0_0.length c0_0) ∧ w'.cell? (ad406.add (x6_1).toNat) = some (.int .i64 (rd l0_0 x6_1))) (ds := []) (B_ 0 13) (by kernel_rfl) rfl rfl ⟨(blk_cell BK397.out 0).trans rfl, ((HB.out.cell (World.block_lt_of_cell? w _ hw407_0)).trans hw407_0)⟩ (fun hHeld => ?_); refine with_tabW spec_ChildrenOf.tab9 spec_ChildrenOf.bits9 (fun HT_ HW_ => ?_)
   generalize wr.drew = w20 at HO_4 BK397 HB hx407_0 hHeld ⊢
   refine pu_ HT_ 1 32 (B_ 2 13) ?_
   refine pu_ HT_ 3 34 (B_ 10 13) ?_
   refine tk2_ HT_ HW_ hHeld 0 31 (B_ 11 13) ?_
   refine tk2_ HT_ HW_ hHeld 2 33 (B_ 15 13) ?_
   refine pu_ HT_ 4 35 (B_ 31 13) ?_
   refine tk2_ HT_ HW_ hHeld 5 36 (B_ 63 13) ?_
   refine join_ (σ := Value × Nat) 2 (B_ 2047 13) (fun s_ => [(37, .tuple #[.agg #[s_.1], .bool true]), (7, .pointer (some ⟨s_.2, 0, none⟩)), (30, .tuple #[.agg #[s_.1], .bool true]), (38, .agg #[s_.1]), (39, .bool true)]) (fun s_ w' => (w'.cell? ⟨gb397, 0, none⟩ = some (.slice (some ad406) l0_0.length c0_0) ∧ w'.cell? (ad406.add (x6_1).toNat) = some (.int .i64 (rd l0_0 x6_1))) ∧ (Kd.R (Kd.int .i64) 3 w' w.heap.size (fun _ => True) s_.1 t408) ∧ (Kd.S k26 26 w' w.heap.size (fun k_ => some k_ ≠ (s_.1 : Value).ownBlock ∧ k_ ≠ gb397 ∧ k_ ≠ s_.2) u4 x4_1) ∧ (w'.heap[gb397]? = some (.cells #[.slice (some ad406) l0_0.length c0_0] 26 (0, 0))) ∧ (w'.heap[s_.2]? = some (.cells #[.slice none 0 0] 26 (0, 0))) ∧ (w.heap.size ≤ s_.2) ∧ (w.heap.size ≤ s_.2) ∧ (gb397 ≠ s_.2) ∧ (s_.2 ≠ gb397) ∧ (Below w.heap.size w w')) ?_ ?_
   rotate_left
   · intro hCont
     refine two_ (i := 6) (j := 10) (Ni := some 37) (Nj := some 7) (B_ 127 13) (B_ 1087 13) rfl rfl rfl rfl (two_of HT_.out (by kernel_rfl)) (by decide) (by decide) (fun K hK => ?_) (fun K hK => ?_)
     · skip
       refine goes_ Try.func72 (by kernel_rfl) rfl #[.agg #[.slice (some ad406) l0_0.length c0_0], .int .i64 (rd l0_0 x6_1)] (by rfl) rfl rfl (by (try simp only [List.map_toArray, List.map_cons, List.map_nil]); first | done | rfl | (simp only [List.length_drop, List.length_take]; rfl)) ?_
       with_reducible refine (spec_RemoveGenerator.calls k1 _ _ l0_0 (rd l0_0 x6_1) t408 true _ ?side1 ?side2 A16.out).mono ?_
       (case side1 => exact ch_ HR0_0 HB)
       (case side2 => exact HC0_0.out)
       rintro e w21 ⟨v409, rfl, ho0, hb⟩
       refine ⟨_, rfl, ?_⟩
       replace HO_4 := Aside0.mk (Kd.S_elder' (by (with_reducible repeat (first | apply Kd.S_alloc | apply Kd.S_drewN | apply Kd.S_drew)); exact HO_4.out) (Kd.R_base ho0) hb)
       have HO410 := Aside0.mk (Kd.R_lower ho0 (below_size (bq_ HB)))
       replace BK397 := bk_ BK397 hb
       replace HB := bp_ HB hb
       (try clear hb)
       (try clear ho0)
       refine hK.out _ _ ⟨(blk_cell BK397.out 0).trans rfl, ((HB.out.cell (World.block_lt_of_cell? w _ hw407_0)).trans hw407_0)⟩ (fun hHeld => ?_)
       clear hK K
       refine norm_ (a' := ?_) ?_ ?_
       rotate_left
       · show Act.put _ (some 37) _ = _
         simp only [Act.put, z1_, z2_, z3_, i64_w, i32_w]
         rfl
       refine pu_ HT_ 7 30 (B_ 255 13) ?_
       refine pu_ HT_ 8 38 (B_ 511 13) ?_
       refine pu_ HT_ 9 39 (B_ 1023 13) ?_
       refine on_ HT_ 10 7 (B_ 2047 13) (fun K hK => ?_)
       refine box_step ?hg (N := 7) ?hd (cs := #[.slice none 0 0]) (t := 26) ?hr ?_; (case hd => rfl); (case hg => rfl); (case hr => first | (go_simp; done) | (go_simp; rfl))
       intro gb412 hg w22 hbox hb
       replace HO_4 := Aside0.mk (Kd.S_below (Kd.S_elderB (by (with_reducible repeat (first | apply Kd.S_alloc | apply Kd.S_drewN | apply Kd.S_drew)); exact HO_4.out) gb412 (Nat.le_of_eq hg.symm)) hb)
       replace HO410 := Aside0.mk (Kd.R_below (re_ HO410.out) hb)
       have BK412 := Aside0.mk (hbox)
       have GW412 := gq_ hg (bq_ HB)
       have GE412 := gq_ hg (bq_ HB)
       replace HB := bp_ HB hb
       have NB397_412 := nl_ hg BK397
       have NB412_397 := ng_ hg BK397
       replace BK397 := bk_ BK397 hb
       clear hb hbox hg
       refine hK.out _ _ ⟨(blk_cell BK397.out 0).trans rfl, ((HB.out.cell (World.block_lt_of_cell? w _ hw407_0)).trans hw407_0)⟩ (fun hHeld => ?_)
       clear hK K
       refine norm_ (a' := ?_) ?_ ?_
       rotate_left
       · show Act.put _ (some 7) _ = _
         simp only [Act.put, z1_, z2_, z3_, i64_w, i32_w]
         rfl
       exact norm_ (by simp only [putAll, Act.put, z1_, z2_, z3_]) (hCont (v409, gb412) _ ⟨hHeld, (re_ HO410.out), (by (with_reducible repeat (first | apply Kd.S_alloc | apply Kd.S_drewN | apply Kd.S_drew)); exact Kd.S_mono HO_4.out (fun _ hk => ⟨hk.1.2, ⟨hk.1.1, hk.2⟩⟩)), (be_ BK397.out), (be_ BK412.out), GW412.out, GE412.out, NB397_412.out, NB412_397.out, (bq_ HB)⟩)
     · skip
       refine box_step ?hg (N := 7) ?hd (cs := #[.slice none 0 0]) (t := 26) ?hr ?_; (case hd => rfl); (case hg => rfl); (case hr => first | (go_simp; done) | (go_simp; rfl))
       intro gb412 hg w21 hbox hb
       replace HO_4 := Aside0.mk (Kd.S_below (Kd.S_elderB (by (with_reducible repeat (first | apply Kd.S_alloc | apply Kd.S_drewN | apply Kd.S_drew)); exact HO_4.out) gb412 (Nat.le_of_eq hg.symm)) hb)
       have BK412 := Aside0.mk (hbox)
       have GW412 := gq_ hg (bq_ HB)
       have GE412 := gq_ hg (bq_ HB)
       replace HB := bp_ HB hb
       have NB397_412 := nl_ hg BK397
       have NB412_397 := ng_ hg BK397
       replace BK397 := bk_ BK397 hb
       clear hb hbox hg
       refine hK.out _ _ ⟨(blk_cell BK397.out 0).trans rfl, ((HB.out.cell (World.block_lt_of_cell? w _ hw407_0)).trans hw407_0)⟩ (fun hHeld => ?_)
       clear hK K
       refine norm_ (a' := ?_) ?_ ?_
       rotate_left
       · show Act.put _ (some 7) _ = _
         simp only [Act.put, z1_, z2_, z3_, i64_w, i32_w]
         rfl
       refine on_ HT_ 6 37 (B_ 1151 13) (fun K hK => ?_)
       refine goes_ Try.func72 (by kernel_rfl) rfl #[.agg #[.slice (some ad406) l0_0.length c0_0], .int .i64 (rd l0_0 x6_1)] (by rfl) rfl rfl (by (try simp only [List.map_toArray, List.map_cons, List.map_nil]); first | done | rfl | (simp only [List.length_drop, List.length_take]; rfl)) ?_
       with_reducible refine (spec_RemoveGenerator.calls k1 _ _ l0_0 (rd l0_0 x6_1) t408 true _ ?side1 ?side2 A16.out).mono ?_
       (case side1 => exact ch_ HR0_0 HB)
       (case side2 => exact HC0_0.out)
       rintro e w22 ⟨v409, rfl, ho0, hb⟩
       refine ⟨_, rfl, ?_⟩
       replace HO_4 := Aside0.mk (Kd.S_elder' (by (with_reducible repeat (first | apply Kd.S_alloc | apply Kd.S_drewN | apply Kd.S_drew)); exact HO_4.out) (Kd.R_base ho0) hb)
       have HO410 := Aside0.mk (Kd.R_lower ho0 (below_size (bq_ HB)))
       replace BK397 := bk_ BK397 hb
       replace BK412 := bk_ BK412 hb
       replace HB := bp_ HB hb
       (try clear hb)
       (try clear ho0)
       refine hK.out _ _ ⟨(blk_cell BK397.out 0).trans rfl, ((HB.out.cell (World.block_lt_of_cell? w _ hw407_0)).trans hw407_0)⟩ (fun hHeld => ?_)
       clear hK K
       refine norm_ (a' := ?_) ?_ ?_
       rotate_left
       · show Act.put _ (some 37) _ = _
         simp only [Act.put, z1_, z2_, z3_, i64_w, i32_w]
         rfl
       refine pu_ HT_ 7 30 (B_ 1279 13) ?_
       refine pu_ HT_ 8 38 (B_ 1535 13) ?_
       refine pu_ HT_ 9 39 (B_ 2047 13) ?_
       exact norm_ (by simp only [putAll, Act.put, z1_, z2_, z3_]) (hCont (v409, gb412) _ ⟨hHeld, (re_ HO410.out), (by (with_reducible repeat (first | apply Kd.S_alloc | apply Kd.S_drewN | apply Kd.S_drew)); exact Kd.S_mono HO_4.out (fun _ hk => ⟨hk.2, ⟨hk.1.1, hk.1.2⟩⟩)), (be_ BK397.out), (be_ BK412.out), GW412.out, GE412.out, NB397_412.out, NB412_397.out, (bq_ HB)⟩)
   rintro ⟨v409, gb412⟩ w23 ⟨hS_, h0_, h1_, h2_, h3_, h4_, h5_, h6_, h7_, h8_⟩
   have n0_ : Aside0 (Kd.R (Kd.int .i64) 3 w23 w.heap.size (fun _ => True) v409 t408) := ⟨h0_⟩
   have n1_ : Aside0 (Kd.S k26 26 w23 w.heap.size (fun k_ => some k_ ≠ (v409 : Value).ownBlock ∧ k_ ≠ gb397 ∧ k_ ≠ gb412) u4 x4_1) := ⟨h1_⟩
   have n2_ : Aside0 (w23.heap[gb397]? = some (.cells #[.slice (some ad406) l0_0.length c0_0] 26 (0, 0))) := ⟨h2_⟩
   have n3_ : Aside0 (w23.heap[gb412]? = some (.cells #[.slice none 0 0] 26 (0, 0))) := ⟨h3_⟩
   have n4_ : Aside0 (w.heap.size ≤ gb412) := ⟨h4_⟩
   have n5_ : Aside0 (w.heap.size ≤ gb412) := ⟨h5_⟩
   have n6_ : Aside0 (gb397 ≠ gb412) := ⟨h6_⟩
   have n7_ : Aside0 (gb412 ≠ gb397) := ⟨h7_⟩
   have n8_ : Aside0 (Below w.heap.size w w23) := ⟨h8_⟩
   clear HO_4
   clear BK397
   clear HB
   clear h0_ h1_ h2_ h3_ h4_ h5_ h6_ h7_ h8_
   have HO410 := n0_
   have HO_4 := n1_
   have BK397 := n2_
   have BK412 := n3_
   have GW412 := n4_
   have GE412 := n5_
   have NB397_412 := n6_
   have NB412_397 := n7_
   have HB := n8_
   clear n0_ n1_ n2_ n3_ n4_ n5_ n6_ n7_ n8_
   have hHeld : w23.cell? ⟨gb397, 0, none⟩ = some (.slice (some ad406) l0_0.length c0_0) ∧ w23.cell? (ad406.add (x6_1).toNat) = some (.int .i64 (rd l0_0 x6_1)) := hS_
   obtain ⟨Ao24, co24, eo24⟩ := Kd.R_slice HO410.out
   (first | subst eo24 | (injection eo24 with f1_ f2_ f3_; have f4_ := f1_.symm; have f5_ := f3_.symm; clear f1_ f2_ f3_; subst f4_; subst f5_))
   refine norm_ (a' := ?_) ?_ ?_
   rotate_left
   · simp only [putAll, Act.put, z1_, z2_, z3_]
     rfl
   refine one_ (i := 11) (N := none) (B_ 4095 13) rfl rfl (one_of HT_.out (by kernel_rfl)) (by decide) (fun K hK => ?_)
   have hs25 : w23.cell? ⟨gb412, 0, none⟩ = some (.slice none 0 0) := (blk_cell BK412.out 0).trans rfl
   have hfs25 := blk_frozen BK412.out 0
   have hns25_0 := NB397_412.out
   have hms25_0 := NB412_397.out
   refine skip_ (w1 := ?_) (by rfl) rfl ?_ ?_
   rotate_left
   · go_simp
     rfl
   refine hK.out _ _ ⟨((cell_far (p := ⟨gb412, _, none⟩) NB397_412.out _).trans (hHeld.1)), ((cell_far (p := ⟨gb412, _, none⟩) (by first | exact Nat.ne_of_lt (Nat.lt_of_lt_of_le (by have := World.block_lt_of_cell? _ _ hw407_0; first | rwa [add_block] at this | exact this) GW412.out) | (rw [add_block]; exact Nat.ne_of_lt (Nat.lt_of_lt_of_le (by have := World.block_lt_of_cell? _ _ hw407_0; first | rwa [add_block] at this | exact this) GW412.out)) | (show (Addr.add _ _).block ≠ _; rw [add_block]; exact Nat.ne_of_lt (Nat.lt_of_lt_of_le (by have := World.block_lt_of_cell? _ _ hw407_0; first | rwa [add_block] at this | exact this) GW412.out)) | (dsimp only; exact Nat.ne_of_lt (Nat.lt_of_lt_of_le (by have := World.block_lt_of_cell? _ _ hw407_0; first | rwa [add_block] at this | exact this) GW412.out))) _).trans (hHeld.2))⟩ (fun hHeld => ?_)
   clear hK K
   refine pu_ HT_ 12 8 (B_ 8191 13) ?_
   refine done_ (done_of HT_.out (by kernel_rfl)) ?_
   have n0_ : Aside0 (Kd.S k26 26 (w23.setCell ⟨gb412, 0, none⟩ (.slice Ao24 t408.length co24)) w.heap.size (fun k_ => some k_ ≠ (.slice Ao24 t408.length co24 : Value).ownBlock ∧ k_ ≠ gb397 ∧ k_ ≠ gb412) u4 x4_1) := ⟨by (with_reducible repeat (first | apply Kd.S_alloc | apply Kd.S_drewN | apply Kd.S_drew)); exact Kd.S_mono (Kd.S_far (p := ⟨gb412, 0, none⟩) (Kd.S_mono HO_4.out (fun k_ hk => (⟨hk, hk.2.2⟩ : _ ∧ k_ ≠ gb412))) (fun _ hk => hk.2) (.slice Ao24 t408.length co24)) (fun _ hk => ⟨hk.1.1, ⟨hk.1.2.1, hk.1.2.2⟩⟩)⟩
   have n1_ : Aside0 (Kd.R (Kd.int .i64) 3 (w23.setCell ⟨gb412, 0, none⟩ (.slice Ao24 t408.length co24)) w.heap.size (fun _ => True) (.slice Ao24 t408.length co24) t408) := ⟨by (with_reducible repeat (first | apply Kd.R_alloc | apply Kd.R_drewN | apply Kd.R_drew)); exact Kd.R_mono (Kd.R_far (p := ⟨gb412, 0, none⟩) (Kd.R_types HO410.out BK412.out (by decide)) (fun _ hk => hk.2) (.slice Ao24 t408.length co24)) (fun _ hk => trivial)⟩
   have n2_ : Aside0 ((w23.setCell ⟨gb412, 0, none⟩ (.slice Ao24 t408.length co24)).heap[gb397]? = some (.cells #[.slice (some ad406) l0_0.length c0_0] 26 (0, 0))) := ⟨ba_ BK397⟩
   have n3_ : Aside0 ((w23.setCell ⟨gb412, 0, none⟩ (.slice Ao24 t408.length co24)).heap[gb412]? = some (.cells #[.slice Ao24 t408.length co24] 26 (0, 0))) := ⟨bz_ BK412⟩
   have n4_ : Aside0 (Below w.heap.size w (w23.setCell ⟨gb412, 0, none⟩ (.slice Ao24 t408.length co24))) := ⟨bq_ HB⟩
   (try clear HO_4)
   (try clear HO410)
   (try clear BK397)
   (try clear BK412)
   (try clear HB)
   generalize (w23.setCell ⟨gb412, 0, none⟩ (.slice Ao24 t408.length co24)) = w26 at n0_ n1_ n2_ n3_ n4_ ⊢
   have HO_4 := n0_
   have HO410 := n1_
   have BK397 := n2_
   have BK412 := n3_
   have HB := n4_
   clear n0_ n1_ n2_ n3_ n4_
   have hnb27 := NB412_397.out
   have hnc27 := NB397_412.out
   have hcz28_0 : w26.cell? ⟨gb412, 0, none⟩ = some (.slice Ao24 t408.length co24) := (blk_cell BK412.out 0).trans rfl
   have hfz28_0 := blk_frozen BK412.out 0
   try go_wp2_with (first | ((with_reducible refine gate_builtin (b := .append) (xs := #[.tmp 43, .tmp 45]) rfl ?_); at_builtin; refine Kd.S_append k26 (w0 := w) w.heap.size rfl (.tmp 43) (.tmp 45) 29 26 (.agg #[(.slice none 0 0)]) 24 rfl Try.underlying29 info26 rfl (by decide) (by omega) u4 x4_1 (⟨t408⟩ : S26) [.slice Ao24 t408.length co24] (fun k_ => k_ ≠ gb397 ∧ k_ ≠ gb412) (fun k_ => some k_ = (.slice Ao24 t408.length co24 : Value).ownBlock) rfl rfl ?aP (fun k_ hk_ => ((Kd.R_mono (ok' := fun k_ => ((fun k_ => k_ ≠ gb397 ∧ k_ ≠ gb412)) k_ ∧ some k_ ≠ (u4 : Value).ownBlock) (Kd.R_types (Kd.R_types (Kd.R_apart' (HO410.out) (Kd.S_typed HO_4.out) (by decide)) BK397.out (by decide)) BK412.out (by decide)) (fun k_ hk => ⟨⟨hk.1.2, hk.2⟩, hk.1.1.2⟩))).1 k_ hk_.symm) ?aF ?aO ?aB ?aS ?aL ?_; (case aP => exact k26_mkM _ _ _ (⟨t408⟩ : S26) (Kd.R_mono (Kd.R_tight rfl (Kd.R_mono (ok' := fun k_ => ((fun k_ => k_ ≠ gb397 ∧ k_ ≠ gb412)) k_ ∧ some k_ ≠ (u4 : Value).ownBlock) (Kd.R_types (Kd.R_types (Kd.R_apart' (HO410.out) (Kd.S_typed HO_4.out) (by decide)) BK397.out (by decide)) BK412.out (by decide)) (fun k_ hk => ⟨⟨hk.1.2, hk.2⟩, hk.1.1.2⟩))) (fun _ h_ => h_))); (case aB => exact (bq_ HB)); (case aF => exact (fun k_ hk => ⟨Kd.freshB (g := gb397) (o := .cells #[.slice (some ad406) l0_0.length c0_0] 26 (0, 0)) (be_ BK397.out) k_ hk, Kd.freshB (g := gb412) (o := .cells #[.slice Ao24 t408.length co24] 26 (0, 0)) (be_ BK412.out) k_ hk⟩)); (case aO => exact (by (with_reducible repeat (first | apply Kd.S_alloc | apply Kd.S_drewN | apply Kd.S_drew)); exact Kd.S_mono HO_4.out (fun k_ hk => ⟨⟨hk.2.1, hk.2.2⟩, fun e_ => hk.1 e_⟩))); (case aS => exact (below_size (bq_ HB))); (case aL => have := LMc18.out; omega); intro v414 w29 ho hb hg hat; rw [← Ny413.out] at ho; replace BK397 := Aside0.mk (blk_grown (be_ BK397.out) hg (Kd.S_away HO_4.out (fun _ hk => hk.2.1))); replace BK412 := Aside0.mk (blk_grown (be_ BK412.out) hg (Kd.S_away HO_4.out (fun _ hk => hk.2.2))); replace HB := Aside0.mk (hb); have HO415 := Aside0.mk (ho); clear HO_4 HO410; clear ho hb hg hat))
   go_roundg k1
   case measure => have := HK1.out; omega
   case rel => exact ⟨(y413), (wrap64 (x6_1 + 1)), rs_, H', ⟨by have := HK1.out; omega⟩, ⟨by (with_reducible repeat (first | apply Kd.S_alloc | apply Kd.S_drewN | apply Kd.S_drew)); exact Kd.S_mono HO415.out (fun _ hk => hk.1)⟩, ⟨be_ BK397.out⟩, ⟨bq_ HB⟩⟩
def spec_l3Copy.f (l0_0 : List Int) : Option (List Int) := (some (([] : List Int) : List Int)).bind fun y421 => (if y421.length + l0_0.length < 17592186044416 then (some (y421 ++ l0_0)) else (none))
theorem spec_l3Copy.calls (A0_0 : Option Addr) (c0_0 : Nat) (l0_0 : List Int) (r : List Int) (w : World) (hr0_0 : Kd.C (Kd.int .i64) w A0_0 l0_0.length l0_0) (hc0_0 : l0_0.length ≤ c0_0) (h : spec_l3Copy.f l0_0 = some r) :
 Calls Try.prog 26 #[.agg #[.slice A0_0 l0_0.length c0_0]] w fun e w' => ∃ v0_ : Value, e = .returned (.agg #[v0_]) ∧ Kd.R (Kd.int .i64) 3 w' w.heap.size (fun _ => True) v0_ r ∧ Below w.heap.size w w' := by
 have hu26 := Try.underlying26
 have HR0_0 := Aside0.mk hr0_0
 have HC0_0 := Aside0.mk hc0_0
 clear hr0_0 hc0_0
 have HB := Aside0.mk (Below.refl w.heap.size w)
 have H := h
 clear h
 unfold spec_l3Copy.f at H
 obtain ⟨y421, hy421⟩ : ∃ y_ : List Int, y_ = (([] : List Int)) := ⟨_, rfl⟩
 replace H : (if y421.length + l0_0.length < 17592186044416 then (some (y421 ++ l0_0)) else (none)) = some r := by subst hy421; exact H
 have Ny421 := Aside0.mk hy421
 clear hy421
 obtain ⟨c2, H⟩ := ip_ H
 have LMc2 := Aside0.mk c2
 clear c2
 obtain ⟨y424, hy424⟩ : ∃ y_ : List Int, y_ = (y421 ++ l0_0) := ⟨_, rfl⟩
 replace H : (some y424) = some r := by subst hy424; exact H
 have Ny424 := Aside0.mk hy424
 clear hy424
 obtain rfl := Option.some.inj H
 go_enter Try.func26, Try.ntmps26
 go_wp2_with (first | ((with_reducible refine gate_dst (N := 1) rfl ?_); refine bx_ 1 #[.slice A0_0 l0_0.length c0_0] 26 ?_; intro gb419 hg w3 hbox hb; have BK419 := Aside0.mk (hbox); have GW419 := gw_ hg HB; have GE419 := gw_ hg HB; replace HB := bo_ HB hb; clear hb hbox hg) | ((with_reducible refine gate_dst (N := 2) rfl ?_); refine bx_ 2 #[.slice none 0 0] 26 ?_; intro gb420 hg w4 hbox hb; have BK420 := Aside0.mk (hbox); have GW420 := gq_ hg (bq_ HB); have GE420 := gq_ hg (bq_ HB); replace HB := bp_ HB hb; have NB419_420 := nl_ hg BK419; have NB420_419 := ng_ hg BK419; replace BK419 := bk_ BK419 hb; clear hb hbox hg) | ((with_reducible refine gate_dst (N := 3) rfl ?_); refine Kd.R_lit (Kd.int .i64) _ 3 ?hg (N := 3) ?hd (xs := ([] : List Int)) (inner := []) (ok := fun _ => True) (okp := fun _ => True) ?hr ?hp (fun _ hk => hk) trivial (Below.refl _ _) (Nat.le_refl _) (by simp) ?_; (case hd => rfl); (case hg => rfl); (case hr => first | (go_simp; done) | (go_simp; rfl)); (case hp => exact (Reps.none _ _)); intro v422 w5 ho6 hb hg_ hnew_; clear hg_ hnew_; (first | rw [← Ny421.out] at ho6 | (simp only [Int.reduceToNat] at ho6; rw [← Ny421.out] at ho6)); have HO423 := Aside0.mk (Kd.R_lower ho6 (below_size (bq_ HB))); replace BK419 := bk_ BK419 hb; replace BK420 := bk_ BK420 hb; replace HB := bp_ HB hb; clear hb ho6; have hnb7 := NB419_420.out; have hnc7 := NB420_419.out; have hcz8_0 := cz_ BK419; have hfz8_0 := blk_frozen BK419.out 0) | ((with_reducible refine gate_builtin (b := .append) (xs := #[.tmp 3, .tmp 5]) rfl ?_); at_builtin; refine Kd.R_append_rows (Kd.int .i64) (w0 := w) w.heap.size rfl (.tmp 3) (.tmp 5) 24 3 (.int .i64 0) 8 rfl Try.underlying24 info3 rfl (by decide) (by omega) v422 y421 l0_0 _ _ _ (fun _ => True) (fun _ => False) rfl rfl ?aO ?aR (fun _ _ h => h) (fun _ h => h.elim) ?aF ?aB ?aS ?aL ?_; (case aR => exact ch_ HR0_0 HB); (case aB => exact (bq_ HB)); (case aF => exact (fun _ _ => trivial)); (case aO => exact (re_ HO423.out)); (case aS => exact (below_size (bq_ HB))); (case aL => have := LMc2.out; omega); intro v425 w9 ho hb hg hat; rw [← Ny424.out] at ho; replace BK419 := Aside0.mk (blk_grown (be_ BK419.out) hg (Kd.R_ne HO423.out BK419.out (by decide))); replace BK420 := Aside0.mk (blk_grown (be_ BK420.out) hg (Kd.R_ne HO423.out BK420.out (by decide))); replace HB := Aside0.mk (hb); have HO426 := Aside0.mk (ho); clear HO423; clear ho hb hg hat; obtain ⟨Ao10, co10, eo10⟩ := Kd.R_slice HO426.out; subst eo10; have hcz11_0 := cz_ BK420; have hfz11_0 := blk_frozen BK420.out 0))
 refine bodyPost_ret (results_cell_row rfl _ _ gb420 26 #[.slice Ao10 y424.length co10] (0, 0) _ rfl (bz_ BK420) Try.underlying26 rfl (by kernel_rfl)) rfl ?_
 exact ⟨_, rf_, by (with_reducible repeat (first | apply Kd.R_alloc | apply Kd.R_drewN | apply Kd.R_drew)); exact Kd.R_mono (Kd.R_far (p := ⟨gb420, 0, none⟩) (Kd.R_types HO426.out BK420.out (by decide)) (fun _ hk => hk.2) (.slice Ao10 y424.length co10)) (fun _ hk => trivial), bq_ HB⟩
end Go.Proofs.Ytonknpgfbkgbjaa.PC
end
