-- Bundled by shake.py from this session's printed and written texts; Lean checks it.
import Derived.Test.YtonknpgfbkgbjaaZFnExactCountGenusx1
import Derived.Test.YtonknpgfbkgbjaaZFnExactCountGenusx3
import Derived.Test.YtonknpgfbkgbjaaZFnExactCountGenusx4
import Derived.Test.YtonknpgfbkgbjaaZFnExactCountGenusx5
section
namespace Go.Proofs.Ytonknpgfbkgbjaa.PB
open Go.RowKit Go.Proofs.YtonknpgfbkgbjaaW.PrintWords Go.Proofs.YtonknpgfbkgbjaaW.PrintLast Go.Proofs.YtonknpgfbkgbjaaW.PrintMore
attribute [local go_sem] max2_int min2_int max_two min_two max_three min_three max_four min_four
set_option linter.unusedVariables false
set_option linter.unusedSimpArgs false
set_option maxHeartbeats 8000000
set_option maxRecDepth 100000
mutual
def spec_FromGaps.j0 : Nat → List Int → Bool → Option (List Int × Bool)
 | 0, _, _ => none
 | k + 1, x0, x20 => if x20 = true then (some (([] : List Int), false)) else ((some (([] : List Int) : List Int)).bind fun y349 => (if (x0.length : Int) > 0 then (if 0 ≤ (wrap64 ((x0.length : Int) - 1)) then (if (wrap64 ((x0.length : Int) - 1)) < (x0.length : Int) then (spec_FromGaps.j1 k x0 y349 (rd x0 (wrap64 ((x0.length : Int) - 1)))) else (none)) else (none)) else (spec_FromGaps.j1 k x0 y349 0)))
def spec_FromGaps.j1 : Nat → List Int → List Int → Int → Option (List Int × Bool)
 | 0, _, _, _ => none
 | k + 1, x0, x6, x7 => spec_FromGaps.l0 k x0 x6 x7 1
def spec_FromGaps.l0 : Nat → List Int → List Int → Int → Int → Option (List Int × Bool)
 | 0, _, _, _, _ => none
 | k + 1, x0, x6, x7, x8 => if x8 ≤ (wrap64 ((wrap64 (2 * x7)) + 2)) then ((spec_HasNumber.f k x0 x8).bind fun t355 => (if t355 = true then (spec_FromGaps.l0 k x0 x6 x7 (wrap64 (x8 + 1))) else (if (x6.length : Int) > 0 then ((spec_l3Table.f k x6 x8).bind fun t356 => (if 0 ≤ x8 then (if x8 < (t356.length : Int) then (if rdOf false t356 x8 = true then (spec_FromGaps.l0 k x0 x6 x7 (wrap64 (x8 + 1))) else (if x6.length < 17592186044416 then (spec_FromGaps.l0 k x0 (x6 ++ [x8]) x7 (wrap64 (x8 + 1))) else (none))) else (none)) else (none))) else (if x6.length < 17592186044416 then (spec_FromGaps.l0 k x0 (x6 ++ [x8]) x7 (wrap64 (x8 + 1))) else (none))))) else ((spec_IsSemigroup.f k x6).bind fun t354 => (if t354 = true then (some (x6, true)) else (some (([] : List Int), false))))
end
def spec_FromGaps.f (k : Nat) (l0 : List Int) : Option (List Int × Bool) := (spec_GapClash.f k l0).bind fun bt344 => ((spec_l8Gaps.f k l0).bind fun t348 => (if t348 = true then (spec_FromGaps.j0 k l0 bt344.2.2) else (spec_FromGaps.j0 k l0 true)))
theorem spec_FromGaps.calls (k : Nat) (A0 : Option Addr) (c0 : Nat) (l0 : List Int) (r1 : List Int) (r2 : Bool) (w : World) (hr0 : Kd.C (Kd.int .i64) w A0 l0.length l0) (hc0 : l0.length ≤ c0) (h : spec_FromGaps.f k l0 = some (r1, r2)) :
 Calls Try.prog 52 #[.slice A0 l0.length c0] w fun e w' => ∃ v0_ : Value, e = .returned (.tuple #[.agg #[v0_], .bool r2]) ∧ Kd.R (Kd.int .i64) 3 w' w.heap.size (fun _ => True) v0_ r1 ∧ Below w.heap.size w w' := by
 have hu26 := Try.underlying26
 have hu70 := Try.underlying70
 have HR0 := Aside0.mk hr0
 have HC0 := Aside0.mk hc0
 clear hr0 hc0
 have HB := Aside0.mk (Below.refl w.heap.size w)
 have H := h
 clear h
 unfold spec_FromGaps.f at H
 obtain ⟨⟨t344, t345, t346⟩, A2, H⟩ := ob_ H
 (try dsimp only at H)
 have HC3 := Aside0.mk H
 clear H
 go_enter Try.func52, Try.ntmps52
 go_upto_region 2 with (first | ((with_reducible refine gate_dst (N := 2) rfl ?_); (try (refine gate_guard (by rfl) ?_; dsimp only)); refine bx_ 2 #[.slice none 0 0] 26 ?_; intro gb343 hg w4 hbox hb; have BK343 := Aside0.mk (hbox); have GW343 := gw_ hg HB; have GE343 := gw_ hg HB; replace HB := bo_ HB hb; clear hb hbox hg) | ((with_reducible refine gate_callee (f := 82) rfl ?_); refine gL_ (some 12) Try.func82 #[.slice A0 l0.length c0] ?_; (with_reducible refine (spec_GapClash.calls k _ _ l0 t344 t345 t346 _ ?side1 ?side2 A2.out).mono ?_); (case side1 => exact ch_ HR0 HB); (case side2 => exact HC0.out); rintro e w5 ⟨rfl, hb⟩; refine ⟨_, rfl, ?_⟩; replace BK343 := bk_ BK343 hb; replace HB := bp_ HB hb; (try clear hb)) | ((with_reducible refine gate_dst (N := 4) rfl ?_); (try (refine gate_guard (by rfl) ?_; dsimp only)); refine bx_ 4 #[.int .i64 0, .int .i64 0] 70 ?_; intro gb347 hg w6 hbox hb; have BK347 := Aside0.mk (hbox); have GW347 := gq_ hg (bq_ HB); have GE347 := gq_ hg (bq_ HB); replace HB := bp_ HB hb; have NB343_347 := nl_ hg BK343; have NB347_343 := ng_ hg BK343; replace BK343 := bk_ BK343 hb; clear hb hbox hg; have hnb7 := NB347_343.out; have hnc7 := NB343_347.out; have hcz8_0 : w6.cell? ⟨gb347, 0, none⟩ = some (.int .i64 0) := (blk_cell BK347.out 0).trans rfl; have hcz8_1 : w6.cell? ⟨gb347, 1, none⟩ = some (.int .i64 0) := (blk_cell BK347.out 1).trans rfl; have hfz8_0 := blk_frozen BK347.out 0; have hfz8_1 := blk_frozen BK347.out 1))
 (try simp only [Act.put, z1_, z2_, z3_])
 go_cut [20] (fun v20 wc => ∃ (kq : Nat) (x20_2 : Bool), v20 = .bool x20_2 ∧ Aside0 (spec_FromGaps.j0 kq l0 x20_2 = some (r1, r2)) ∧ Aside0 (kq ≤ k) ∧ Aside0 (wc.heap[gb343]? = some (.cells #[(.slice none 0 0)] 26 (0, 0))) ∧ Aside0 (wc.heap[gb347]? = some (.cells #[.int .i64 t344, .int .i64 t345] 70 (0, 0))) ∧ Aside0 (Below w.heap.size w wc))
 case first =>
  have H := HC3.out
  clear HC3
  obtain ⟨t348, A9, H⟩ := ob_ H
  by_cases c10 : t348 = true
  · subst c10
    rw [if_pos rfl] at H
    have H' := Aside0.mk H
    clear H
    go_wp2_with (first | ((with_reducible refine gate_callee (f := 83) rfl ?_); refine gL_ (some 16) Try.func83 #[.slice A0 l0.length c0] ?_; (with_reducible refine (spec_l8Gaps.calls k _ _ l0 true _ ?side1 ?side2 A9.out).mono ?_); (case side1 => exact Kd.C_below HR0.out (bq_ HB)); (case side2 => exact HC0.out); rintro e w' ⟨rfl, ⟨nd, rfl⟩⟩; refine ⟨_, rfl, ?_⟩))
    go_meet
    case rel => exact ⟨_, (t346), rs_, H', ⟨by first | omega | exact Nat.le_refl _⟩, ⟨ba_ BK343⟩, ⟨by (with_reducible repeat (first | refine blk_drewN ?_ _ | refine blk_drew ?_ | refine blk_alloc ?_ _)); refine blk_put (cs := #[.int .i64 t344, .int .i64 0]) ?_ 1 _ rfl; (with_reducible repeat (first | refine blk_drewN ?_ _ | refine blk_drew ?_ | refine blk_alloc ?_ _)); refine blk_put (cs := #[.int .i64 0, .int .i64 0]) ?_ 0 _ rfl; (with_reducible repeat (first | refine blk_drewN ?_ _ | refine blk_drew ?_ | refine blk_alloc ?_ _)); exact BK347.out⟩, ⟨bq_ HB⟩⟩
  replace c10 := Bool.eq_false_iff.mpr c10
  subst c10
  rw [if_neg (show ¬ (false = true) by decide)] at H
  have H' := Aside0.mk H
  clear H
  go_wp2_with (first | ((with_reducible refine gate_callee (f := 83) rfl ?_); refine gL_ (some 16) Try.func83 #[.slice A0 l0.length c0] ?_; (with_reducible refine (spec_l8Gaps.calls k _ _ l0 false _ ?side1 ?side2 A9.out).mono ?_); (case side1 => exact Kd.C_below HR0.out (bq_ HB)); (case side2 => exact HC0.out); rintro e w' ⟨rfl, ⟨nd, rfl⟩⟩; refine ⟨_, rfl, ?_⟩))
  go_meet
  case rel => exact ⟨_, (true), rs_, H', ⟨by first | omega | exact Nat.le_refl _⟩, ⟨ba_ BK343⟩, ⟨by (with_reducible repeat (first | refine blk_drewN ?_ _ | refine blk_drew ?_ | refine blk_alloc ?_ _)); refine blk_put (cs := #[.int .i64 t344, .int .i64 0]) ?_ 1 _ rfl; (with_reducible repeat (first | refine blk_drewN ?_ _ | refine blk_drew ?_ | refine blk_alloc ?_ _)); refine blk_put (cs := #[.int .i64 0, .int .i64 0]) ?_ 0 _ rfl; (with_reducible repeat (first | refine blk_drewN ?_ _ | refine blk_drew ?_ | refine blk_alloc ?_ _)); exact BK347.out⟩, ⟨bq_ HB⟩⟩
 case rest =>
  clear HC3
  try clear hcz8_0
  try clear hcz8_1
  try clear hfz8_0
  try clear hfz8_1
  obtain ⟨kq, x20_2, rfl, HA, HJ2, BK343, BK347, HB⟩ := hcut
  cases kq with
  | zero => exact absurd HA.out (by simp [spec_FromGaps.j0])
  | succ kj2 =>
   have H := HA.out
   clear HA
   simp only [spec_FromGaps.j0] at H
   by_cases c11 : x20_2 = true
   · subst c11
     rw [if_pos rfl] at H
     simp only [Option.some.injEq, Prod.mk.injEq] at H
     obtain ⟨rfl, rfl⟩ := H
     have hnb12 := NB343_347.out
     have hnc12 := NB347_343.out
     have hcz13_0 := cz_ BK343
     have hfz13_0 := blk_frozen BK343.out 0
     go_wp2
     refine bodyPost_ret (results_ct rfl _ _ gb343 26 #[.slice none 0 0] (0, 0) _ rfl (bz_ BK343) Try.underlying26 rfl (by kernel_rfl)) rfl ?_
     exact ⟨_, rf_, by first | exact Kd.R_nil _ _ _ _ _ | exact Kd.N_nil _ _ _ _ _ | exact Kd.V_nil _ _ _ _ _ | exact Kd.Q_nil _ _ _ _ _ | exact Kd.S_nil _ _ _ _ _, bq_ HB⟩
   replace c11 := Bool.eq_false_iff.mpr c11
   subst c11
   rw [if_neg (show ¬ (false = true) by decide)] at H
   obtain ⟨y349, hy349⟩ : ∃ y_ : List Int, y_ = (([] : List Int)) := ⟨_, rfl⟩
   replace H : (if (l0.length : Int) > 0 then (if 0 ≤ (wrap64 ((l0.length : Int) - 1)) then (if (wrap64 ((l0.length : Int) - 1)) < (l0.length : Int) then (spec_FromGaps.j1 kj2 l0 y349 (rd l0 (wrap64 ((l0.length : Int) - 1)))) else (none)) else (none)) else (spec_FromGaps.j1 kj2 l0 y349 0)) = some (r1, r2) := by subst hy349; exact H
   have Ny349 := Aside0.mk hy349
   clear hy349
   have HC14 := Aside0.mk H
   clear H
   go_upto_if 25 with (first | ((with_reducible refine gate_dst (N := 22) rfl ?_); (try (refine gate_guard (by rfl) ?_; dsimp only)); refine Kd.R_lit (Kd.int .i64) _ 3 ?hg (N := 22) ?hd (xs := ([] : List Int)) (inner := []) (ok := fun _ => True) (okp := fun _ => True) ?hr ?hp (fun _ hk => hk) trivial (Below.refl _ _) (Nat.le_refl _) (by simp) ?_; (case hd => rfl); (case hg => rfl); (case hr => first | (go_simp; done) | (go_simp; rfl)); (case hp => exact (Reps.none _ _)); intro v350 w15 ho16 hb hg_ hnew_; clear hg_ hnew_; (first | rw [← Ny349.out] at ho16 | (simp only [Int.reduceToNat] at ho16; rw [← Ny349.out] at ho16)); have HO351 := Aside0.mk (Kd.R_lower ho16 (below_size (bq_ HB))); replace BK343 := bk_ BK343 hb; replace BK347 := bk_ BK347 hb; replace HB := bp_ HB hb; clear hb ho16))
   (try simp only [Act.put, z1_, z2_, z3_])
   go_cut [7] (fun v7 wc => ∃ (kq : Nat) (x7_13 : Int), v7 = .int .i64 x7_13 ∧ Aside0 (spec_FromGaps.j1 kq l0 y349 x7_13 = some (r1, r2)) ∧ Aside0 (kq ≤ kj2) ∧ Aside0 (Kd.R (Kd.int .i64) 3 wc w.heap.size (fun _ => True) v350 y349) ∧ Aside0 (wc.heap[gb343]? = some (.cells #[(.slice none 0 0)] 26 (0, 0))) ∧ Aside0 (wc.heap[gb347]? = some (.cells #[.int .i64 t344, .int .i64 t345] 70 (0, 0))) ∧ Aside0 (Below w.heap.size w wc))
   case first =>
    have H := HC14.out
    clear HC14
    by_cases c17 : (l0.length : Int) > 0
    rotate_left
    · rw [if_neg c17] at H
      have c17b0 : decide (0 < (l0.length : Int)) = false := decide_eq_false c17
      have c17b1 : decide (0 < l0.length) = false := decide_eq_false (by omega)
      clear c17
      (first | rw [c17b0] | (simp only [i64_w, i32_w]; rw [c17b0]) | rw [c17b1] | skip)
      have H' := Aside0.mk H
      clear H
      go_wp2
      go_meet
      case rel => exact ⟨_, (0), rs_, H', ⟨by have := HJ2.out; first | omega | exact Nat.le_refl _⟩, ⟨re_ HO351.out⟩, ⟨be_ BK343.out⟩, ⟨be_ BK347.out⟩, ⟨bq_ HB⟩⟩
    rw [if_pos c17] at H
    have c17b0 : decide (0 < (l0.length : Int)) = true := decide_eq_true c17
    have c17b1 : decide (0 < l0.length) = true := decide_eq_true (by omega)
    clear c17
    (first | rw [c17b0] | (simp only [i64_w, i32_w]; rw [c17b0]) | rw [c17b1] | skip)
    obtain ⟨ji18, hji18⟩ : ∃ j_ : Int, (wrap64 ((l0.length : Int) - 1)) = j_ := ⟨_, rfl⟩
    replace H : (if 0 ≤ (ji18) then (if (ji18) < (l0.length : Int) then (spec_FromGaps.j1 kj2 l0 y349 (rd l0 (ji18))) else (none)) else (none)) = some (r1, r2) := by first | (rw [hji18] at H; exact H) | (simp only [hji18] at H ⊢; exact H)
    have hji18w : (IntKind.i64.wrap ((l0.length : Int) - 1)) = ji18 := (i64_w _).trans hji18
    obtain ⟨c19b0, H⟩ := ipd_ H
    obtain ⟨c20b0, H⟩ := ipd_ H
    have H' := Aside0.mk H
    clear H
    have p352 : 0 ≤ ((ji18) : Int) := od_
    have q352 : (ji18) < (l0.length : Int) := od_
    obtain ⟨ad352, e352, hx352_0⟩ := Kd.at_int HR0.out (ji18) p352 q352
    cases e352
    (try replace hx352_0 := (HB.out.cell (World.block_lt_of_cell? w _ hx352_0)).trans hx352_0)
    replace p352 := eq_true p352
    replace q352 := eq_true q352
    go_wp2
    go_meet
    case rel => exact ⟨_, (rd l0 (ji18)), (by first | rfl | (simp; done) | (simp only [← hji18] <;> (first | rfl | simp)) | (simp [*]; done)), H', ⟨by have := HJ2.out; first | omega | exact Nat.le_refl _⟩, ⟨re_ HO351.out⟩, ⟨be_ BK343.out⟩, ⟨be_ BK347.out⟩, ⟨bq_ HB⟩⟩
   case rest =>
    clear HC14
    obtain ⟨kq, x7_13, rfl, HA, HJ13, HO_6, BK343, BK347, HB⟩ := hcut
    cases kq with
    | zero => exact absurd HA.out (by simp [spec_FromGaps.j1])
    | succ kj13 =>
     have H := HA.out
     clear HA
     simp only [spec_FromGaps.j1] at H
     have H' := Aside0.mk H
     clear H
     go_wp2
     go_loopg [6, 8] kj13 (fun kq v6 v8 w' => ∃ (x6_3 : List Int) (x8_3 : Int), v8 = .int .i64 x8_3 ∧ Aside0 (spec_FromGaps.l0 kq l0 x6_3 x7_13 x8_3 = some (r1, r2)) ∧ Aside0 (kq ≤ kj13) ∧ Aside0 (Kd.R (Kd.int .i64) 3 w' w.heap.size (fun _ => True) v6 x6_3) ∧ Aside0 (w'.heap[gb343]? = some (.cells #[(.slice none 0 0)] 26 (0, 0))) ∧ Aside0 (w'.heap[gb347]? = some (.cells #[.int .i64 t344, .int .i64 t345] 70 (0, 0))) ∧ Aside0 (Below w.heap.size w w'))
     case atStart => exact ⟨(y349), (1), rs_, H', ⟨Nat.le_refl _⟩, ⟨re_ HO_6.out⟩, ⟨be_ BK343.out⟩, ⟨be_ BK347.out⟩, ⟨bq_ HB⟩⟩
     case round =>
      clear H'
      obtain ⟨x6_3, x8_3, rfl, HA, HK3, HO_6, BK343, BK347, HB⟩ := hrel
      cases gk with
      | zero => exact absurd HA.out (by simp [spec_FromGaps.l0])
      | succ k3 =>
       have H := HA.out
       clear HA
       simp only [spec_FromGaps.l0] at H
       by_cases c21 : x8_3 ≤ (wrap64 ((wrap64 (2 * x7_13)) + 2))
       rotate_left
       · rw [if_neg c21] at H
         have c21b0 : decide (x8_3 ≤ (wrap64 ((wrap64 (2 * x7_13)) + 2))) = false := decide_eq_false c21
         clear c21
         obtain ⟨t354, A41, H⟩ := ob_ H
         by_cases c42 : t354 = true
         · subst c42
           rw [if_pos rfl] at H
           simp only [Option.some.injEq, Prod.mk.injEq] at H
           obtain ⟨rfl, rfl⟩ := H
           obtain ⟨Ao43, co43, eo43⟩ := Kd.R_slice HO_6.out
           subst eo43
           go_wp2_with (first | ((with_reducible refine gate_dst (N := 9) rfl ?_); (try (refine gate_guard (by rfl) ?_; dsimp only)); refine bx_ 9 #[.slice none 0 0] 26 ?_; intro gb353 hg w44 hbox hb; replace HO_6 := Aside0.mk (Kd.R_below (re_ HO_6.out) hb); have BK353 := Aside0.mk (hbox); have GW353 := gq_ hg (bq_ HB); have GE353 := gq_ hg (bq_ HB); replace HB := bp_ HB hb; have NB343_353 := nl_ hg BK343; have NB353_343 := ng_ hg BK343; replace BK343 := bk_ BK343 hb; have NB347_353 := nl_ hg BK347; have NB353_347 := ng_ hg BK347; replace BK347 := bk_ BK347 hb; clear hb hbox hg; have hnb45 := NB353_343.out; have hnc45 := NB343_353.out; have hnb46 := NB353_347.out; have hnc46 := NB347_353.out; have hcz47_0 := cz_ BK353; have hfz47_0 := blk_frozen BK353.out 0) | ((with_reducible refine gate_callee (f := 25) rfl ?_); refine gL_ (some 62) Try.func25 #[.agg #[.slice Ao43 x6_3.length co43]] ?_; (with_reducible refine (spec_IsSemigroup.calls k3 _ _ x6_3 true _ ?side1 ?side2 A41.out).mono ?_); (case side1 => refine (Kd.R_reads' (e := 3) (base := w.heap.size) (ok := fun k_ => True) (n := x6_3.length) (c := co43) ?_).2.2; exact (rf1_ HO_6 BK353)); (case side2 => exact (Kd.R_reads' HO_6.out).2.1); rintro e w48 ⟨rfl, hb⟩; refine ⟨_, rfl, ?_⟩; replace HO_6 := Aside0.mk (Kd.R_below (rf1_ HO_6 BK353) hb); replace BK343 := Aside0.mk (blk_below (g := gb343) (o := .cells #[.slice none 0 0] 26 (0, 0)) (ba_ BK343) hb); replace BK347 := Aside0.mk (blk_below (g := gb347) (o := .cells #[.int .i64 t344, .int .i64 t345] 70 (0, 0)) (ba_ BK347) hb); replace BK353 := Aside0.mk (blk_below (g := gb353) (o := .cells #[.slice Ao43 x6_3.length co43] 26 (0, 0)) (bz_ BK353) hb); replace HB := bp_ HB hb; (try clear hb); have hcz49_0 := cz_ BK353; have hfz49_0 := blk_frozen BK353.out 0; have hnb50 := NB343_347.out; have hnc50 := NB347_343.out; have hcz51_0 := cz_ BK343; have hfz51_0 := blk_frozen BK343.out 0))
           refine bodyPost_ret (results_ct rfl _ _ gb343 26 #[.slice Ao43 x6_3.length co43] (0, 0) _ rfl (bz_ BK343) Try.underlying26 rfl (by kernel_rfl)) rfl ?_
           exact ⟨_, rf_, by (with_reducible repeat (first | apply Kd.R_alloc | apply Kd.R_drewN | apply Kd.R_drew)); exact Kd.R_mono (Kd.R_far (p := ⟨gb343, 0, none⟩) (Kd.R_types HO_6.out BK343.out (by decide)) (fun _ hk => hk.2) (.slice Ao43 x6_3.length co43)) (fun _ hk => trivial), bq_ HB⟩
         replace c42 := Bool.eq_false_iff.mpr c42
         subst c42
         rw [if_neg (show ¬ (false = true) by decide)] at H
         simp only [Option.some.injEq, Prod.mk.injEq] at H
         obtain ⟨rfl, rfl⟩ := H
         obtain ⟨Ao52, co52, eo52⟩ := Kd.R_slice HO_6.out
         subst eo52
         go_wp2_with (first | ((with_reducible refine gate_dst (N := 9) rfl ?_); (try (refine gate_guard (by rfl) ?_; dsimp only)); refine bx_ 9 #[.slice none 0 0] 26 ?_; intro gb353 hg w53 hbox hb; replace HO_6 := Aside0.mk (Kd.R_below (re_ HO_6.out) hb); have BK353 := Aside0.mk (hbox); have GW353 := gq_ hg (bq_ HB); have GE353 := gq_ hg (bq_ HB); replace HB := bp_ HB hb; have NB343_353 := nl_ hg BK343; have NB353_343 := ng_ hg BK343; replace BK343 := bk_ BK343 hb; have NB347_353 := nl_ hg BK347; have NB353_347 := ng_ hg BK347; replace BK347 := bk_ BK347 hb; clear hb hbox hg; have hnb54 := NB353_343.out; have hnc54 := NB343_353.out; have hnb55 := NB353_347.out; have hnc55 := NB347_353.out; have hcz56_0 := cz_ BK353; have hfz56_0 := blk_frozen BK353.out 0) | ((with_reducible refine gate_callee (f := 25) rfl ?_); refine gL_ (some 62) Try.func25 #[.agg #[.slice Ao52 x6_3.length co52]] ?_; (with_reducible refine (spec_IsSemigroup.calls k3 _ _ x6_3 false _ ?side1 ?side2 A41.out).mono ?_); (case side1 => refine (Kd.R_reads' (e := 3) (base := w.heap.size) (ok := fun k_ => True) (n := x6_3.length) (c := co52) ?_).2.2; exact (rf1_ HO_6 BK353)); (case side2 => exact (Kd.R_reads' HO_6.out).2.1); rintro e w57 ⟨rfl, hb⟩; refine ⟨_, rfl, ?_⟩; replace HO_6 := Aside0.mk (Kd.R_below (rf1_ HO_6 BK353) hb); replace BK343 := Aside0.mk (blk_below (g := gb343) (o := .cells #[.slice none 0 0] 26 (0, 0)) (ba_ BK343) hb); replace BK347 := Aside0.mk (blk_below (g := gb347) (o := .cells #[.int .i64 t344, .int .i64 t345] 70 (0, 0)) (ba_ BK347) hb); replace BK353 := Aside0.mk (blk_below (g := gb353) (o := .cells #[.slice Ao52 x6_3.length co52] 26 (0, 0)) (bz_ BK353) hb); replace HB := bp_ HB hb; (try clear hb); have hnb58 := NB343_347.out; have hnc58 := NB347_343.out; have hcz59_0 := cz_ BK343; have hfz59_0 := blk_frozen BK343.out 0))
         refine bodyPost_ret (results_ct rfl _ _ gb343 26 #[.slice none 0 0] (0, 0) _ rfl (bz_ BK343) Try.underlying26 rfl (by kernel_rfl)) rfl ?_
         exact ⟨_, rf_, by first | exact Kd.R_nil _ _ _ _ _ | exact Kd.N_nil _ _ _ _ _ | exact Kd.V_nil _ _ _ _ _ | exact Kd.Q_nil _ _ _ _ _ | exact Kd.S_nil _ _ _ _ _, bq_ HB⟩
       rw [if_pos c21] at H
       have c21b0 : decide (x8_3 ≤ (wrap64 ((wrap64 (2 * x7_13)) + 2))) = true := decide_eq_true c21
       clear c21
       obtain ⟨t355, A22, H⟩ := ob_ H
       by_cases c23 : t355 = true
       · subst c23
         rw [if_pos rfl] at H
         have H' := Aside0.mk H
         clear H
         go_wp2_with (first | ((with_reducible refine gate_callee (f := 84) rfl ?_); refine gL_ (some 41) Try.func84 #[.slice A0 l0.length c0, .int .i64 x8_3] ?_; (with_reducible refine (spec_HasNumber.calls k3 _ _ l0 x8_3 true _ ?side1 ?side2 A22.out).mono ?_); (case side1 => exact ch_ HR0 HB); (case side2 => exact HC0.out); rintro e w' ⟨rfl, ⟨nd, rfl⟩⟩; refine ⟨_, rfl, ?_⟩))
         go_roundg k3
         case measure => have := HJ2.out; have := HJ13.out; have := HK3.out; omega
         case rel => exact ⟨(x6_3), (wrap64 (x8_3 + 1)), rs_, H', ⟨by have := HJ2.out; have := HJ13.out; have := HK3.out; omega⟩, ⟨re_ HO_6.out⟩, ⟨be_ BK343.out⟩, ⟨be_ BK347.out⟩, ⟨bq_ HB⟩⟩
       replace c23 := Bool.eq_false_iff.mpr c23
       subst c23
       rw [if_neg (show ¬ (false = true) by decide)] at H
       by_cases c24 : (x6_3.length : Int) > 0
       rotate_left
       · rw [if_neg c24] at H
         have c24b0 : decide (0 < (x6_3.length : Int)) = false := decide_eq_false c24
         have c24b1 : decide (0 < x6_3.length) = false := decide_eq_false (by omega)
         clear c24
         obtain ⟨c38, H⟩ := ip_ H
         have LMc38 := Aside0.mk c38
         clear c38
         obtain ⟨y363, hy363⟩ : ∃ y_ : List Int, y_ = (x6_3 ++ [x8_3]) := ⟨_, rfl⟩
         replace H : (spec_FromGaps.l0 k3 l0 y363 x7_13 (wrap64 (x8_3 + 1))) = some (r1, r2) := by subst hy363; exact H
         have Ny363 := Aside0.mk hy363
         clear hy363
         have H' := Aside0.mk H
         clear H
         go_wp2_with (first | ((with_reducible refine gate_callee (f := 84) rfl ?_); refine gL_ (some 41) Try.func84 #[.slice A0 l0.length c0, .int .i64 x8_3] ?_; (with_reducible refine (spec_HasNumber.calls k3 _ _ l0 x8_3 false _ ?side1 ?side2 A22.out).mono ?_); (case side1 => exact ch_ HR0 HB); (case side2 => exact HC0.out); rintro e w' ⟨rfl, ⟨nd, rfl⟩⟩; refine ⟨_, rfl, ?_⟩; obtain ⟨Ao39, co39, eo39⟩ := Kd.R_slice HO_6.out; subst eo39) | ((with_reducible refine gate_builtin (b := .append) (xs := #[.tmp 55, .tmp 57]) rfl ?_); (try (refine gate_guard (by rfl) ?_; dsimp only)); at_builtin; refine Kd.R_append (Kd.int .i64) (w0 := w) w.heap.size rfl (.tmp 55) (.tmp 57) 24 3 (.int .i64 0) 8 rfl Try.underlying24 info3 rfl (by decide) (by omega) (.slice Ao39 x6_3.length co39) x6_3 x8_3 [.int .i64 x8_3] (fun _ => True) (fun _ => False) rfl rfl ?aP (fun _ hk => hk.elim) ?aF ?aO ?aB ?aS ?aL ?_; (case aP => exact rfl); (case aB => exact (bq_ HB)); (case aF => exact (fun _ _ => trivial)); (case aO => exact (re_ HO_6.out)); (case aS => exact (below_size (bq_ HB))); (case aL => have := LMc38.out; omega); intro v364 w40 ho hb hg hat; rw [← Ny363.out] at ho; replace BK343 := Aside0.mk (blk_grown (be_ BK343.out) hg (Kd.R_ne HO_6.out BK343.out (by decide))); replace BK347 := Aside0.mk (blk_grown (be_ BK347.out) hg (Kd.R_ne HO_6.out BK347.out (by decide))); replace HB := Aside0.mk (hb); have HO365 := Aside0.mk (ho); clear HO_6; clear ho hb hg hat))
         go_roundg k3
         case measure => have := HJ2.out; have := HJ13.out; have := HK3.out; omega
         case rel => exact ⟨(y363), (wrap64 (x8_3 + 1)), rs_, H', ⟨by have := HJ2.out; have := HJ13.out; have := HK3.out; omega⟩, ⟨re_ HO365.out⟩, ⟨be_ BK343.out⟩, ⟨be_ BK347.out⟩, ⟨bq_ HB⟩⟩
       rw [if_pos c24] at H
       have c24b0 : decide (0 < (x6_3.length : Int)) = true := decide_eq_true c24
       have c24b1 : decide (0 < x6_3.length) = true := decide_eq_true (by omega)
       clear c24
       obtain ⟨t356, A25, H⟩ := ob_ H
       obtain ⟨c26b0, H⟩ := ipd_ H
       obtain ⟨c27b0, H⟩ := ipd_ H
       obtain ⟨bq28, hbq28⟩ : ∃ b_ : Bool, b_ = (rdOf false t356 x8_3) := ⟨_, rfl⟩
       replace H : (if bq28 = true then (spec_FromGaps.l0 k3 l0 x6_3 x7_13 (wrap64 (x8_3 + 1))) else (if x6_3.length < 17592186044416 then (spec_FromGaps.l0 k3 l0 (x6_3 ++ [x8_3]) x7_13 (wrap64 (x8_3 + 1))) else (none))) = some (r1, r2) := by rw [← hbq28] at H; exact H
       have Nbq28 := Aside0.mk hbq28
       clear hbq28
       by_cases c29 : bq28 = true
       · subst c29
         rw [if_pos rfl] at H
         have H' := Aside0.mk H
         clear H
         go_wp2_with (first | ((with_reducible refine gate_callee (f := 84) rfl ?_); refine gL_ (some 41) Try.func84 #[.slice A0 l0.length c0, .int .i64 x8_3] ?_; (with_reducible refine (spec_HasNumber.calls k3 _ _ l0 x8_3 false _ ?side1 ?side2 A22.out).mono ?_); (case side1 => exact ch_ HR0 HB); (case side2 => exact HC0.out); rintro e w' ⟨rfl, ⟨nd, rfl⟩⟩; refine ⟨_, rfl, ?_⟩; obtain ⟨Ao30, co30, eo30⟩ := Kd.R_slice HO_6.out; subst eo30) | (go_at_call 81; (with_reducible refine (spec_l3Table.calls k3 _ _ x6_3 x8_3 t356 _ ?side1 ?side2 A25.out).mono ?_); (case side1 => exact ce_ ((Kd.R_reads' HO_6.out).2.2)); (case side2 => exact (Kd.R_reads' HO_6.out).2.1); rintro e w31 ⟨v357, rfl, ho0, hb⟩; replace HO_6 := Aside0.mk (Kd.R_below (re_ HO_6.out) hb); have HO358 := Aside0.mk (Kd.R_lower ho0 (below_size (bq_ HB))); replace BK343 := bk_ BK343 hb; replace BK347 := bk_ BK347 hb; replace HB := bp_ HB hb; (try clear hb); (try clear ho0); obtain ⟨Ao32, co32, eo32⟩ := Kd.R_slice HO358.out; subst eo32; have p359 : 0 ≤ (x8_3 : Int) := od_; have q359 : x8_3 < (t356.length : Int) := od_; obtain ⟨ad359, e359, hx359_0⟩ := Kd.at_bool (Kd.R_reads' HO358.out).2.2 x8_3 p359 q359; (try rw [← Nbq28.out] at hx359_0); cases e359; replace p359 := eq_true p359; replace q359 := eq_true q359))
         go_roundg k3
         case measure => have := HJ2.out; have := HJ13.out; have := HK3.out; omega
         case rel => exact ⟨(x6_3), (wrap64 (x8_3 + 1)), rs_, H', ⟨by have := HJ2.out; have := HJ13.out; have := HK3.out; omega⟩, ⟨re_ HO_6.out⟩, ⟨be_ BK343.out⟩, ⟨be_ BK347.out⟩, ⟨bq_ HB⟩⟩
       replace c29 := Bool.eq_false_iff.mpr c29
       subst c29
       rw [if_neg (show ¬ (false = true) by decide)] at H
       obtain ⟨c33, H⟩ := ip_ H
       have LMc33 := Aside0.mk c33
       clear c33
       obtain ⟨y360, hy360⟩ : ∃ y_ : List Int, y_ = (x6_3 ++ [x8_3]) := ⟨_, rfl⟩
       replace H : (spec_FromGaps.l0 k3 l0 y360 x7_13 (wrap64 (x8_3 + 1))) = some (r1, r2) := by subst hy360; exact H
       have Ny360 := Aside0.mk hy360
       clear hy360
       have H' := Aside0.mk H
       clear H
       go_wp2_with (first | ((with_reducible refine gate_callee (f := 84) rfl ?_); refine gL_ (some 41) Try.func84 #[.slice A0 l0.length c0, .int .i64 x8_3] ?_; (with_reducible refine (spec_HasNumber.calls k3 _ _ l0 x8_3 false _ ?side1 ?side2 A22.out).mono ?_); (case side1 => exact ch_ HR0 HB); (case side2 => exact HC0.out); rintro e w' ⟨rfl, ⟨nd, rfl⟩⟩; refine ⟨_, rfl, ?_⟩; obtain ⟨Ao34, co34, eo34⟩ := Kd.R_slice HO_6.out; subst eo34) | (go_at_call 81; (with_reducible refine (spec_l3Table.calls k3 _ _ x6_3 x8_3 t356 _ ?side1 ?side2 A25.out).mono ?_); (case side1 => exact ce_ ((Kd.R_reads' HO_6.out).2.2)); (case side2 => exact (Kd.R_reads' HO_6.out).2.1); rintro e w35 ⟨v357, rfl, ho0, hb⟩; replace HO_6 := Aside0.mk (Kd.R_below (re_ HO_6.out) hb); have HO358 := Aside0.mk (Kd.R_lower ho0 (below_size (bq_ HB))); replace BK343 := bk_ BK343 hb; replace BK347 := bk_ BK347 hb; replace HB := bp_ HB hb; (try clear hb); (try clear ho0); obtain ⟨Ao36, co36, eo36⟩ := Kd.R_slice HO358.out; subst eo36; have p359 : 0 ≤ (x8_3 : Int) := od_; have q359 : x8_3 < (t356.length : Int) := od_; obtain ⟨ad359, e359, hx359_0⟩ := Kd.at_bool (Kd.R_reads' HO358.out).2.2 x8_3 p359 q359; (try rw [← Nbq28.out] at hx359_0); cases e359; replace p359 := eq_true p359; replace q359 := eq_true q359) | ((with_reducible refine gate_builtin (b := .append) (xs := #[.tmp 55, .tmp 57]) rfl ?_); (try (refine gate_guard (by rfl) ?_; dsimp only)); at_builtin; refine Kd.R_append (Kd.int .i64) (w0 := w) w.heap.size rfl (.tmp 55) (.tmp 57) 24 3 (.int .i64 0) 8 rfl Try.underlying24 info3 rfl (by decide) (by omega) (.slice Ao34 x6_3.length co34) x6_3 x8_3 [.int .i64 x8_3] (fun _ => True) (fun _ => False) rfl rfl ?aP (fun _ hk => hk.elim) ?aF ?aO ?aB ?aS ?aL ?_; (case aP => exact rfl); (case aB => exact (bq_ HB)); (case aF => exact (fun _ _ => trivial)); (case aO => exact (re_ HO_6.out)); (case aS => exact (below_size (bq_ HB))); (case aL => have := LMc33.out; omega); intro v361 w37 ho hb hg hat; rw [← Ny360.out] at ho; replace BK343 := Aside0.mk (blk_grown (be_ BK343.out) hg (Kd.R_ne HO_6.out BK343.out (by decide))); replace BK347 := Aside0.mk (blk_grown (be_ BK347.out) hg (Kd.R_ne HO_6.out BK347.out (by decide))); replace HO358 := Aside0.mk (Kd.R_over' (re_ HO358.out) (Kd.R_typed (re_ HO_6.out)) (by decide) hg); replace HB := Aside0.mk (hb); have HO362 := Aside0.mk (ho); clear HO_6; clear ho hb hg hat))
       go_roundg k3
       case measure => have := HJ2.out; have := HJ13.out; have := HK3.out; omega
       case rel => exact ⟨(y360), (wrap64 (x8_3 + 1)), rs_, H', ⟨by have := HJ2.out; have := HJ13.out; have := HK3.out; omega⟩, ⟨re_ HO362.out⟩, ⟨be_ BK343.out⟩, ⟨be_ BK347.out⟩, ⟨bq_ HB⟩⟩
def spec_RemoveGenerator.j0 : Nat → Int → Bool → List Int → Option (List Int × Bool)
 | 0, _, _, _ => none
 | k + 1, x1, x17, x367000 => if x17 = true then (some (([] : List Int), false)) else ((spec_l4Gaps.f k x367000).bind fun t370 => (if t370.length < 17592186044416 then ((spec_SortList.f k (t370 ++ [x1])).bind fun t376 => ((spec_FromGaps.f k t376).bind fun bt379 => (some (bt379.1, bt379.2)))) else (none)))
def spec_RemoveGenerator.f (k : Nat) (l0_0 : List Int) (a1 : Int) : Option (List Int × Bool) := (spec_IsSemigroup.f k l0_0).bind fun t368 => (if t368 = true then ((spec_HasNumber.f k l0_0 a1).bind fun t369 => (spec_RemoveGenerator.j0 k a1 (!t369) l0_0)) else (spec_RemoveGenerator.j0 k a1 true l0_0))
theorem spec_RemoveGenerator.calls (k : Nat) (A0_0 : Option Addr) (c0_0 : Nat) (l0_0 : List Int) (a1 : Int) (r1 : List Int) (r2 : Bool) (w : World) (hr0_0 : Kd.C (Kd.int .i64) w A0_0 l0_0.length l0_0) (hc0_0 : l0_0.length ≤ c0_0) (h : spec_RemoveGenerator.f k l0_0 a1 = some (r1, r2)) :
 Calls Try.prog 72 #[.agg #[.slice A0_0 l0_0.length c0_0], .int .i64 a1] w fun e w' => ∃ v0_ : Value, e = .returned (.tuple #[.agg #[v0_], .bool r2]) ∧ Kd.R (Kd.int .i64) 3 w' w.heap.size (fun _ => True) v0_ r1 ∧ Below w.heap.size w w' := by
 have hu26 := Try.underlying26
 have HR0_0 := Aside0.mk hr0_0
 have HC0_0 := Aside0.mk hc0_0
 clear hr0_0 hc0_0
 have HB := Aside0.mk (Below.refl w.heap.size w)
 have H := h
 clear h
 unfold spec_RemoveGenerator.f at H
 have HC3 := Aside0.mk H
 clear H
 go_enter Try.func72, Try.ntmps72
 go_upto_region 1 with (first | ((with_reducible refine gate_dst (N := 2) rfl ?_); refine bx_ 2 #[.slice A0_0 l0_0.length c0_0] 26 ?_; intro gb366 hg w4 hbox hb; have BK366 := Aside0.mk (hbox); have GW366 := gw_ hg HB; have GE366 := gw_ hg HB; replace HB := bo_ HB hb; clear hb hbox hg) | ((with_reducible refine gate_dst (N := 4) rfl ?_); refine bx_ 4 #[.slice none 0 0] 26 ?_; intro gb367 hg w5 hbox hb; have BK367 := Aside0.mk (hbox); have GW367 := gq_ hg (bq_ HB); have GE367 := gq_ hg (bq_ HB); replace HB := bp_ HB hb; have NB366_367 := nl_ hg BK366; have NB367_366 := ng_ hg BK366; replace BK366 := bk_ BK366 hb; clear hb hbox hg))
 (try simp only [Act.put, z1_, z2_, z3_])
 go_cut [17] (fun v17 wc => ∃ (kq : Nat) (x17_2 : Bool), v17 = .bool x17_2 ∧ Aside0 (spec_RemoveGenerator.j0 kq a1 x17_2 l0_0 = some (r1, r2)) ∧ Aside0 (kq ≤ k) ∧ Aside0 (wc.heap[gb366]? = some (.cells #[(.slice A0_0 l0_0.length c0_0)] 26 (0, 0))) ∧ Aside0 (wc.heap[gb367]? = some (.cells #[(.slice none 0 0)] 26 (0, 0))) ∧ Aside0 (Below w.heap.size w wc))
 case first =>
  have H := HC3.out
  clear HC3
  obtain ⟨t368, A6, H⟩ := ob_ H
  by_cases c7 : t368 = true
  rotate_left
  · replace c7 := Bool.eq_false_iff.mpr c7
    subst c7
    rw [if_neg (show ¬ (false = true) by decide)] at H
    have H' := Aside0.mk H
    clear H
    have hnb13 := NB366_367.out
    have hnc13 := NB367_366.out
    have hcz14_0 := cz_ BK366
    have hfz14_0 := blk_frozen BK366.out 0
    go_wp2_with (first | ((with_reducible refine gate_callee (f := 25) rfl ?_); refine gL_ (some 9) Try.func25 #[.agg #[.slice A0_0 l0_0.length c0_0]] ?_; (with_reducible refine (spec_IsSemigroup.calls k _ _ l0_0 false _ ?side1 ?side2 A6.out).mono ?_); (case side1 => exact ch_ HR0_0 HB); (case side2 => exact HC0_0.out); rintro e w15 ⟨rfl, hb⟩; refine ⟨_, rfl, ?_⟩; replace BK366 := bk_ BK366 hb; replace BK367 := bk_ BK367 hb; replace HB := bp_ HB hb; (try clear hb)))
    go_meet
    case rel => exact ⟨_, (true), rs_, H', ⟨by first | omega | exact Nat.le_refl _⟩, ⟨be_ BK366.out⟩, ⟨be_ BK367.out⟩, ⟨bq_ HB⟩⟩
  subst c7
  rw [if_pos rfl] at H
  obtain ⟨t369, A8, H⟩ := ob_ H
  have H' := Aside0.mk H
  clear H
  have hnb9 := NB366_367.out
  have hnc9 := NB367_366.out
  have hcz10_0 := cz_ BK366
  have hfz10_0 := blk_frozen BK366.out 0
  go_wp2_with (first | ((with_reducible refine gate_callee (f := 25) rfl ?_); refine gL_ (some 9) Try.func25 #[.agg #[.slice A0_0 l0_0.length c0_0]] ?_; (with_reducible refine (spec_IsSemigroup.calls k _ _ l0_0 true _ ?side1 ?side2 A6.out).mono ?_); (case side1 => exact ch_ HR0_0 HB); (case side2 => exact HC0_0.out); rintro e w11 ⟨rfl, hb⟩; refine ⟨_, rfl, ?_⟩; replace BK366 := bk_ BK366 hb; replace BK367 := bk_ BK367 hb; replace HB := bp_ HB hb; (try clear hb); have hcz12_0 := cz_ BK366; have hfz12_0 := blk_frozen BK366.out 0) | (go_at_call 84; (with_reducible refine (spec_HasNumber.calls k _ _ l0_0 a1 t369 _ ?side1 ?side2 A8.out).mono ?_); (case side1 => exact ch_ HR0_0 HB); (case side2 => exact HC0_0.out); rintro e w' ⟨rfl, ⟨nd, rfl⟩⟩))
  go_meet
  case rel => exact ⟨_, (!t369), rs_, H', ⟨by first | omega | exact Nat.le_refl _⟩, ⟨be_ BK366.out⟩, ⟨be_ BK367.out⟩, ⟨bq_ HB⟩⟩
 case rest =>
  clear HC3
  obtain ⟨kq, x17_2, rfl, HA, HJ2, BK366, BK367, HB⟩ := hcut
  cases kq with
  | zero => exact absurd HA.out (by simp [spec_RemoveGenerator.j0])
  | succ kj2 =>
   have H := HA.out
   clear HA
   simp only [spec_RemoveGenerator.j0] at H
   by_cases c16 : x17_2 = true
   · subst c16
     rw [if_pos rfl] at H
     simp only [Option.some.injEq, Prod.mk.injEq] at H
     obtain ⟨rfl, rfl⟩ := H
     have hnb17 := NB367_366.out
     have hnc17 := NB366_367.out
     have hcz18_0 := cz_ BK367
     have hfz18_0 := blk_frozen BK367.out 0
     go_wp2
     refine bodyPost_ret (results_ct rfl _ _ gb367 26 #[.slice none 0 0] (0, 0) _ rfl (bz_ BK367) Try.underlying26 rfl (by kernel_rfl)) rfl ?_
     exact ⟨_, rf_, by first | exact Kd.R_nil _ _ _ _ _ | exact Kd.N_nil _ _ _ _ _ | exact Kd.V_nil _ _ _ _ _ | exact Kd.Q_nil _ _ _ _ _ | exact Kd.S_nil _ _ _ _ _, bq_ HB⟩
   replace c16 := Bool.eq_false_iff.mpr c16
   subst c16
   rw [if_neg (show ¬ (false = true) by decide)] at H
   obtain ⟨t370, A19, H⟩ := ob_ H
   obtain ⟨c20, H⟩ := ip_ H
   have LMc20 := Aside0.mk c20
   clear c20
   obtain ⟨y373, hy373⟩ : ∃ y_ : List Int, y_ = (t370 ++ [a1]) := ⟨_, rfl⟩
   replace H : ((spec_SortList.f kj2 y373).bind fun t376 => ((spec_FromGaps.f kj2 t376).bind fun bt379 => (some (bt379.1, bt379.2)))) = some (r1, r2) := by subst hy373; exact H
   have Ny373 := Aside0.mk hy373
   clear hy373
   obtain ⟨t376, A21, H⟩ := ob_ H
   obtain ⟨⟨t379, t382⟩, A22, H⟩ := ob_ H
   (try dsimp only at H)
   simp only [Option.some.injEq, Prod.mk.injEq] at H
   obtain ⟨rfl, rfl⟩ := H
   have hnb23 := NB366_367.out
   have hnc23 := NB367_366.out
   have hcz24_0 := cz_ BK366
   have hfz24_0 := blk_frozen BK366.out 0
   go_wp2_with (first | ((with_reducible refine gate_callee (f := 54) rfl ?_); refine gL_ (some 21) Try.func54 #[.agg #[.slice A0_0 l0_0.length c0_0]] ?_; (with_reducible refine (spec_l4Gaps.calls kj2 _ _ l0_0 t370 _ ?side1 ?side2 A19.out).mono ?_); (case side1 => exact ch_ HR0_0 HB); (case side2 => exact HC0_0.out); rintro e w25 ⟨v371, rfl, ho0, hb⟩; refine ⟨_, rfl, ?_⟩; have HO372 := Aside0.mk (Kd.R_lower ho0 (below_size (bq_ HB))); replace BK366 := bk_ BK366 hb; replace BK367 := bk_ BK367 hb; replace HB := bp_ HB hb; (try clear hb); (try clear ho0)) | ((with_reducible refine gate_builtin (b := .append) (xs := #[.tmp 21, .tmp 23]) rfl ?_); at_builtin; refine Kd.R_append (Kd.int .i64) (w0 := w) w.heap.size rfl (.tmp 21) (.tmp 23) 24 3 (.int .i64 0) 8 rfl Try.underlying24 info3 rfl (by decide) (by omega) v371 t370 a1 [.int .i64 a1] (fun _ => True) (fun _ => False) rfl rfl ?aP (fun _ hk => hk.elim) ?aF ?aO ?aB ?aS ?aL ?_; (case aP => exact rfl); (case aB => exact (bq_ HB)); (case aF => exact (fun _ _ => trivial)); (case aO => exact (re_ HO372.out)); (case aS => exact (below_size (bq_ HB))); (case aL => have := LMc20.out; omega); intro v374 w26 ho hb hg hat; rw [← Ny373.out] at ho; replace BK366 := Aside0.mk (blk_grown (be_ BK366.out) hg (Kd.R_ne HO372.out BK366.out (by decide))); replace BK367 := Aside0.mk (blk_grown (be_ BK367.out) hg (Kd.R_ne HO372.out BK367.out (by decide))); replace HB := Aside0.mk (hb); have HO375 := Aside0.mk (ho); clear HO372; clear ho hb hg hat; obtain ⟨Ao27, co27, eo27⟩ := Kd.R_slice HO375.out; subst eo27) | ((with_reducible refine gate_callee (f := 53) rfl ?_); refine gL_ (some 25) Try.func53 #[.slice Ao27 y373.length co27] ?_; (with_reducible refine (spec_SortList.calls kj2 _ _ y373 t376 _ ?side1 ?side2 A21.out).mono ?_); (case side1 => exact ce_ ((Kd.R_reads' HO375.out).2.2)); (case side2 => exact (Kd.R_reads' HO375.out).2.1); rintro e w28 ⟨v377, rfl, ho0, hb⟩; refine ⟨_, rfl, ?_⟩; have HO378 := Aside0.mk (Kd.R_lower (Kd.R_new' ho0 (Kd.R_lt (re_ HO375.out))) (below_size (bq_ HB))); replace HO375 := Aside0.mk (Kd.R_elder' (re_ HO375.out) (Kd.R_base ho0) hb); replace BK366 := bk_ BK366 hb; replace BK367 := bk_ BK367 hb; replace HB := bp_ HB hb; (try clear hb); (try clear ho0); obtain ⟨Ao29, co29, eo29⟩ := Kd.R_slice HO378.out; subst eo29) | ((with_reducible refine gate_callee (f := 52) rfl ?_); refine gL_ (some 26) Try.func52 #[.slice Ao29 t376.length co29] ?_; (with_reducible refine (spec_FromGaps.calls kj2 _ _ t376 t379 t382 _ ?side1 ?side2 A22.out).mono ?_); (case side1 => exact ce_ ((Kd.R_reads' HO378.out).2.2)); (case side2 => exact (Kd.R_reads' HO378.out).2.1); rintro e w30 ⟨v380, rfl, ho0, hb⟩; refine ⟨_, rfl, ?_⟩; have HO381 := Aside0.mk (Kd.R_lower (Kd.R_new' (Kd.R_new' ho0 (Kd.R_lt (re_ HO375.out))) (Kd.R_lt (re_ HO378.out))) (below_size (bq_ HB))); replace HO375 := Aside0.mk (Kd.R_elder' (re_ HO375.out) (Kd.R_base ho0) hb); replace HO378 := Aside0.mk (Kd.R_elder' (re_ HO378.out) (Kd.R_base ho0) hb); replace BK366 := bk_ BK366 hb; replace BK367 := bk_ BK367 hb; replace HB := bp_ HB hb; (try clear hb); (try clear ho0)) | ((with_reducible refine gate_dst (N := 6) rfl ?_); refine bx_ 6 #[.slice none 0 0] 26 ?_; intro gb383 hg w31 hbox hb; replace HO375 := Aside0.mk (Kd.R_below (re_ HO375.out) hb); replace HO378 := Aside0.mk (Kd.R_below (re_ HO378.out) hb); replace HO381 := Aside0.mk (Kd.R_below (re_ HO381.out) hb); have BK383 := Aside0.mk (hbox); have GW383 := gq_ hg (bq_ HB); have GE383 := gq_ hg (bq_ HB); replace HB := bp_ HB hb; have NB366_383 := nl_ hg BK366; have NB383_366 := ng_ hg BK366; replace BK366 := bk_ BK366 hb; have NB367_383 := nl_ hg BK367; have NB383_367 := ng_ hg BK367; replace BK367 := bk_ BK367 hb; clear hb hbox hg; obtain ⟨Ao32, co32, eo32⟩ := Kd.R_slice HO381.out; subst eo32; have hnb33 := NB383_366.out; have hnc33 := NB366_383.out; have hnb34 := NB383_367.out; have hnc34 := NB367_383.out; have hcz35_0 := cz_ BK383; have hfz35_0 := blk_frozen BK383.out 0; have hcz36_0 := cz_ BK367; have hfz36_0 := blk_frozen BK367.out 0))
   refine bodyPost_ret (results_ct rfl _ _ gb367 26 #[.slice Ao32 t379.length co32] (0, 0) _ rfl (bz_ BK367) Try.underlying26 rfl (by kernel_rfl)) rfl ?_
   exact ⟨_, rf_, by (with_reducible repeat (first | apply Kd.R_alloc | apply Kd.R_drewN | apply Kd.R_drew)); exact Kd.R_mono (Kd.R_far (p := ⟨gb367, 0, none⟩) (Kd.R_far (p := ⟨gb383, 0, none⟩) (Kd.R_types (Kd.R_types HO381.out BK383.out (by decide)) BK367.out (by decide)) (fun _ hk => hk.1.2) (.slice Ao32 t379.length co32)) (fun _ hk => hk.2) (.slice Ao32 t379.length co32)) (fun _ hk => trivial), bq_ HB⟩
def spec_ChildrenOf.l0 : Nat → List (S26) → Int → Int → List Int → Option ((List (S26)) × Bool)
 | 0, _, _, _, _ => none
 | k + 1, x4, x5, x6, x385000 => if x6 < (x385000.length : Int) then (if 0 ≤ x6 then (if (rd x385000 x6) ≤ x5 then (spec_ChildrenOf.l0 k x4 x5 (wrap64 (x6 + 1)) x385000) else ((spec_RemoveGenerator.f k x385000 (rd x385000 x6)).bind fun bt395 => (if bt395.2 = true then (if x4.length < 5864062014805 then (spec_ChildrenOf.l0 k (x4 ++ [(⟨bt395.1⟩ : S26)]) x5 (wrap64 (x6 + 1)) x385000) else (none)) else (some ((([] : List (S26))), false))))) else (none)) else (some (x4, true))
def spec_ChildrenOf.f (k : Nat) (l0_0 : List Int) : Option ((List (S26)) × Bool) := (spec_IsSemigroup.f k l0_0).bind fun t385 => (if t385 = true then ((spec_FrobeniusOf.f k l0_0).bind fun t392 => (spec_ChildrenOf.l0 k (([] : List (S26))) t392 0 l0_0)) else (some ((([] : List (S26))), false)))
def spec_ChildrenOf.T9 : Bool × List (List Nat × List Nat) := (true, [([], []), ([], []), ([1], [1]), ([], []), ([2, 3], [2, 3]), ([4], [4]), ([0, 5], [0, 5]), ([6], [6]), ([7], [7]), ([7], [7]), ([], []), ([10, 8, 6, 0, 1, 2, 3, 4, 5, 6, 7, 8, 10], [8, 10]), ([9, 11, 0, 1, 2, 3, 4, 5, 6, 7, 8, 9, 10, 11], [9])])
def spec_ChildrenOf.B9 : List Nat := [0, 0, 2, 0, 14, 30, 63, 127, 255, 255, 0, 1535, 4095]
theorem spec_ChildrenOf.tab9 : rtab .any (opsOf Try.f42 9) = spec_ChildrenOf.T9 := by kernel_rfl
theorem spec_ChildrenOf.bits9 : waitsOk spec_ChildrenOf.T9.2 spec_ChildrenOf.B9 = true := by kernel_rfl
theorem spec_ChildrenOf.calls (k : Nat) (A0_0 : Option Addr) (c0_0 : Nat) (l0_0 : List Int) (r1 : List (S26)) (r2 : Bool) (w : World) (hr0_0 : Kd.C (Kd.int .i64) w A0_0 l0_0.length l0_0) (hc0_0 : l0_0.length ≤ c0_0) (h : spec_ChildrenOf.f k l0_0 = some (r1, r2)) :
 Calls Try.prog 42 #[.agg #[.slice A0_0 l0_0.length c0_0]] w fun e w' => ∃ v0_ : Value, e = .returned (.tuple #[v0_, .bool r2]) ∧ Kd.S k26 26 w' w.heap.size (fun _ => True) v0_ r1 ∧ Below w.heap.size w w' := by
 have hu26 := Try.underlying26
 have HR0_0 := Aside0.mk hr0_0
 have HC0_0 := Aside0.mk hc0_0
 clear hr0_0 hc0_0
 have HB := Aside0.mk (Below.refl w.heap.size w)
 have H := h
 clear h
 unfold spec_ChildrenOf.f at H
 obtain ⟨t385, A2, H⟩ := ob_ H
 by_cases c3 : t385 = true
 rotate_left
 · replace c3 := Bool.eq_false_iff.mpr c3
   subst c3
   rw [if_neg (show ¬ (false = true) by decide)] at H
   obtain ⟨y386, hy386⟩ : ∃ y_ : List (S26), y_ = (([] : List (S26))) := ⟨_, rfl⟩
   replace H : (some (y386, false)) = some (r1, r2) := by subst hy386; exact H
   have Ny386 := Aside0.mk hy386
   clear hy386
   simp only [Option.some.injEq, Prod.mk.injEq] at H
   obtain ⟨rfl, rfl⟩ := H
   go_enter Try.func42, Try.ntmps42
   go_wp2_with (first | ((with_reducible refine gate_dst (N := 1) rfl ?_); refine bx_ 1 #[.slice A0_0 l0_0.length c0_0] 26 ?_; intro gb384 hg w40 hbox hb; have BK384 := Aside0.mk (hbox); have GW384 := gw_ hg HB; have GE384 := gw_ hg HB; replace HB := bo_ HB hb; clear hb hbox hg; have hcz41_0 := cz_ BK384; have hfz41_0 := blk_frozen BK384.out 0) | ((with_reducible refine gate_callee (f := 25) rfl ?_); refine gL_ (some 10) Try.func25 #[.agg #[.slice A0_0 l0_0.length c0_0]] ?_; (with_reducible refine (spec_IsSemigroup.calls k _ _ l0_0 false _ ?side1 ?side2 A2.out).mono ?_); (case side1 => exact ch_ HR0_0 HB); (case side2 => exact HC0_0.out); rintro e w42 ⟨rfl, hb⟩; refine ⟨_, rfl, ?_⟩; replace BK384 := bk_ BK384 hb; replace HB := bp_ HB hb; (try clear hb)) | ((with_reducible refine gate_dst (N := 12) rfl ?_); refine Kd.S_lit k26 _ 26 ?hg (N := 12) ?hd (xs := ([] : List (S26))) (inner := []) (ok := fun _ => True) (okp := fun _ => True) ?hr ?hp (fun _ hk => hk) trivial (Below.refl _ _) (Nat.le_refl _) (by simp) ?_; (case hd => rfl); (case hg => rfl); (case hr => first | (go_simp; done) | (go_simp; rfl)); (case hp => exact (Reps.none _ _)); intro v387 w43 ho44 hb hg_ hnew_; clear hg_ hnew_; (first | rw [← Ny386.out] at ho44 | (simp only [Int.reduceToNat] at ho44; rw [← Ny386.out] at ho44)); have HO388 := Aside0.mk (Kd.S_lower (Kd.S_newB ho44 (g := gb384) (o := .cells #[.slice A0_0 l0_0.length c0_0] 26 (0, 0)) (be_ BK384.out)) (below_size (bq_ HB))); replace BK384 := bk_ BK384 hb; replace HB := bp_ HB hb; clear hb ho44))
   go_ret2
   exact ⟨_, rf_, by (with_reducible repeat (first | apply Kd.S_alloc | apply Kd.S_drewN | apply Kd.S_drew)); exact Kd.S_mono HO388.out (fun _ hk => trivial), bq_ HB⟩
 subst c3
 rw [if_pos rfl] at H
 obtain ⟨y389, hy389⟩ : ∃ y_ : List (S26), y_ = (([] : List (S26))) := ⟨_, rfl⟩
 replace H : ((spec_FrobeniusOf.f k l0_0).bind fun t392 => (spec_ChildrenOf.l0 k y389 t392 0 l0_0)) = some (r1, r2) := by subst hy389; exact H
 have Ny389 := Aside0.mk hy389
 clear hy389
 obtain ⟨t392, A4, H⟩ := ob_ H
 have H' := Aside0.mk H
 clear H
 go_enter Try.func42, Try.ntmps42
 go_wp2_with (first | ((with_reducible refine gate_dst (N := 1) rfl ?_); refine bx_ 1 #[.slice A0_0 l0_0.length c0_0] 26 ?_; intro gb384 hg w5 hbox hb; have BK384 := Aside0.mk (hbox); have GW384 := gw_ hg HB; have GE384 := gw_ hg HB; replace HB := bo_ HB hb; clear hb hbox hg; have hcz6_0 := cz_ BK384; have hfz6_0 := blk_frozen BK384.out 0) | ((with_reducible refine gate_callee (f := 25) rfl ?_); refine gL_ (some 10) Try.func25 #[.agg #[.slice A0_0 l0_0.length c0_0]] ?_; (with_reducible refine (spec_IsSemigroup.calls k _ _ l0_0 true _ ?side1 ?side2 A2.out).mono ?_); (case side1 => exact ch_ HR0_0 HB); (case side2 => exact HC0_0.out); rintro e w7 ⟨rfl, hb⟩; refine ⟨_, rfl, ?_⟩; replace BK384 := bk_ BK384 hb; replace HB := bp_ HB hb; (try clear hb)) | ((with_reducible refine gate_dst (N := 13) rfl ?_); refine Kd.S_lit k26 _ 26 ?hg (N := 13) ?hd (xs := ([] : List (S26))) (inner := []) (ok := fun _ => True) (okp := fun _ => True) ?hr ?hp (fun _ hk => hk) trivial (Below.refl _ _) (Nat.le_refl _) (by simp) ?_; (case hd => rfl); (case hg => rfl); (case hr => first | (go_simp; done) | (go_simp; rfl)); (case hp => exact (Reps.none _ _)); intro v390 w8 ho9 hb hg_ hnew_; clear hg_ hnew_; (first | rw [← Ny389.out] at ho9 | (simp only [Int.reduceToNat] at ho9; rw [← Ny389.out] at ho9)); have HO391 := Aside0.mk (Kd.S_lower (Kd.S_newB ho9 (g := gb384) (o := .cells #[.slice A0_0 l0_0.length c0_0] 26 (0, 0)) (be_ BK384.out)) (below_size (bq_ HB))); replace BK384 := bk_ BK384 hb; replace HB := bp_ HB hb; clear hb ho9; have hcz10_0 := cz_ BK384; have hfz10_0 := blk_frozen BK384.out 0) | ((with_reducible refine gate_callee (f := 71) rfl ?_); refine gL_ (some 15) Try.func71 #[.agg #[.slice A0_0 l0_0.length c0_0]] ?_; (with_reducible refine (spec_FrobeniusOf.calls k _ _ l0_0 t392 _ ?side1 ?side2 A4.out).mono ?_); (case side1 => exact ch_ HR0_0 HB); (case side2 => exact HC0_0.out); rintro e w11 ⟨rfl, hb⟩; refine ⟨_, rfl, ?_⟩; replace HO391 := Aside0.mk (Kd.S_below (by (with_reducible repeat (first | apply Kd.S_alloc | apply Kd.S_drewN | apply Kd.S_drew)); exact HO391.out) hb); replace BK384 := bk_ BK384 hb; replace HB := bp_ HB hb; (try clear hb)))
 go_loopg [4, 6] k (fun kq v4 v6 w' => ∃ (x4_1 : List (S26)) (x6_1 : Int), v6 = .int .i64 x6_1 ∧ Aside0 (spec_ChildrenOf.l0 kq x4_1 t392 x6_1 l0_0 = some (r1, r2)) ∧ Aside0 (kq ≤ k) ∧ Aside0 (Kd.S k26 26 w' w.heap.size (fun k_ => k_ ≠ gb384) v4 x4_1) ∧ Aside0 (w'.heap[gb384]? = some (.cells #[(.slice A0_0 l0_0.length c0_0)] 26 (0, 0))) ∧ Aside0 (Below w.heap.size w w'))
 case atStart => exact ⟨(y389), (0), rs_, H', ⟨Nat.le_refl _⟩, ⟨by (with_reducible repeat (first | apply Kd.S_alloc | apply Kd.S_drewN | apply Kd.S_drew)); exact Kd.S_mono HO391.out (fun _ hk => hk.2)⟩, ⟨be_ BK384.out⟩, ⟨bq_ HB⟩⟩
 case round =>
  clear H'
  try clear hcz10_0
  try clear hcz6_0
  try clear hfz10_0
  try clear hfz6_0
  obtain ⟨x4_1, x6_1, rfl, HA, HK1, HO_4, BK384, HB⟩ := hrel
  cases gk with
  | zero => exact absurd HA.out (by simp [spec_ChildrenOf.l0])
  | succ k1 =>
   have H := HA.out
   clear HA
   simp only [spec_ChildrenOf.l0] at H
   by_cases c12 : x6_1 < (l0_0.length : Int)
   rotate_left
   · rw [if_neg c12] at H
     have c12b0 : decide (x6_1 < (l0_0.length : Int)) = false := decide_eq_false c12
     clear c12
     simp only [Option.some.injEq, Prod.mk.injEq] at H
     obtain ⟨rfl, rfl⟩ := H
     have hcz39_0 := cz_ BK384
     have hfz39_0 := blk_frozen BK384.out 0
     go_wp2
     go_ret2
     exact ⟨_, rf_, by (with_reducible repeat (first | apply Kd.S_alloc | apply Kd.S_drewN | apply Kd.S_drew)); exact Kd.S_mono HO_4.out (fun _ hk => trivial), bq_ HB⟩
   rw [if_pos c12] at H
   have c12b0 : decide (x6_1 < (l0_0.length : Int)) = true := decide_eq_true c12
   clear c12
   obtain ⟨c13b0, H⟩ := ipd_ H
   by_cases c14 : (rd l0_0 x6_1) ≤ t392
   · rw [if_pos c14] at H
     have c14b0 : decide ((rd l0_0 x6_1) ≤ t392) = true := decide_eq_true c14
     clear c14
     have H' := Aside0.mk H
     clear H
     have hcz15_0 := cz_ BK384
     have hfz15_0 := blk_frozen BK384.out 0
     have p393 : 0 ≤ (x6_1 : Int) := od_
     have q393 : x6_1 < (l0_0.length : Int) := od_
     obtain ⟨ad393, e393, hx393_0⟩ := Kd.at_int HR0_0.out x6_1 p393 q393
     cases e393
     (try replace hx393_0 := (HB.out.cell (World.block_lt_of_cell? w _ hx393_0)).trans hx393_0)
     replace p393 := eq_true p393
     replace q393 := eq_true q393
     go_wp2
     go_roundg k1
     case measure => have := HK1.out; omega
     case rel => exact ⟨(x4_1), (wrap64 (x6_1 + 1)), rs_, H', ⟨by have := HK1.out; omega⟩, ⟨by (with_reducible repeat (first | apply Kd.S_alloc | apply Kd.S_drewN | apply Kd.S_drew)); exact HO_4.out⟩, ⟨be_ BK384.out⟩, ⟨bq_ HB⟩⟩
   rw [if_neg c14] at H
   have c14b0 : decide ((rd l0_0 x6_1) ≤ t392) = false := decide_eq_false c14
   clear c14
   obtain ⟨⟨t395, t398⟩, A16, H⟩ := ob_ H
   (try dsimp only at H)
   by_cases c17 : t398 = true
   rotate_left
   · replace c17 := Bool.eq_false_iff.mpr c17
     subst c17
     rw [if_neg (show ¬ (false = true) by decide)] at H
     obtain ⟨y403, hy403⟩ : ∃ y_ : List (S26), y_ = (([] : List (S26))) := ⟨_, rfl⟩
     replace H : (some (y403, false)) = some (r1, r2) := by subst hy403; exact H
     have Ny403 := Aside0.mk hy403
     clear hy403
     simp only [Option.some.injEq, Prod.mk.injEq] at H
     obtain ⟨rfl, rfl⟩ := H
     have hcz30_0 := cz_ BK384
     have hfz30_0 := blk_frozen BK384.out 0
     have p393 : 0 ≤ (x6_1 : Int) := od_
     have q393 : x6_1 < (l0_0.length : Int) := od_
     obtain ⟨ad393, e393, hx393_0⟩ := Kd.at_int HR0_0.out x6_1 p393 q393
     cases e393
     (try replace hx393_0 := (HB.out.cell (World.block_lt_of_cell? w _ hx393_0)).trans hx393_0)
     replace p393 := eq_true p393
     replace q393 := eq_true q393
     try go_wp2
     replace HO_4 := Aside0.mk (Kd.S_drew HO_4.out)
     replace BK384 := Aside0.mk (blk_drew BK384.out)
     replace HB := Aside0.mk (below_drew1 HB.out)
     have p394 : 0 ≤ (x6_1 : Int) := od_
     have q394 : x6_1 < (l0_0.length : Int) := od_
     obtain ⟨ad394, e394, hx394_0⟩ := Kd.at_int HR0_0.out x6_1 p394 q394
     have hw394_0 := hx394_0
     obtain rfl : ad393 = ad394 := (by injection e394)
     (try replace hx394_0 := (HB.out.cell (World.block_lt_of_cell? w _ hx394_0)).trans hx394_0)
     replace p394 := eq_true p394
     replace q394 := eq_true q394
     refine start_ (n := 13) (S := fun w' => w'.cell? ⟨gb384, 0, none⟩ = some (.slice (some ad393) l0_0.length c0_0) ∧ w'.cell? (ad393.add (x6_1).toNat) = some (.int .i64 (rd l0_0 x6_1))) (ds := []) (B_ 0 13) (by kernel_rfl) rfl rfl ⟨(blk_cell BK384.out 0).trans rfl, ((HB.out.cell (World.block_lt_of_cell? w _ hw394_0)).trans hw394_0)⟩ (fun hHeld => ?_); refine with_tabW spec_ChildrenOf.tab9 spec_ChildrenOf.bits9 (fun HT_ HW_ => ?_)
     generalize wr.drew = w31 at HO_4 BK384 HB hx394_0 hHeld ⊢
     refine pu_ HT_ 1 32 (B_ 2 13) ?_
     refine pu_ HT_ 3 34 (B_ 10 13) ?_
     refine tk2_ HT_ HW_ hHeld 0 31 (B_ 11 13) ?_
     refine tk2_ HT_ HW_ hHeld 2 33 (B_ 15 13) ?_
     refine pu_ HT_ 4 35 (B_ 31 13) ?_
     refine tk2_ HT_ HW_ hHeld 5 36 (B_ 63 13) ?_
     refine join_ (σ := Value × Nat) 2 (B_ 2047 13) (fun s_ => [(37, .tuple #[.agg #[s_.1], .bool false]), (7, .pointer (some ⟨s_.2, 0, none⟩)), (30, .tuple #[.agg #[s_.1], .bool false]), (38, .agg #[s_.1]), (39, .bool false)]) (fun s_ w' => (w'.cell? ⟨gb384, 0, none⟩ = some (.slice (some ad393) l0_0.length c0_0) ∧ w'.cell? (ad393.add (x6_1).toNat) = some (.int .i64 (rd l0_0 x6_1))) ∧ (Kd.R (Kd.int .i64) 3 w' w.heap.size (fun _ => True) s_.1 t395) ∧ (Kd.S k26 26 w' w.heap.size (fun k_ => some k_ ≠ (s_.1 : Value).ownBlock ∧ k_ ≠ gb384 ∧ k_ ≠ s_.2) u4 x4_1) ∧ (w'.heap[gb384]? = some (.cells #[.slice (some ad393) l0_0.length c0_0] 26 (0, 0))) ∧ (w'.heap[s_.2]? = some (.cells #[.slice none 0 0] 26 (0, 0))) ∧ (w.heap.size ≤ s_.2) ∧ (w.heap.size ≤ s_.2) ∧ (gb384 ≠ s_.2) ∧ (s_.2 ≠ gb384) ∧ (Below w.heap.size w w')) ?_ ?_
     rotate_left
     · intro hCont
       refine two_ (i := 6) (j := 10) (Ni := some 37) (Nj := some 7) (B_ 127 13) (B_ 1087 13) rfl rfl rfl rfl (two_of HT_.out (by kernel_rfl)) (by decide) (by decide) (fun K hK => ?_) (fun K hK => ?_)
       · skip
         refine goes_ Try.func72 (by kernel_rfl) rfl #[.agg #[.slice (some ad393) l0_0.length c0_0], .int .i64 (rd l0_0 x6_1)] (by rfl) rfl rfl (by (try simp only [List.map_toArray, List.map_cons, List.map_nil]); first | done | rfl | (simp only [List.length_drop, List.length_take]; rfl)) ?_
         with_reducible refine (spec_RemoveGenerator.calls k1 _ _ l0_0 (rd l0_0 x6_1) t395 false _ ?side1 ?side2 A16.out).mono ?_
         (case side1 => exact ch_ HR0_0 HB)
         (case side2 => exact HC0_0.out)
         rintro e w32 ⟨v396, rfl, ho0, hb⟩
         refine ⟨_, rfl, ?_⟩
         replace HO_4 := Aside0.mk (Kd.S_elder' (by (with_reducible repeat (first | apply Kd.S_alloc | apply Kd.S_drewN | apply Kd.S_drew)); exact HO_4.out) (Kd.R_base ho0) hb)
         have HO397 := Aside0.mk (Kd.R_lower ho0 (below_size (bq_ HB)))
         replace BK384 := bk_ BK384 hb
         replace HB := bp_ HB hb
         (try clear hb)
         (try clear ho0)
         refine hK.out _ _ ⟨(blk_cell BK384.out 0).trans rfl, ((HB.out.cell (World.block_lt_of_cell? w _ hw394_0)).trans hw394_0)⟩ (fun hHeld => ?_)
         clear hK K
         refine norm_ (a' := ?_) ?_ ?_
         rotate_left
         · show Act.put _ (some 37) _ = _
           simp only [Act.put, z1_, z2_, z3_, i64_w, i32_w]
           rfl
         refine pu_ HT_ 7 30 (B_ 255 13) ?_
         refine pu_ HT_ 8 38 (B_ 511 13) ?_
         refine pu_ HT_ 9 39 (B_ 1023 13) ?_
         refine on_ HT_ 10 7 (B_ 2047 13) (fun K hK => ?_)
         refine box_step ?hg (N := 7) ?hd (cs := #[.slice none 0 0]) (t := 26) ?hr ?_; (case hd => rfl); (case hg => rfl); (case hr => first | (go_simp; done) | (go_simp; rfl))
         intro gb399 hg w33 hbox hb
         replace HO_4 := Aside0.mk (Kd.S_below (Kd.S_elderB (by (with_reducible repeat (first | apply Kd.S_alloc | apply Kd.S_drewN | apply Kd.S_drew)); exact HO_4.out) gb399 (Nat.le_of_eq hg.symm)) hb)
         replace HO397 := Aside0.mk (Kd.R_below (re_ HO397.out) hb)
         have BK399 := Aside0.mk (hbox)
         have GW399 := gq_ hg (bq_ HB)
         have GE399 := gq_ hg (bq_ HB)
         replace HB := bp_ HB hb
         have NB384_399 := nl_ hg BK384
         have NB399_384 := ng_ hg BK384
         replace BK384 := bk_ BK384 hb
         clear hb hbox hg
         refine hK.out _ _ ⟨(blk_cell BK384.out 0).trans rfl, ((HB.out.cell (World.block_lt_of_cell? w _ hw394_0)).trans hw394_0)⟩ (fun hHeld => ?_)
         clear hK K
         refine norm_ (a' := ?_) ?_ ?_
         rotate_left
         · show Act.put _ (some 7) _ = _
           simp only [Act.put, z1_, z2_, z3_, i64_w, i32_w]
           rfl
         exact norm_ (by simp only [putAll, Act.put, z1_, z2_, z3_]) (hCont (v396, gb399) _ ⟨hHeld, (re_ HO397.out), (by (with_reducible repeat (first | apply Kd.S_alloc | apply Kd.S_drewN | apply Kd.S_drew)); exact Kd.S_mono HO_4.out (fun _ hk => ⟨hk.1.2, ⟨hk.1.1, hk.2⟩⟩)), (be_ BK384.out), (be_ BK399.out), GW399.out, GE399.out, NB384_399.out, NB399_384.out, (bq_ HB)⟩)
       · skip
         refine box_step ?hg (N := 7) ?hd (cs := #[.slice none 0 0]) (t := 26) ?hr ?_; (case hd => rfl); (case hg => rfl); (case hr => first | (go_simp; done) | (go_simp; rfl))
         intro gb399 hg w32 hbox hb
         replace HO_4 := Aside0.mk (Kd.S_below (Kd.S_elderB (by (with_reducible repeat (first | apply Kd.S_alloc | apply Kd.S_drewN | apply Kd.S_drew)); exact HO_4.out) gb399 (Nat.le_of_eq hg.symm)) hb)
         have BK399 := Aside0.mk (hbox)
         have GW399 := gq_ hg (bq_ HB)
         have GE399 := gq_ hg (bq_ HB)
         replace HB := bp_ HB hb
         have NB384_399 := nl_ hg BK384
         have NB399_384 := ng_ hg BK384
         replace BK384 := bk_ BK384 hb
         clear hb hbox hg
         refine hK.out _ _ ⟨(blk_cell BK384.out 0).trans rfl, ((HB.out.cell (World.block_lt_of_cell? w _ hw394_0)).trans hw394_0)⟩ (fun hHeld => ?_)
         clear hK K
         refine norm_ (a' := ?_) ?_ ?_
         rotate_left
         · show Act.put _ (some 7) _ = _
           simp only [Act.put, z1_, z2_, z3_, i64_w, i32_w]
           rfl
         refine on_ HT_ 6 37 (B_ 1151 13) (fun K hK => ?_)
         refine goes_ Try.func72 (by kernel_rfl) rfl #[.agg #[.slice (some ad393) l0_0.length c0_0], .int .i64 (rd l0_0 x6_1)] (by rfl) rfl rfl (by (try simp only [List.map_toArray, List.map_cons, List.map_nil]); first | done | rfl | (simp only [List.length_drop, List.length_take]; rfl)) ?_
         with_reducible refine (spec_RemoveGenerator.calls k1 _ _ l0_0 (rd l0_0 x6_1) t395 false _ ?side1 ?side2 A16.out).mono ?_
         (case side1 => exact ch_ HR0_0 HB)
         (case side2 => exact HC0_0.out)
         rintro e w33 ⟨v396, rfl, ho0, hb⟩
         refine ⟨_, rfl, ?_⟩
         replace HO_4 := Aside0.mk (Kd.S_elder' (by (with_reducible repeat (first | apply Kd.S_alloc | apply Kd.S_drewN | apply Kd.S_drew)); exact HO_4.out) (Kd.R_base ho0) hb)
         have HO397 := Aside0.mk (Kd.R_lower ho0 (below_size (bq_ HB)))
         replace BK384 := bk_ BK384 hb
         replace BK399 := bk_ BK399 hb
         replace HB := bp_ HB hb
         (try clear hb)
         (try clear ho0)
         refine hK.out _ _ ⟨(blk_cell BK384.out 0).trans rfl, ((HB.out.cell (World.block_lt_of_cell? w _ hw394_0)).trans hw394_0)⟩ (fun hHeld => ?_)
         clear hK K
         refine norm_ (a' := ?_) ?_ ?_
         rotate_left
         · show Act.put _ (some 37) _ = _
           simp only [Act.put, z1_, z2_, z3_, i64_w, i32_w]
           rfl
         refine pu_ HT_ 7 30 (B_ 1279 13) ?_
         refine pu_ HT_ 8 38 (B_ 1535 13) ?_
         refine pu_ HT_ 9 39 (B_ 2047 13) ?_
         exact norm_ (by simp only [putAll, Act.put, z1_, z2_, z3_]) (hCont (v396, gb399) _ ⟨hHeld, (re_ HO397.out), (by (with_reducible repeat (first | apply Kd.S_alloc | apply Kd.S_drewN | apply Kd.S_drew)); exact Kd.S_mono HO_4.out (fun _ hk => ⟨hk.2, ⟨hk.1.1, hk.1.2⟩⟩)), (be_ BK384.out), (be_ BK399.out), GW399.out, GE399.out, NB384_399.out, NB399_384.out, (bq_ HB)⟩)
     rintro ⟨v396, gb399⟩ w34 ⟨hS_, h0_, h1_, h2_, h3_, h4_, h5_, h6_, h7_, h8_⟩
     have n0_ : Aside0 (Kd.R (Kd.int .i64) 3 w34 w.heap.size (fun _ => True) v396 t395) := ⟨h0_⟩
     have n1_ : Aside0 (Kd.S k26 26 w34 w.heap.size (fun k_ => some k_ ≠ (v396 : Value).ownBlock ∧ k_ ≠ gb384 ∧ k_ ≠ gb399) u4 x4_1) := ⟨h1_⟩
     have n2_ : Aside0 (w34.heap[gb384]? = some (.cells #[.slice (some ad393) l0_0.length c0_0] 26 (0, 0))) := ⟨h2_⟩
     have n3_ : Aside0 (w34.heap[gb399]? = some (.cells #[.slice none 0 0] 26 (0, 0))) := ⟨h3_⟩
     have n4_ : Aside0 (w.heap.size ≤ gb399) := ⟨h4_⟩
     have n5_ : Aside0 (w.heap.size ≤ gb399) := ⟨h5_⟩
     have n6_ : Aside0 (gb384 ≠ gb399) := ⟨h6_⟩
     have n7_ : Aside0 (gb399 ≠ gb384) := ⟨h7_⟩
     have n8_ : Aside0 (Below w.heap.size w w34) := ⟨h8_⟩
     clear HO_4
     clear BK384
     clear HB
     clear h0_ h1_ h2_ h3_ h4_ h5_ h6_ h7_ h8_
     have HO397 := n0_
     have HO_4 := n1_
     have BK384 := n2_
     have BK399 := n3_
     have GW399 := n4_
     have GE399 := n5_
     have NB384_399 := n6_
     have NB399_384 := n7_
     have HB := n8_
     clear n0_ n1_ n2_ n3_ n4_ n5_ n6_ n7_ n8_
     have hHeld : w34.cell? ⟨gb384, 0, none⟩ = some (.slice (some ad393) l0_0.length c0_0) ∧ w34.cell? (ad393.add (x6_1).toNat) = some (.int .i64 (rd l0_0 x6_1)) := hS_
     obtain ⟨Ao35, co35, eo35⟩ := Kd.R_slice HO397.out
     (first | subst eo35 | (injection eo35 with f1_ f2_ f3_; have f4_ := f1_.symm; have f5_ := f3_.symm; clear f1_ f2_ f3_; subst f4_; subst f5_))
     refine norm_ (a' := ?_) ?_ ?_
     rotate_left
     · simp only [putAll, Act.put, z1_, z2_, z3_]
       rfl
     refine one_ (i := 11) (N := none) (B_ 4095 13) rfl rfl (one_of HT_.out (by kernel_rfl)) (by decide) (fun K hK => ?_)
     have hs36 : w34.cell? ⟨gb399, 0, none⟩ = some (.slice none 0 0) := (blk_cell BK399.out 0).trans rfl
     have hfs36 := blk_frozen BK399.out 0
     have hns36_0 := NB384_399.out
     have hms36_0 := NB399_384.out
     refine skip_ (w1 := ?_) (by rfl) rfl ?_ ?_
     rotate_left
     · go_simp
       rfl
     refine hK.out _ _ ⟨((cell_far (p := ⟨gb399, _, none⟩) NB384_399.out _).trans (hHeld.1)), ((cell_far (p := ⟨gb399, _, none⟩) (by first | exact Nat.ne_of_lt (Nat.lt_of_lt_of_le (by have := World.block_lt_of_cell? _ _ hw394_0; first | rwa [add_block] at this | exact this) GW399.out) | (rw [add_block]; exact Nat.ne_of_lt (Nat.lt_of_lt_of_le (by have := World.block_lt_of_cell? _ _ hw394_0; first | rwa [add_block] at this | exact this) GW399.out)) | (show (Addr.add _ _).block ≠ _; rw [add_block]; exact Nat.ne_of_lt (Nat.lt_of_lt_of_le (by have := World.block_lt_of_cell? _ _ hw394_0; first | rwa [add_block] at this | exact this) GW399.out)) | (dsimp only; exact Nat.ne_of_lt (Nat.lt_of_lt_of_le (by have := World.block_lt_of_cell? _ _ hw394_0; first | rwa [add_block] at this | exact this) GW399.out))) _).trans (hHeld.2))⟩ (fun hHeld => ?_)
     clear hK K
     refine pu_ HT_ 12 8 (B_ 8191 13) ?_
     refine done_ (done_of HT_.out (by kernel_rfl)) ?_
     try go_wp2_with (first | ((with_reducible refine gate_dst (N := 42) rfl ?_); refine Kd.S_lit k26 _ 26 ?hg (N := 42) ?hd (xs := ([] : List (S26))) (inner := []) (ok := fun _ => True) (okp := fun _ => True) ?hr ?hp (fun _ hk => hk) trivial (Below.refl _ _) (Nat.le_refl _) (by simp) ?_; (case hd => rfl); (case hg => rfl); (case hr => first | (go_simp; done) | (go_simp; rfl)); (case hp => exact (Reps.none _ _)); intro v404 w37 ho38 hb hg_ hnew_; clear hg_ hnew_; (first | rw [← Ny403.out] at ho38 | (simp only [Int.reduceToNat] at ho38; rw [← Ny403.out] at ho38)); have HO405 := Aside0.mk (Kd.S_lower (Kd.S_newB (Kd.S_newB (Kd.S_new' (Kd.S_new' ho38 (Kd.S_lt (by (with_reducible repeat (first | apply Kd.S_alloc | apply Kd.S_drewN | apply Kd.S_drew)); exact (Kd.S_mono (Kd.S_far (p := ⟨gb399, 0, none⟩) (Kd.S_mono HO_4.out (fun k_ hk => (⟨hk, hk.2.2⟩ : _ ∧ k_ ≠ gb399))) (fun _ hk => hk.2) (.slice Ao35 t395.length co35)) (fun _ h_ => h_.1))))) (Kd.R_lt (rf1_ HO397 BK399))) (g := gb384) (o := .cells #[.slice (some ad393) l0_0.length c0_0] 26 (0, 0)) (ba_ BK384)) (g := gb399) (o := .cells #[.slice Ao35 t395.length co35] 26 (0, 0)) (bz_ BK399)) (below_size (bq_ HB))); replace HO_4 := Aside0.mk (Kd.S_elder' (by (with_reducible repeat (first | apply Kd.S_alloc | apply Kd.S_drewN | apply Kd.S_drew)); exact (Kd.S_mono (Kd.S_far (p := ⟨gb399, 0, none⟩) (Kd.S_mono HO_4.out (fun k_ hk => (⟨hk, hk.2.2⟩ : _ ∧ k_ ≠ gb399))) (fun _ hk => hk.2) (.slice Ao35 t395.length co35)) (fun _ h_ => h_.1))) (Kd.S_base ho38) hb); replace HO397 := Aside0.mk (Kd.R_below (rf1_ HO397 BK399) hb); replace BK384 := Aside0.mk (blk_below (g := gb384) (o := .cells #[.slice (some ad393) l0_0.length c0_0] 26 (0, 0)) (ba_ BK384) hb); replace BK399 := Aside0.mk (blk_below (g := gb399) (o := .cells #[.slice Ao35 t395.length co35] 26 (0, 0)) (bz_ BK399) hb); replace HB := bp_ HB hb; clear hb ho38))
     go_ret2
     exact ⟨_, rf_, by (with_reducible repeat (first | apply Kd.S_alloc | apply Kd.S_drewN | apply Kd.S_drew)); exact Kd.S_mono HO405.out (fun _ hk => trivial), bq_ HB⟩
   subst c17
   rw [if_pos rfl] at H
   obtain ⟨c18, H⟩ := ip_ H
   have LMc18 := Aside0.mk c18
   clear c18
   obtain ⟨y400, hy400⟩ : ∃ y_ : List (S26), y_ = (x4_1 ++ [(⟨t395⟩ : S26)]) := ⟨_, rfl⟩
   replace H : (spec_ChildrenOf.l0 k1 y400 t392 (wrap64 (x6_1 + 1)) l0_0) = some (r1, r2) := by subst hy400; exact H
   have Ny400 := Aside0.mk hy400
   clear hy400
   have H' := Aside0.mk H
   clear H
   have hcz19_0 := cz_ BK384
   have hfz19_0 := blk_frozen BK384.out 0
   have p393 : 0 ≤ (x6_1 : Int) := od_
   have q393 : x6_1 < (l0_0.length : Int) := od_
   obtain ⟨ad393, e393, hx393_0⟩ := Kd.at_int HR0_0.out x6_1 p393 q393
   cases e393
   (try replace hx393_0 := (HB.out.cell (World.block_lt_of_cell? w _ hx393_0)).trans hx393_0)
   replace p393 := eq_true p393
   replace q393 := eq_true q393
   try go_wp2
   replace HO_4 := Aside0.mk (Kd.S_drew HO_4.out)
   replace BK384 := Aside0.mk (blk_drew BK384.out)
   replace HB := Aside0.mk (below_drew1 HB.out)
   have p394 : 0 ≤ (x6_1 : Int) := od_
   have q394 : x6_1 < (l0_0.length : Int) := od_
   obtain ⟨ad394, e394, hx394_0⟩ := Kd.at_int HR0_0.out x6_1 p394 q394
   have hw394_0 := hx394_0
   obtain rfl : ad393 = ad394 := (by injection e394)
   (try replace hx394_0 := (HB.out.cell (World.block_lt_of_cell? w _ hx394_0)).trans hx394_0)
   replace p394 := eq_true p394
   replace q394 := eq_true q394
   refine start_ (n := 13) (S := fun w' => w'.cell? ⟨gb384, 0, none⟩ = some (.slice (some ad393) l0_0.length c0_0) ∧ w'.cell? (ad393.add (x6_1).toNat) = some (.int .i64 (rd l0_0 x6_1))) (ds := []) (B_ 0 13) (by kernel_rfl) rfl rfl ⟨(blk_cell BK384.out 0).trans rfl, ((HB.out.cell (World.block_lt_of_cell? w _ hw394_0)).trans hw394_0)⟩ (fun hHeld => ?_); refine with_tabW spec_ChildrenOf.tab9 spec_ChildrenOf.bits9 (fun HT_ HW_ => ?_)
   generalize wr.drew = w20 at HO_4 BK384 HB hx394_0 hHeld ⊢
   refine pu_ HT_ 1 32 (B_ 2 13) ?_
   refine pu_ HT_ 3 34 (B_ 10 13) ?_
   refine tk2_ HT_ HW_ hHeld 0 31 (B_ 11 13) ?_
   refine tk2_ HT_ HW_ hHeld 2 33 (B_ 15 13) ?_
   refine pu_ HT_ 4 35 (B_ 31 13) ?_
   refine tk2_ HT_ HW_ hHeld 5 36 (B_ 63 13) ?_
   refine join_ (σ := Value × Nat) 2 (B_ 2047 13) (fun s_ => [(37, .tuple #[.agg #[s_.1], .bool true]), (7, .pointer (some ⟨s_.2, 0, none⟩)), (30, .tuple #[.agg #[s_.1], .bool true]), (38, .agg #[s_.1]), (39, .bool true)]) (fun s_ w' => (w'.cell? ⟨gb384, 0, none⟩ = some (.slice (some ad393) l0_0.length c0_0) ∧ w'.cell? (ad393.add (x6_1).toNat) = some (.int .i64 (rd l0_0 x6_1))) ∧ (Kd.R (Kd.int .i64) 3 w' w.heap.size (fun _ => True) s_.1 t395) ∧ (Kd.S k26 26 w' w.heap.size (fun k_ => some k_ ≠ (s_.1 : Value).ownBlock ∧ k_ ≠ gb384 ∧ k_ ≠ s_.2) u4 x4_1) ∧ (w'.heap[gb384]? = some (.cells #[.slice (some ad393) l0_0.length c0_0] 26 (0, 0))) ∧ (w'.heap[s_.2]? = some (.cells #[.slice none 0 0] 26 (0, 0))) ∧ (w.heap.size ≤ s_.2) ∧ (w.heap.size ≤ s_.2) ∧ (gb384 ≠ s_.2) ∧ (s_.2 ≠ gb384) ∧ (Below w.heap.size w w')) ?_ ?_
   rotate_left
   · intro hCont
     refine two_ (i := 6) (j := 10) (Ni := some 37) (Nj := some 7) (B_ 127 13) (B_ 1087 13) rfl rfl rfl rfl (two_of HT_.out (by kernel_rfl)) (by decide) (by decide) (fun K hK => ?_) (fun K hK => ?_)
     · skip
       refine goes_ Try.func72 (by kernel_rfl) rfl #[.agg #[.slice (some ad393) l0_0.length c0_0], .int .i64 (rd l0_0 x6_1)] (by rfl) rfl rfl (by (try simp only [List.map_toArray, List.map_cons, List.map_nil]); first | done | rfl | (simp only [List.length_drop, List.length_take]; rfl)) ?_
       with_reducible refine (spec_RemoveGenerator.calls k1 _ _ l0_0 (rd l0_0 x6_1) t395 true _ ?side1 ?side2 A16.out).mono ?_
       (case side1 => exact ch_ HR0_0 HB)
       (case side2 => exact HC0_0.out)
       rintro e w21 ⟨v396, rfl, ho0, hb⟩
       refine ⟨_, rfl, ?_⟩
       replace HO_4 := Aside0.mk (Kd.S_elder' (by (with_reducible repeat (first | apply Kd.S_alloc | apply Kd.S_drewN | apply Kd.S_drew)); exact HO_4.out) (Kd.R_base ho0) hb)
       have HO397 := Aside0.mk (Kd.R_lower ho0 (below_size (bq_ HB)))
       replace BK384 := bk_ BK384 hb
       replace HB := bp_ HB hb
       (try clear hb)
       (try clear ho0)
       refine hK.out _ _ ⟨(blk_cell BK384.out 0).trans rfl, ((HB.out.cell (World.block_lt_of_cell? w _ hw394_0)).trans hw394_0)⟩ (fun hHeld => ?_)
       clear hK K
       refine norm_ (a' := ?_) ?_ ?_
       rotate_left
       · show Act.put _ (some 37) _ = _
         simp only [Act.put, z1_, z2_, z3_, i64_w, i32_w]
         rfl
       refine pu_ HT_ 7 30 (B_ 255 13) ?_
       refine pu_ HT_ 8 38 (B_ 511 13) ?_
       refine pu_ HT_ 9 39 (B_ 1023 13) ?_
       refine on_ HT_ 10 7 (B_ 2047 13) (fun K hK => ?_)
       refine box_step ?hg (N := 7) ?hd (cs := #[.slice none 0 0]) (t := 26) ?hr ?_; (case hd => rfl); (case hg => rfl); (case hr => first | (go_simp; done) | (go_simp; rfl))
       intro gb399 hg w22 hbox hb
       replace HO_4 := Aside0.mk (Kd.S_below (Kd.S_elderB (by (with_reducible repeat (first | apply Kd.S_alloc | apply Kd.S_drewN | apply Kd.S_drew)); exact HO_4.out) gb399 (Nat.le_of_eq hg.symm)) hb)
       replace HO397 := Aside0.mk (Kd.R_below (re_ HO397.out) hb)
       have BK399 := Aside0.mk (hbox)
       have GW399 := gq_ hg (bq_ HB)
       have GE399 := gq_ hg (bq_ HB)
       replace HB := bp_ HB hb
       have NB384_399 := nl_ hg BK384
       have NB399_384 := ng_ hg BK384
       replace BK384 := bk_ BK384 hb
       clear hb hbox hg
       refine hK.out _ _ ⟨(blk_cell BK384.out 0).trans rfl, ((HB.out.cell (World.block_lt_of_cell? w _ hw394_0)).trans hw394_0)⟩ (fun hHeld => ?_)
       clear hK K
       refine norm_ (a' := ?_) ?_ ?_
       rotate_left
       · show Act.put _ (some 7) _ = _
         simp only [Act.put, z1_, z2_, z3_, i64_w, i32_w]
         rfl
       exact norm_ (by simp only [putAll, Act.put, z1_, z2_, z3_]) (hCont (v396, gb399) _ ⟨hHeld, (re_ HO397.out), (by (with_reducible repeat (first | apply Kd.S_alloc | apply Kd.S_drewN | apply Kd.S_drew)); exact Kd.S_mono HO_4.out (fun _ hk => ⟨hk.1.2, ⟨hk.1.1, hk.2⟩⟩)), (be_ BK384.out), (be_ BK399.out), GW399.out, GE399.out, NB384_399.out, NB399_384.out, (bq_ HB)⟩)
     · skip
       refine box_step ?hg (N := 7) ?hd (cs := #[.slice none 0 0]) (t := 26) ?hr ?_; (case hd => rfl); (case hg => rfl); (case hr => first | (go_simp; done) | (go_simp; rfl))
       intro gb399 hg w21 hbox hb
       replace HO_4 := Aside0.mk (Kd.S_below (Kd.S_elderB (by (with_reducible repeat (first | apply Kd.S_alloc | apply Kd.S_drewN | apply Kd.S_drew)); exact HO_4.out) gb399 (Nat.le_of_eq hg.symm)) hb)
       have BK399 := Aside0.mk (hbox)
       have GW399 := gq_ hg (bq_ HB)
       have GE399 := gq_ hg (bq_ HB)
       replace HB := bp_ HB hb
       have NB384_399 := nl_ hg BK384
       have NB399_384 := ng_ hg BK384
       replace BK384 := bk_ BK384 hb
       clear hb hbox hg
       refine hK.out _ _ ⟨(blk_cell BK384.out 0).trans rfl, ((HB.out.cell (World.block_lt_of_cell? w _ hw394_0)).trans hw394_0)⟩ (fun hHeld => ?_)
       clear hK K
       refine norm_ (a' := ?_) ?_ ?_
       rotate_left
       · show Act.put _ (some 7) _ = _
         simp only [Act.put, z1_, z2_, z3_, i64_w, i32_w]
         rfl
       refine on_ HT_ 6 37 (B_ 1151 13) (fun K hK => ?_)
       refine goes_ Try.func72 (by kernel_rfl) rfl #[.agg #[.slice (some ad393) l0_0.length c0_0], .int .i64 (rd l0_0 x6_1)] (by rfl) rfl rfl (by (try simp only [List.map_toArray, List.map_cons, List.map_nil]); first | done | rfl | (simp only [List.length_drop, List.length_take]; rfl)) ?_
       with_reducible refine (spec_RemoveGenerator.calls k1 _ _ l0_0 (rd l0_0 x6_1) t395 true _ ?side1 ?side2 A16.out).mono ?_
       (case side1 => exact ch_ HR0_0 HB)
       (case side2 => exact HC0_0.out)
       rintro e w22 ⟨v396, rfl, ho0, hb⟩
       refine ⟨_, rfl, ?_⟩
       replace HO_4 := Aside0.mk (Kd.S_elder' (by (with_reducible repeat (first | apply Kd.S_alloc | apply Kd.S_drewN | apply Kd.S_drew)); exact HO_4.out) (Kd.R_base ho0) hb)
       have HO397 := Aside0.mk (Kd.R_lower ho0 (below_size (bq_ HB)))
       replace BK384 := bk_ BK384 hb
       replace BK399 := bk_ BK399 hb
       replace HB := bp_ HB hb
       (try clear hb)
       (try clear ho0)
       refine hK.out _ _ ⟨(blk_cell BK384.out 0).trans rfl, ((HB.out.cell (World.block_lt_of_cell? w _ hw394_0)).trans hw394_0)⟩ (fun hHeld => ?_)
       clear hK K
       refine norm_ (a' := ?_) ?_ ?_
       rotate_left
       · show Act.put _ (some 37) _ = _
         simp only [Act.put, z1_, z2_, z3_, i64_w, i32_w]
         rfl
       refine pu_ HT_ 7 30 (B_ 1279 13) ?_
       refine pu_ HT_ 8 38 (B_ 1535 13) ?_
       refine pu_ HT_ 9 39 (B_ 2047 13) ?_
       exact norm_ (by simp only [putAll, Act.put, z1_, z2_, z3_]) (hCont (v396, gb399) _ ⟨hHeld, (re_ HO397.out), (by (with_reducible repeat (first | apply Kd.S_alloc | apply Kd.S_drewN | apply Kd.S_drew)); exact Kd.S_mono HO_4.out (fun _ hk => ⟨hk.2, ⟨hk.1.1, hk.1.2⟩⟩)), (be_ BK384.out), (be_ BK399.out), GW399.out, GE399.out, NB384_399.out, NB399_384.out, (bq_ HB)⟩)
   rintro ⟨v396, gb399⟩ w23 ⟨hS_, h0_, h1_, h2_, h3_, h4_, h5_, h6_, h7_, h8_⟩
   have n0_ : Aside0 (Kd.R (Kd.int .i64) 3 w23 w.heap.size (fun _ => True) v396 t395) := ⟨h0_⟩
   have n1_ : Aside0 (Kd.S k26 26 w23 w.heap.size (fun k_ => some k_ ≠ (v396 : Value).ownBlock ∧ k_ ≠ gb384 ∧ k_ ≠ gb399) u4 x4_1) := ⟨h1_⟩
   have n2_ : Aside0 (w23.heap[gb384]? = some (.cells #[.slice (some ad393) l0_0.length c0_0] 26 (0, 0))) := ⟨h2_⟩
   have n3_ : Aside0 (w23.heap[gb399]? = some (.cells #[.slice none 0 0] 26 (0, 0))) := ⟨h3_⟩
   have n4_ : Aside0 (w.heap.size ≤ gb399) := ⟨h4_⟩
   have n5_ : Aside0 (w.heap.size ≤ gb399) := ⟨h5_⟩
   have n6_ : Aside0 (gb384 ≠ gb399) := ⟨h6_⟩
   have n7_ : Aside0 (gb399 ≠ gb384) := ⟨h7_⟩
   have n8_ : Aside0 (Below w.heap.size w w23) := ⟨h8_⟩
   clear HO_4
   clear BK384
   clear HB
   clear h0_ h1_ h2_ h3_ h4_ h5_ h6_ h7_ h8_
   have HO397 := n0_
   have HO_4 := n1_
   have BK384 := n2_
   have BK399 := n3_
   have GW399 := n4_
   have GE399 := n5_
   have NB384_399 := n6_
   have NB399_384 := n7_
   have HB := n8_
   clear n0_ n1_ n2_ n3_ n4_ n5_ n6_ n7_ n8_
   have hHeld : w23.cell? ⟨gb384, 0, none⟩ = some (.slice (some ad393) l0_0.length c0_0) ∧ w23.cell? (ad393.add (x6_1).toNat) = some (.int .i64 (rd l0_0 x6_1)) := hS_
   obtain ⟨Ao24, co24, eo24⟩ := Kd.R_slice HO397.out
   (first | subst eo24 | (injection eo24 with f1_ f2_ f3_; have f4_ := f1_.symm; have f5_ := f3_.symm; clear f1_ f2_ f3_; subst f4_; subst f5_))
   refine norm_ (a' := ?_) ?_ ?_
   rotate_left
   · simp only [putAll, Act.put, z1_, z2_, z3_]
     rfl
   refine one_ (i := 11) (N := none) (B_ 4095 13) rfl rfl (one_of HT_.out (by kernel_rfl)) (by decide) (fun K hK => ?_)
   have hs25 : w23.cell? ⟨gb399, 0, none⟩ = some (.slice none 0 0) := (blk_cell BK399.out 0).trans rfl
   have hfs25 := blk_frozen BK399.out 0
   have hns25_0 := NB384_399.out
   have hms25_0 := NB399_384.out
   refine skip_ (w1 := ?_) (by rfl) rfl ?_ ?_
   rotate_left
   · go_simp
     rfl
   refine hK.out _ _ ⟨((cell_far (p := ⟨gb399, _, none⟩) NB384_399.out _).trans (hHeld.1)), ((cell_far (p := ⟨gb399, _, none⟩) (by first | exact Nat.ne_of_lt (Nat.lt_of_lt_of_le (by have := World.block_lt_of_cell? _ _ hw394_0; first | rwa [add_block] at this | exact this) GW399.out) | (rw [add_block]; exact Nat.ne_of_lt (Nat.lt_of_lt_of_le (by have := World.block_lt_of_cell? _ _ hw394_0; first | rwa [add_block] at this | exact this) GW399.out)) | (show (Addr.add _ _).block ≠ _; rw [add_block]; exact Nat.ne_of_lt (Nat.lt_of_lt_of_le (by have := World.block_lt_of_cell? _ _ hw394_0; first | rwa [add_block] at this | exact this) GW399.out)) | (dsimp only; exact Nat.ne_of_lt (Nat.lt_of_lt_of_le (by have := World.block_lt_of_cell? _ _ hw394_0; first | rwa [add_block] at this | exact this) GW399.out))) _).trans (hHeld.2))⟩ (fun hHeld => ?_)
   clear hK K
   refine pu_ HT_ 12 8 (B_ 8191 13) ?_
   refine done_ (done_of HT_.out (by kernel_rfl)) ?_
   have n0_ : Aside0 (Kd.S k26 26 (w23.setCell ⟨gb399, 0, none⟩ (.slice Ao24 t395.length co24)) w.heap.size (fun k_ => some k_ ≠ (.slice Ao24 t395.length co24 : Value).ownBlock ∧ k_ ≠ gb384 ∧ k_ ≠ gb399) u4 x4_1) := ⟨by (with_reducible repeat (first | apply Kd.S_alloc | apply Kd.S_drewN | apply Kd.S_drew)); exact Kd.S_mono (Kd.S_far (p := ⟨gb399, 0, none⟩) (Kd.S_mono HO_4.out (fun k_ hk => (⟨hk, hk.2.2⟩ : _ ∧ k_ ≠ gb399))) (fun _ hk => hk.2) (.slice Ao24 t395.length co24)) (fun _ hk => ⟨hk.1.1, ⟨hk.1.2.1, hk.1.2.2⟩⟩)⟩
   have n1_ : Aside0 (Kd.R (Kd.int .i64) 3 (w23.setCell ⟨gb399, 0, none⟩ (.slice Ao24 t395.length co24)) w.heap.size (fun _ => True) (.slice Ao24 t395.length co24) t395) := ⟨by (with_reducible repeat (first | apply Kd.R_alloc | apply Kd.R_drewN | apply Kd.R_drew)); exact Kd.R_mono (Kd.R_far (p := ⟨gb399, 0, none⟩) (Kd.R_types HO397.out BK399.out (by decide)) (fun _ hk => hk.2) (.slice Ao24 t395.length co24)) (fun _ hk => trivial)⟩
   have n2_ : Aside0 ((w23.setCell ⟨gb399, 0, none⟩ (.slice Ao24 t395.length co24)).heap[gb384]? = some (.cells #[.slice (some ad393) l0_0.length c0_0] 26 (0, 0))) := ⟨ba_ BK384⟩
   have n3_ : Aside0 ((w23.setCell ⟨gb399, 0, none⟩ (.slice Ao24 t395.length co24)).heap[gb399]? = some (.cells #[.slice Ao24 t395.length co24] 26 (0, 0))) := ⟨bz_ BK399⟩
   have n4_ : Aside0 (Below w.heap.size w (w23.setCell ⟨gb399, 0, none⟩ (.slice Ao24 t395.length co24))) := ⟨bq_ HB⟩
   (try clear HO_4)
   (try clear HO397)
   (try clear BK384)
   (try clear BK399)
   (try clear HB)
   generalize (w23.setCell ⟨gb399, 0, none⟩ (.slice Ao24 t395.length co24)) = w26 at n0_ n1_ n2_ n3_ n4_ ⊢
   have HO_4 := n0_
   have HO397 := n1_
   have BK384 := n2_
   have BK399 := n3_
   have HB := n4_
   clear n0_ n1_ n2_ n3_ n4_
   have hnb27 := NB399_384.out
   have hnc27 := NB384_399.out
   have hcz28_0 : w26.cell? ⟨gb399, 0, none⟩ = some (.slice Ao24 t395.length co24) := (blk_cell BK399.out 0).trans rfl
   have hfz28_0 := blk_frozen BK399.out 0
   try go_wp2_with (first | ((with_reducible refine gate_builtin (b := .append) (xs := #[.tmp 43, .tmp 45]) rfl ?_); at_builtin; refine Kd.S_append k26 (w0 := w) w.heap.size rfl (.tmp 43) (.tmp 45) 29 26 (.agg #[(.slice none 0 0)]) 24 rfl Try.underlying29 info26 rfl (by decide) (by omega) u4 x4_1 (⟨t395⟩ : S26) [.slice Ao24 t395.length co24] (fun k_ => k_ ≠ gb384 ∧ k_ ≠ gb399) (fun k_ => some k_ = (.slice Ao24 t395.length co24 : Value).ownBlock) rfl rfl ?aP (fun k_ hk_ => ((Kd.R_mono (ok' := fun k_ => ((fun k_ => k_ ≠ gb384 ∧ k_ ≠ gb399)) k_ ∧ some k_ ≠ (u4 : Value).ownBlock) (Kd.R_types (Kd.R_types (Kd.R_apart' (HO397.out) (Kd.S_typed HO_4.out) (by decide)) BK384.out (by decide)) BK399.out (by decide)) (fun k_ hk => ⟨⟨hk.1.2, hk.2⟩, hk.1.1.2⟩))).1 k_ hk_.symm) ?aF ?aO ?aB ?aS ?aL ?_; (case aP => exact k26_mkM _ _ _ (⟨t395⟩ : S26) (Kd.R_mono (Kd.R_tight rfl (Kd.R_mono (ok' := fun k_ => ((fun k_ => k_ ≠ gb384 ∧ k_ ≠ gb399)) k_ ∧ some k_ ≠ (u4 : Value).ownBlock) (Kd.R_types (Kd.R_types (Kd.R_apart' (HO397.out) (Kd.S_typed HO_4.out) (by decide)) BK384.out (by decide)) BK399.out (by decide)) (fun k_ hk => ⟨⟨hk.1.2, hk.2⟩, hk.1.1.2⟩))) (fun _ h_ => h_))); (case aB => exact (bq_ HB)); (case aF => exact (fun k_ hk => ⟨Kd.freshB (g := gb384) (o := .cells #[.slice (some ad393) l0_0.length c0_0] 26 (0, 0)) (be_ BK384.out) k_ hk, Kd.freshB (g := gb399) (o := .cells #[.slice Ao24 t395.length co24] 26 (0, 0)) (be_ BK399.out) k_ hk⟩)); (case aO => exact (by (with_reducible repeat (first | apply Kd.S_alloc | apply Kd.S_drewN | apply Kd.S_drew)); exact Kd.S_mono HO_4.out (fun k_ hk => ⟨⟨hk.2.1, hk.2.2⟩, fun e_ => hk.1 e_⟩))); (case aS => exact (below_size (bq_ HB))); (case aL => have := LMc18.out; omega); intro v401 w29 ho hb hg hat; rw [← Ny400.out] at ho; replace BK384 := Aside0.mk (blk_grown (be_ BK384.out) hg (Kd.S_away HO_4.out (fun _ hk => hk.2.1))); replace BK399 := Aside0.mk (blk_grown (be_ BK399.out) hg (Kd.S_away HO_4.out (fun _ hk => hk.2.2))); replace HB := Aside0.mk (hb); have HO402 := Aside0.mk (ho); clear HO_4 HO397; clear ho hb hg hat))
   go_roundg k1
   case measure => have := HK1.out; omega
   case rel => exact ⟨(y400), (wrap64 (x6_1 + 1)), rs_, H', ⟨by have := HK1.out; omega⟩, ⟨by (with_reducible repeat (first | apply Kd.S_alloc | apply Kd.S_drewN | apply Kd.S_drew)); exact Kd.S_mono HO402.out (fun _ hk => hk.1)⟩, ⟨be_ BK384.out⟩, ⟨bq_ HB⟩⟩
def spec_l3Copy.f (l0_0 : List Int) : Option (List Int) := (some (([] : List Int) : List Int)).bind fun y408 => (if y408.length + l0_0.length < 17592186044416 then (some (y408 ++ l0_0)) else (none))
theorem spec_l3Copy.calls (A0_0 : Option Addr) (c0_0 : Nat) (l0_0 : List Int) (r : List Int) (w : World) (hr0_0 : Kd.C (Kd.int .i64) w A0_0 l0_0.length l0_0) (hc0_0 : l0_0.length ≤ c0_0) (h : spec_l3Copy.f l0_0 = some r) :
 Calls Try.prog 26 #[.agg #[.slice A0_0 l0_0.length c0_0]] w fun e w' => ∃ v0_ : Value, e = .returned (.agg #[v0_]) ∧ Kd.R (Kd.int .i64) 3 w' w.heap.size (fun _ => True) v0_ r ∧ Below w.heap.size w w' := by
 have hu26 := Try.underlying26
 have HR0_0 := Aside0.mk hr0_0
 have HC0_0 := Aside0.mk hc0_0
 clear hr0_0 hc0_0
 have HB := Aside0.mk (Below.refl w.heap.size w)
 have H := h
 clear h
 unfold spec_l3Copy.f at H
 obtain ⟨y408, hy408⟩ : ∃ y_ : List Int, y_ = (([] : List Int)) := ⟨_, rfl⟩
 replace H : (if y408.length + l0_0.length < 17592186044416 then (some (y408 ++ l0_0)) else (none)) = some r := by subst hy408; exact H
 have Ny408 := Aside0.mk hy408
 clear hy408
 obtain ⟨c2, H⟩ := ip_ H
 have LMc2 := Aside0.mk c2
 clear c2
 obtain ⟨y411, hy411⟩ : ∃ y_ : List Int, y_ = (y408 ++ l0_0) := ⟨_, rfl⟩
 replace H : (some y411) = some r := by subst hy411; exact H
 have Ny411 := Aside0.mk hy411
 clear hy411
 obtain rfl := Option.some.inj H
 go_enter Try.func26, Try.ntmps26
 go_wp2_with (first | ((with_reducible refine gate_dst (N := 1) rfl ?_); refine bx_ 1 #[.slice A0_0 l0_0.length c0_0] 26 ?_; intro gb406 hg w3 hbox hb; have BK406 := Aside0.mk (hbox); have GW406 := gw_ hg HB; have GE406 := gw_ hg HB; replace HB := bo_ HB hb; clear hb hbox hg) | ((with_reducible refine gate_dst (N := 2) rfl ?_); refine bx_ 2 #[.slice none 0 0] 26 ?_; intro gb407 hg w4 hbox hb; have BK407 := Aside0.mk (hbox); have GW407 := gq_ hg (bq_ HB); have GE407 := gq_ hg (bq_ HB); replace HB := bp_ HB hb; have NB406_407 := nl_ hg BK406; have NB407_406 := ng_ hg BK406; replace BK406 := bk_ BK406 hb; clear hb hbox hg) | ((with_reducible refine gate_dst (N := 3) rfl ?_); refine Kd.R_lit (Kd.int .i64) _ 3 ?hg (N := 3) ?hd (xs := ([] : List Int)) (inner := []) (ok := fun _ => True) (okp := fun _ => True) ?hr ?hp (fun _ hk => hk) trivial (Below.refl _ _) (Nat.le_refl _) (by simp) ?_; (case hd => rfl); (case hg => rfl); (case hr => first | (go_simp; done) | (go_simp; rfl)); (case hp => exact (Reps.none _ _)); intro v409 w5 ho6 hb hg_ hnew_; clear hg_ hnew_; (first | rw [← Ny408.out] at ho6 | (simp only [Int.reduceToNat] at ho6; rw [← Ny408.out] at ho6)); have HO410 := Aside0.mk (Kd.R_lower ho6 (below_size (bq_ HB))); replace BK406 := bk_ BK406 hb; replace BK407 := bk_ BK407 hb; replace HB := bp_ HB hb; clear hb ho6; have hnb7 := NB406_407.out; have hnc7 := NB407_406.out; have hcz8_0 := cz_ BK406; have hfz8_0 := blk_frozen BK406.out 0) | ((with_reducible refine gate_builtin (b := .append) (xs := #[.tmp 3, .tmp 5]) rfl ?_); at_builtin; refine Kd.R_append_rows (Kd.int .i64) (w0 := w) w.heap.size rfl (.tmp 3) (.tmp 5) 24 3 (.int .i64 0) 8 rfl Try.underlying24 info3 rfl (by decide) (by omega) v409 y408 l0_0 _ _ _ (fun _ => True) (fun _ => False) rfl rfl ?aO ?aR (fun _ _ h => h) (fun _ h => h.elim) ?aF ?aB ?aS ?aL ?_; (case aR => exact ch_ HR0_0 HB); (case aB => exact (bq_ HB)); (case aF => exact (fun _ _ => trivial)); (case aO => exact (re_ HO410.out)); (case aS => exact (below_size (bq_ HB))); (case aL => have := LMc2.out; omega); intro v412 w9 ho hb hg hat; rw [← Ny411.out] at ho; replace BK406 := Aside0.mk (blk_grown (be_ BK406.out) hg (Kd.R_ne HO410.out BK406.out (by decide))); replace BK407 := Aside0.mk (blk_grown (be_ BK407.out) hg (Kd.R_ne HO410.out BK407.out (by decide))); replace HB := Aside0.mk (hb); have HO413 := Aside0.mk (ho); clear HO410; clear ho hb hg hat; obtain ⟨Ao10, co10, eo10⟩ := Kd.R_slice HO413.out; subst eo10; have hcz11_0 := cz_ BK407; have hfz11_0 := blk_frozen BK407.out 0))
 refine bodyPost_ret (results_cell_row rfl _ _ gb407 26 #[.slice Ao10 y411.length co10] (0, 0) _ rfl (bz_ BK407) Try.underlying26 rfl (by kernel_rfl)) rfl ?_
 exact ⟨_, rf_, by (with_reducible repeat (first | apply Kd.R_alloc | apply Kd.R_drewN | apply Kd.R_drew)); exact Kd.R_mono (Kd.R_far (p := ⟨gb407, 0, none⟩) (Kd.R_types HO413.out BK407.out (by decide)) (fun _ hk => hk.2) (.slice Ao10 y411.length co10)) (fun _ hk => trivial), bq_ HB⟩
end Go.Proofs.Ytonknpgfbkgbjaa.PB
end
