-- Bundled by shake.py from this session's printed and written texts; Lean checks it.
import Derived.Test.YtppkokbhgkeknaaZFnArfx1
import Derived.Test.YtppkokbhgkeknaaZFnArfx2
import Derived.Test.YtppkokbhgkeknaaZFnArfx3
import Derived.Test.YtppkokbhgkeknaaZFnArfx4
section
namespace Go.Proofs.Ytppkokbhgkeknaa.PA
open Go.RowKit Go.Proofs.YtppkokbhgkeknaaW.PrintWords Go.Proofs.YtppkokbhgkeknaaW.PrintLast Go.Proofs.YtppkokbhgkeknaaW.PrintMore
attribute [local go_sem] max2_int min2_int max_two min_two max_three min_three max_four min_four
set_option linter.unusedVariables false
set_option linter.unusedSimpArgs false
set_option maxHeartbeats 8000000
set_option maxRecDepth 100000
mutual
def spec_FromGaps.j0 : Nat → List Int → Bool → Option (List Int × Bool)
 | 0, _, _ => none
 | k + 1, x0, x20 => if x20 = true then (some (([] : List Int), false)) else ((some (([] : List Int) : List Int)).bind fun y401 => (if (x0.length : Int) > 0 then (if 0 ≤ (wrap64 ((x0.length : Int) - 1)) then (if (wrap64 ((x0.length : Int) - 1)) < (x0.length : Int) then (spec_FromGaps.j1 k x0 y401 (rd x0 (wrap64 ((x0.length : Int) - 1)))) else (none)) else (none)) else (spec_FromGaps.j1 k x0 y401 0)))
def spec_FromGaps.j1 : Nat → List Int → List Int → Int → Option (List Int × Bool)
 | 0, _, _, _ => none
 | k + 1, x0, x6, x7 => spec_FromGaps.l0 k x0 x6 x7 1
def spec_FromGaps.l0 : Nat → List Int → List Int → Int → Int → Option (List Int × Bool)
 | 0, _, _, _, _ => none
 | k + 1, x0, x6, x7, x8 => if x8 ≤ (wrap64 ((wrap64 (2 * x7)) + 2)) then ((spec_HasNumber.f k x0 x8).bind fun t407 => (if t407 = true then (spec_FromGaps.l0 k x0 x6 x7 (wrap64 (x8 + 1))) else (if (x6.length : Int) > 0 then ((spec_l3Table.f k x6 x8).bind fun t408 => (if 0 ≤ x8 then (if x8 < (t408.length : Int) then (if rdOf false t408 x8 = true then (spec_FromGaps.l0 k x0 x6 x7 (wrap64 (x8 + 1))) else (if x6.length < 17592186044416 then (spec_FromGaps.l0 k x0 (x6 ++ [x8]) x7 (wrap64 (x8 + 1))) else (none))) else (none)) else (none))) else (if x6.length < 17592186044416 then (spec_FromGaps.l0 k x0 (x6 ++ [x8]) x7 (wrap64 (x8 + 1))) else (none))))) else ((spec_IsSemigroup.f k x6).bind fun t406 => (if t406 = true then (some (x6, true)) else (some (([] : List Int), false))))
end
def spec_FromGaps.f (k : Nat) (l0 : List Int) : Option (List Int × Bool) := (spec_GapClash.f k l0).bind fun bt396 => ((spec_l8Gaps.f k l0).bind fun t400 => (if t400 = true then (spec_FromGaps.j0 k l0 bt396.2.2) else (spec_FromGaps.j0 k l0 true)))
theorem spec_FromGaps.calls (k : Nat) (A0 : Option Addr) (c0 : Nat) (l0 : List Int) (r1 : List Int) (r2 : Bool) (w : World) (hr0 : Kd.C (Kd.int .i64) w A0 l0.length l0) (hc0 : l0.length ≤ c0) (h : spec_FromGaps.f k l0 = some (r1, r2)) :
 Calls Try.prog 31 #[.slice A0 l0.length c0] w fun e w' => ∃ v0_ : Value, e = .returned (.tuple #[.agg #[v0_], .bool r2]) ∧ Kd.R (Kd.int .i64) 3 w' w.heap.size (fun _ => True) v0_ r1 ∧ Below w.heap.size w w' := by
 have hu26 := Try.underlying26
 have hu61 := Try.underlying61
 have HR0 := Aside0.mk hr0
 have HC0 := Aside0.mk hc0
 clear hr0 hc0
 have HB := Aside0.mk (Below.refl w.heap.size w)
 have H := h
 clear h
 unfold spec_FromGaps.f at H
 obtain ⟨⟨t396, t397, t398⟩, A2, H⟩ := ob_ H
 (try dsimp only at H)
 have HC3 := Aside0.mk H
 clear H
 go_enter Try.func31, Try.ntmps31
 go_upto_region 2 with (first | ((with_reducible refine gate_dst (N := 2) rfl ?_); (try (refine gate_guard (by rfl) ?_; dsimp only)); refine bx_ 2 #[.slice none 0 0] 26 ?_; intro gb395 hg w4 hbox hb; have BK395 := Aside0.mk (hbox); have GW395 := gw_ hg HB; have GE395 := gw_ hg HB; replace HB := bo_ HB hb; clear hb hbox hg) | ((with_reducible refine gate_callee (f := 62) rfl ?_); refine gL_ (some 12) Try.func62 #[.slice A0 l0.length c0] ?_; (with_reducible refine (spec_GapClash.calls k _ _ l0 t396 t397 t398 _ ?side1 ?side2 A2.out).mono ?_); (case side1 => exact ch_ HR0 HB); (case side2 => exact HC0.out); rintro e w5 ⟨rfl, hb⟩; refine ⟨_, rfl, ?_⟩; replace BK395 := bk_ BK395 hb; replace HB := bp_ HB hb; (try clear hb)) | ((with_reducible refine gate_dst (N := 4) rfl ?_); (try (refine gate_guard (by rfl) ?_; dsimp only)); refine bx_ 4 #[.int .i64 0, .int .i64 0] 61 ?_; intro gb399 hg w6 hbox hb; have BK399 := Aside0.mk (hbox); have GW399 := gq_ hg (bq_ HB); have GE399 := gq_ hg (bq_ HB); replace HB := bp_ HB hb; have NB395_399 := nl_ hg BK395; have NB399_395 := ng_ hg BK395; replace BK395 := bk_ BK395 hb; clear hb hbox hg; have hnb7 := NB399_395.out; have hnc7 := NB395_399.out; have hcz8_0 : w6.cell? ⟨gb399, 0, none⟩ = some (.int .i64 0) := (blk_cell BK399.out 0).trans rfl; have hcz8_1 : w6.cell? ⟨gb399, 1, none⟩ = some (.int .i64 0) := (blk_cell BK399.out 1).trans rfl; have hfz8_0 := blk_frozen BK399.out 0; have hfz8_1 := blk_frozen BK399.out 1))
 (try simp only [Act.put, z1_, z2_, z3_])
 go_cut [20] (fun v20 wc => ∃ (kq : Nat) (x20_2 : Bool), v20 = .bool x20_2 ∧ Aside0 (spec_FromGaps.j0 kq l0 x20_2 = some (r1, r2)) ∧ Aside0 (kq ≤ k) ∧ Aside0 (wc.heap[gb395]? = some (.cells #[(.slice none 0 0)] 26 (0, 0))) ∧ Aside0 (wc.heap[gb399]? = some (.cells #[.int .i64 t396, .int .i64 t397] 61 (0, 0))) ∧ Aside0 (Below w.heap.size w wc))
 case first =>
  have H := HC3.out
  clear HC3
  obtain ⟨t400, A9, H⟩ := ob_ H
  by_cases c10 : t400 = true
  · subst c10
    rw [if_pos rfl] at H
    have H' := Aside0.mk H
    clear H
    go_wp2_with (first | ((with_reducible refine gate_callee (f := 63) rfl ?_); refine gL_ (some 16) Try.func63 #[.slice A0 l0.length c0] ?_; (with_reducible refine (spec_l8Gaps.calls k _ _ l0 true _ ?side1 ?side2 A9.out).mono ?_); (case side1 => exact Kd.C_below HR0.out (bq_ HB)); (case side2 => exact HC0.out); rintro e w' ⟨rfl, ⟨nd, rfl⟩⟩; refine ⟨_, rfl, ?_⟩))
    go_meet
    case rel => exact ⟨_, (t398), rs_, H', ⟨by first | omega | exact Nat.le_refl _⟩, ⟨ba_ BK395⟩, ⟨by (with_reducible repeat (first | refine blk_drewN ?_ _ | refine blk_drew ?_ | refine blk_alloc ?_ _)); refine blk_put (cs := #[.int .i64 t396, .int .i64 0]) ?_ 1 _ rfl; (with_reducible repeat (first | refine blk_drewN ?_ _ | refine blk_drew ?_ | refine blk_alloc ?_ _)); refine blk_put (cs := #[.int .i64 0, .int .i64 0]) ?_ 0 _ rfl; (with_reducible repeat (first | refine blk_drewN ?_ _ | refine blk_drew ?_ | refine blk_alloc ?_ _)); exact BK399.out⟩, ⟨bq_ HB⟩⟩
  replace c10 := Bool.eq_false_iff.mpr c10
  subst c10
  rw [if_neg (show ¬ (false = true) by decide)] at H
  have H' := Aside0.mk H
  clear H
  go_wp2_with (first | ((with_reducible refine gate_callee (f := 63) rfl ?_); refine gL_ (some 16) Try.func63 #[.slice A0 l0.length c0] ?_; (with_reducible refine (spec_l8Gaps.calls k _ _ l0 false _ ?side1 ?side2 A9.out).mono ?_); (case side1 => exact Kd.C_below HR0.out (bq_ HB)); (case side2 => exact HC0.out); rintro e w' ⟨rfl, ⟨nd, rfl⟩⟩; refine ⟨_, rfl, ?_⟩))
  go_meet
  case rel => exact ⟨_, (true), rs_, H', ⟨by first | omega | exact Nat.le_refl _⟩, ⟨ba_ BK395⟩, ⟨by (with_reducible repeat (first | refine blk_drewN ?_ _ | refine blk_drew ?_ | refine blk_alloc ?_ _)); refine blk_put (cs := #[.int .i64 t396, .int .i64 0]) ?_ 1 _ rfl; (with_reducible repeat (first | refine blk_drewN ?_ _ | refine blk_drew ?_ | refine blk_alloc ?_ _)); refine blk_put (cs := #[.int .i64 0, .int .i64 0]) ?_ 0 _ rfl; (with_reducible repeat (first | refine blk_drewN ?_ _ | refine blk_drew ?_ | refine blk_alloc ?_ _)); exact BK399.out⟩, ⟨bq_ HB⟩⟩
 case rest =>
  clear HC3
  try clear hcz8_0
  try clear hcz8_1
  try clear hfz8_0
  try clear hfz8_1
  obtain ⟨kq, x20_2, rfl, HA, HJ2, BK395, BK399, HB⟩ := hcut
  cases kq with
  | zero => exact absurd HA.out (by simp [spec_FromGaps.j0])
  | succ kj2 =>
   have H := HA.out
   clear HA
   simp only [spec_FromGaps.j0] at H
   by_cases c11 : x20_2 = true
   · subst c11
     rw [if_pos rfl] at H
     simp only [Option.some.injEq, Prod.mk.injEq] at H
     obtain ⟨rfl, rfl⟩ := H
     have hnb12 := NB395_399.out
     have hnc12 := NB399_395.out
     have hcz13_0 := cz_ BK395
     have hfz13_0 := blk_frozen BK395.out 0
     go_wp2
     refine bodyPost_ret (results_ct rfl _ _ gb395 26 #[.slice none 0 0] (0, 0) _ rfl (bz_ BK395) Try.underlying26 rfl (by kernel_rfl)) rfl ?_
     exact ⟨_, rf_, by first | exact Kd.R_nil _ _ _ _ _ | exact Kd.N_nil _ _ _ _ _ | exact Kd.V_nil _ _ _ _ _ | exact Kd.Q_nil _ _ _ _ _ | exact Kd.S_nil _ _ _ _ _, bq_ HB⟩
   replace c11 := Bool.eq_false_iff.mpr c11
   subst c11
   rw [if_neg (show ¬ (false = true) by decide)] at H
   obtain ⟨y401, hy401⟩ : ∃ y_ : List Int, y_ = (([] : List Int)) := ⟨_, rfl⟩
   replace H : (if (l0.length : Int) > 0 then (if 0 ≤ (wrap64 ((l0.length : Int) - 1)) then (if (wrap64 ((l0.length : Int) - 1)) < (l0.length : Int) then (spec_FromGaps.j1 kj2 l0 y401 (rd l0 (wrap64 ((l0.length : Int) - 1)))) else (none)) else (none)) else (spec_FromGaps.j1 kj2 l0 y401 0)) = some (r1, r2) := by subst hy401; exact H
   have Ny401 := Aside0.mk hy401
   clear hy401
   have HC14 := Aside0.mk H
   clear H
   go_upto_if 25 with (first | ((with_reducible refine gate_dst (N := 22) rfl ?_); (try (refine gate_guard (by rfl) ?_; dsimp only)); refine Kd.R_lit (Kd.int .i64) _ 3 ?hg (N := 22) ?hd (xs := ([] : List Int)) (inner := []) (ok := fun _ => True) (okp := fun _ => True) ?hr ?hp (fun _ hk => hk) trivial (Below.refl _ _) (Nat.le_refl _) (by simp) ?_; (case hd => rfl); (case hg => rfl); (case hr => first | (go_simp; done) | (go_simp; rfl)); (case hp => exact (Reps.none _ _)); intro v402 w15 ho16 hb hg_ hnew_; clear hg_ hnew_; (first | rw [← Ny401.out] at ho16 | (simp only [Int.reduceToNat] at ho16; rw [← Ny401.out] at ho16)); have HO403 := Aside0.mk (Kd.R_lower ho16 (below_size (bq_ HB))); replace BK395 := bk_ BK395 hb; replace BK399 := bk_ BK399 hb; replace HB := bp_ HB hb; clear hb ho16))
   (try simp only [Act.put, z1_, z2_, z3_])
   go_cut [7] (fun v7 wc => ∃ (kq : Nat) (x7_13 : Int), v7 = .int .i64 x7_13 ∧ Aside0 (spec_FromGaps.j1 kq l0 y401 x7_13 = some (r1, r2)) ∧ Aside0 (kq ≤ kj2) ∧ Aside0 (Kd.R (Kd.int .i64) 3 wc w.heap.size (fun _ => True) v402 y401) ∧ Aside0 (wc.heap[gb395]? = some (.cells #[(.slice none 0 0)] 26 (0, 0))) ∧ Aside0 (wc.heap[gb399]? = some (.cells #[.int .i64 t396, .int .i64 t397] 61 (0, 0))) ∧ Aside0 (Below w.heap.size w wc))
   case first =>
    have H := HC14.out
    clear HC14
    by_cases c17 : (l0.length : Int) > 0
    rotate_left
    · rw [if_neg c17] at H
      have c17b0 : decide (0 < (l0.length : Int)) = false := decide_eq_false c17
      have c17b1 : decide (0 < l0.length) = false := decide_eq_false (by omega)
      clear c17
      (first | rw [c17b0] | (simp only [i64_w, i32_w]; rw [c17b0]) | rw [c17b1] | skip)
      have H' := Aside0.mk H
      clear H
      go_wp2
      go_meet
      case rel => exact ⟨_, (0), rs_, H', ⟨by have := HJ2.out; first | omega | exact Nat.le_refl _⟩, ⟨re_ HO403.out⟩, ⟨be_ BK395.out⟩, ⟨be_ BK399.out⟩, ⟨bq_ HB⟩⟩
    rw [if_pos c17] at H
    have c17b0 : decide (0 < (l0.length : Int)) = true := decide_eq_true c17
    have c17b1 : decide (0 < l0.length) = true := decide_eq_true (by omega)
    clear c17
    (first | rw [c17b0] | (simp only [i64_w, i32_w]; rw [c17b0]) | rw [c17b1] | skip)
    obtain ⟨ji18, hji18⟩ : ∃ j_ : Int, (wrap64 ((l0.length : Int) - 1)) = j_ := ⟨_, rfl⟩
    replace H : (if 0 ≤ (ji18) then (if (ji18) < (l0.length : Int) then (spec_FromGaps.j1 kj2 l0 y401 (rd l0 (ji18))) else (none)) else (none)) = some (r1, r2) := by first | (rw [hji18] at H; exact H) | (simp only [hji18] at H ⊢; exact H)
    have hji18w : (IntKind.i64.wrap ((l0.length : Int) - 1)) = ji18 := (i64_w _).trans hji18
    obtain ⟨c19b0, H⟩ := ipd_ H
    obtain ⟨c20b0, H⟩ := ipd_ H
    have H' := Aside0.mk H
    clear H
    have p404 : 0 ≤ ((ji18) : Int) := od_
    have q404 : (ji18) < (l0.length : Int) := od_
    obtain ⟨ad404, e404, hx404_0⟩ := Kd.at_int HR0.out (ji18) p404 q404
    cases e404
    (try replace hx404_0 := (HB.out.cell (World.block_lt_of_cell? w _ hx404_0)).trans hx404_0)
    replace p404 := eq_true p404
    replace q404 := eq_true q404
    go_wp2
    go_meet
    case rel => exact ⟨_, (rd l0 (ji18)), (by first | rfl | (simp; done) | (simp only [← hji18] <;> (first | rfl | simp)) | (simp [*]; done)), H', ⟨by have := HJ2.out; first | omega | exact Nat.le_refl _⟩, ⟨re_ HO403.out⟩, ⟨be_ BK395.out⟩, ⟨be_ BK399.out⟩, ⟨bq_ HB⟩⟩
   case rest =>
    clear HC14
    obtain ⟨kq, x7_13, rfl, HA, HJ13, HO_6, BK395, BK399, HB⟩ := hcut
    cases kq with
    | zero => exact absurd HA.out (by simp [spec_FromGaps.j1])
    | succ kj13 =>
     have H := HA.out
     clear HA
     simp only [spec_FromGaps.j1] at H
     have H' := Aside0.mk H
     clear H
     go_wp2
     go_loopg [6, 8] kj13 (fun kq v6 v8 w' => ∃ (x6_3 : List Int) (x8_3 : Int), v8 = .int .i64 x8_3 ∧ Aside0 (spec_FromGaps.l0 kq l0 x6_3 x7_13 x8_3 = some (r1, r2)) ∧ Aside0 (kq ≤ kj13) ∧ Aside0 (Kd.R (Kd.int .i64) 3 w' w.heap.size (fun _ => True) v6 x6_3) ∧ Aside0 (w'.heap[gb395]? = some (.cells #[(.slice none 0 0)] 26 (0, 0))) ∧ Aside0 (w'.heap[gb399]? = some (.cells #[.int .i64 t396, .int .i64 t397] 61 (0, 0))) ∧ Aside0 (Below w.heap.size w w'))
     case atStart => exact ⟨(y401), (1), rs_, H', ⟨Nat.le_refl _⟩, ⟨re_ HO_6.out⟩, ⟨be_ BK395.out⟩, ⟨be_ BK399.out⟩, ⟨bq_ HB⟩⟩
     case round =>
      clear H'
      obtain ⟨x6_3, x8_3, rfl, HA, HK3, HO_6, BK395, BK399, HB⟩ := hrel
      cases gk with
      | zero => exact absurd HA.out (by simp [spec_FromGaps.l0])
      | succ k3 =>
       have H := HA.out
       clear HA
       simp only [spec_FromGaps.l0] at H
       by_cases c21 : x8_3 ≤ (wrap64 ((wrap64 (2 * x7_13)) + 2))
       rotate_left
       · rw [if_neg c21] at H
         have c21b0 : decide (x8_3 ≤ (wrap64 ((wrap64 (2 * x7_13)) + 2))) = false := decide_eq_false c21
         clear c21
         obtain ⟨t406, A41, H⟩ := ob_ H
         by_cases c42 : t406 = true
         · subst c42
           rw [if_pos rfl] at H
           simp only [Option.some.injEq, Prod.mk.injEq] at H
           obtain ⟨rfl, rfl⟩ := H
           obtain ⟨Ao43, co43, eo43⟩ := Kd.R_slice HO_6.out
           subst eo43
           go_wp2_with (first | ((with_reducible refine gate_dst (N := 9) rfl ?_); (try (refine gate_guard (by rfl) ?_; dsimp only)); refine bx_ 9 #[.slice none 0 0] 26 ?_; intro gb405 hg w44 hbox hb; replace HO_6 := Aside0.mk (Kd.R_below (re_ HO_6.out) hb); have BK405 := Aside0.mk (hbox); have GW405 := gq_ hg (bq_ HB); have GE405 := gq_ hg (bq_ HB); replace HB := bp_ HB hb; have NB395_405 := nl_ hg BK395; have NB405_395 := ng_ hg BK395; replace BK395 := bk_ BK395 hb; have NB399_405 := nl_ hg BK399; have NB405_399 := ng_ hg BK399; replace BK399 := bk_ BK399 hb; clear hb hbox hg; have hnb45 := NB405_395.out; have hnc45 := NB395_405.out; have hnb46 := NB405_399.out; have hnc46 := NB399_405.out; have hcz47_0 := cz_ BK405; have hfz47_0 := blk_frozen BK405.out 0) | ((with_reducible refine gate_callee (f := 27) rfl ?_); refine gL_ (some 62) Try.func27 #[.agg #[.slice Ao43 x6_3.length co43]] ?_; (with_reducible refine (spec_IsSemigroup.calls k3 _ _ x6_3 true _ ?side1 ?side2 A41.out).mono ?_); (case side1 => refine (Kd.R_reads' (e := 3) (base := w.heap.size) (ok := fun k_ => True) (n := x6_3.length) (c := co43) ?_).2.2; exact (rf1_ HO_6 BK405)); (case side2 => exact (Kd.R_reads' HO_6.out).2.1); rintro e w48 ⟨rfl, hb⟩; refine ⟨_, rfl, ?_⟩; replace HO_6 := Aside0.mk (Kd.R_below (rf1_ HO_6 BK405) hb); replace BK395 := Aside0.mk (blk_below (g := gb395) (o := .cells #[.slice none 0 0] 26 (0, 0)) (ba_ BK395) hb); replace BK399 := Aside0.mk (blk_below (g := gb399) (o := .cells #[.int .i64 t396, .int .i64 t397] 61 (0, 0)) (ba_ BK399) hb); replace BK405 := Aside0.mk (blk_below (g := gb405) (o := .cells #[.slice Ao43 x6_3.length co43] 26 (0, 0)) (bz_ BK405) hb); replace HB := bp_ HB hb; (try clear hb); have hcz49_0 := cz_ BK405; have hfz49_0 := blk_frozen BK405.out 0; have hnb50 := NB395_399.out; have hnc50 := NB399_395.out; have hcz51_0 := cz_ BK395; have hfz51_0 := blk_frozen BK395.out 0))
           refine bodyPost_ret (results_ct rfl _ _ gb395 26 #[.slice Ao43 x6_3.length co43] (0, 0) _ rfl (bz_ BK395) Try.underlying26 rfl (by kernel_rfl)) rfl ?_
           exact ⟨_, rf_, by (with_reducible repeat (first | apply Kd.R_alloc | apply Kd.R_drewN | apply Kd.R_drew)); exact Kd.R_mono (Kd.R_far (p := ⟨gb395, 0, none⟩) (Kd.R_types HO_6.out BK395.out (by decide)) (fun _ hk => hk.2) (.slice Ao43 x6_3.length co43)) (fun _ hk => trivial), bq_ HB⟩
         replace c42 := Bool.eq_false_iff.mpr c42
         subst c42
         rw [if_neg (show ¬ (false = true) by decide)] at H
         simp only [Option.some.injEq, Prod.mk.injEq] at H
         obtain ⟨rfl, rfl⟩ := H
         obtain ⟨Ao52, co52, eo52⟩ := Kd.R_slice HO_6.out
         subst eo52
         go_wp2_with (first | ((with_reducible refine gate_dst (N := 9) rfl ?_); (try (refine gate_guard (by rfl) ?_; dsimp only)); refine bx_ 9 #[.slice none 0 0] 26 ?_; intro gb405 hg w53 hbox hb; replace HO_6 := Aside0.mk (Kd.R_below (re_ HO_6.out) hb); have BK405 := Aside0.mk (hbox); have GW405 := gq_ hg (bq_ HB); have GE405 := gq_ hg (bq_ HB); replace HB := bp_ HB hb; have NB395_405 := nl_ hg BK395; have NB405_395 := ng_ hg BK395; replace BK395 := bk_ BK395 hb; have NB399_405 := nl_ hg BK399; have NB405_399 := ng_ hg BK399; replace BK399 := bk_ BK399 hb; clear hb hbox hg; have hnb54 := NB405_395.out; have hnc54 := NB395_405.out; have hnb55 := NB405_399.out; have hnc55 := NB399_405.out; have hcz56_0 := cz_ BK405; have hfz56_0 := blk_frozen BK405.out 0) | ((with_reducible refine gate_callee (f := 27) rfl ?_); refine gL_ (some 62) Try.func27 #[.agg #[.slice Ao52 x6_3.length co52]] ?_; (with_reducible refine (spec_IsSemigroup.calls k3 _ _ x6_3 false _ ?side1 ?side2 A41.out).mono ?_); (case side1 => refine (Kd.R_reads' (e := 3) (base := w.heap.size) (ok := fun k_ => True) (n := x6_3.length) (c := co52) ?_).2.2; exact (rf1_ HO_6 BK405)); (case side2 => exact (Kd.R_reads' HO_6.out).2.1); rintro e w57 ⟨rfl, hb⟩; refine ⟨_, rfl, ?_⟩; replace HO_6 := Aside0.mk (Kd.R_below (rf1_ HO_6 BK405) hb); replace BK395 := Aside0.mk (blk_below (g := gb395) (o := .cells #[.slice none 0 0] 26 (0, 0)) (ba_ BK395) hb); replace BK399 := Aside0.mk (blk_below (g := gb399) (o := .cells #[.int .i64 t396, .int .i64 t397] 61 (0, 0)) (ba_ BK399) hb); replace BK405 := Aside0.mk (blk_below (g := gb405) (o := .cells #[.slice Ao52 x6_3.length co52] 26 (0, 0)) (bz_ BK405) hb); replace HB := bp_ HB hb; (try clear hb); have hnb58 := NB395_399.out; have hnc58 := NB399_395.out; have hcz59_0 := cz_ BK395; have hfz59_0 := blk_frozen BK395.out 0))
         refine bodyPost_ret (results_ct rfl _ _ gb395 26 #[.slice none 0 0] (0, 0) _ rfl (bz_ BK395) Try.underlying26 rfl (by kernel_rfl)) rfl ?_
         exact ⟨_, rf_, by first | exact Kd.R_nil _ _ _ _ _ | exact Kd.N_nil _ _ _ _ _ | exact Kd.V_nil _ _ _ _ _ | exact Kd.Q_nil _ _ _ _ _ | exact Kd.S_nil _ _ _ _ _, bq_ HB⟩
       rw [if_pos c21] at H
       have c21b0 : decide (x8_3 ≤ (wrap64 ((wrap64 (2 * x7_13)) + 2))) = true := decide_eq_true c21
       clear c21
       obtain ⟨t407, A22, H⟩ := ob_ H
       by_cases c23 : t407 = true
       · subst c23
         rw [if_pos rfl] at H
         have H' := Aside0.mk H
         clear H
         go_wp2_with (first | ((with_reducible refine gate_callee (f := 30) rfl ?_); refine gL_ (some 41) Try.func30 #[.slice A0 l0.length c0, .int .i64 x8_3] ?_; (with_reducible refine (spec_HasNumber.calls k3 _ _ l0 x8_3 true _ ?side1 ?side2 A22.out).mono ?_); (case side1 => exact ch_ HR0 HB); (case side2 => exact HC0.out); rintro e w' ⟨rfl, ⟨nd, rfl⟩⟩; refine ⟨_, rfl, ?_⟩))
         go_roundg k3
         case measure => have := HJ2.out; have := HJ13.out; have := HK3.out; omega
         case rel => exact ⟨(x6_3), (wrap64 (x8_3 + 1)), rs_, H', ⟨by have := HJ2.out; have := HJ13.out; have := HK3.out; omega⟩, ⟨re_ HO_6.out⟩, ⟨be_ BK395.out⟩, ⟨be_ BK399.out⟩, ⟨bq_ HB⟩⟩
       replace c23 := Bool.eq_false_iff.mpr c23
       subst c23
       rw [if_neg (show ¬ (false = true) by decide)] at H
       by_cases c24 : (x6_3.length : Int) > 0
       rotate_left
       · rw [if_neg c24] at H
         have c24b0 : decide (0 < (x6_3.length : Int)) = false := decide_eq_false c24
         have c24b1 : decide (0 < x6_3.length) = false := decide_eq_false (by omega)
         clear c24
         obtain ⟨c38, H⟩ := ip_ H
         have LMc38 := Aside0.mk c38
         clear c38
         obtain ⟨y415, hy415⟩ : ∃ y_ : List Int, y_ = (x6_3 ++ [x8_3]) := ⟨_, rfl⟩
         replace H : (spec_FromGaps.l0 k3 l0 y415 x7_13 (wrap64 (x8_3 + 1))) = some (r1, r2) := by subst hy415; exact H
         have Ny415 := Aside0.mk hy415
         clear hy415
         have H' := Aside0.mk H
         clear H
         go_wp2_with (first | ((with_reducible refine gate_callee (f := 30) rfl ?_); refine gL_ (some 41) Try.func30 #[.slice A0 l0.length c0, .int .i64 x8_3] ?_; (with_reducible refine (spec_HasNumber.calls k3 _ _ l0 x8_3 false _ ?side1 ?side2 A22.out).mono ?_); (case side1 => exact ch_ HR0 HB); (case side2 => exact HC0.out); rintro e w' ⟨rfl, ⟨nd, rfl⟩⟩; refine ⟨_, rfl, ?_⟩; obtain ⟨Ao39, co39, eo39⟩ := Kd.R_slice HO_6.out; subst eo39) | ((with_reducible refine gate_builtin (b := .append) (xs := #[.tmp 55, .tmp 57]) rfl ?_); (try (refine gate_guard (by rfl) ?_; dsimp only)); at_builtin; refine Kd.R_append (Kd.int .i64) (w0 := w) w.heap.size rfl (.tmp 55) (.tmp 57) 24 3 (.int .i64 0) 8 rfl Try.underlying24 info3 rfl (by decide) (by omega) (.slice Ao39 x6_3.length co39) x6_3 x8_3 [.int .i64 x8_3] (fun _ => True) (fun _ => False) rfl rfl ?aP (fun _ hk => hk.elim) ?aF ?aO ?aB ?aS ?aL ?_; (case aP => exact rfl); (case aB => exact (bq_ HB)); (case aF => exact (fun _ _ => trivial)); (case aO => exact (re_ HO_6.out)); (case aS => exact (below_size (bq_ HB))); (case aL => have := LMc38.out; omega); intro v416 w40 ho hb hg hat; rw [← Ny415.out] at ho; replace BK395 := Aside0.mk (blk_grown (be_ BK395.out) hg (Kd.R_ne HO_6.out BK395.out (by decide))); replace BK399 := Aside0.mk (blk_grown (be_ BK399.out) hg (Kd.R_ne HO_6.out BK399.out (by decide))); replace HB := Aside0.mk (hb); have HO417 := Aside0.mk (ho); clear HO_6; clear ho hb hg hat))
         go_roundg k3
         case measure => have := HJ2.out; have := HJ13.out; have := HK3.out; omega
         case rel => exact ⟨(y415), (wrap64 (x8_3 + 1)), rs_, H', ⟨by have := HJ2.out; have := HJ13.out; have := HK3.out; omega⟩, ⟨re_ HO417.out⟩, ⟨be_ BK395.out⟩, ⟨be_ BK399.out⟩, ⟨bq_ HB⟩⟩
       rw [if_pos c24] at H
       have c24b0 : decide (0 < (x6_3.length : Int)) = true := decide_eq_true c24
       have c24b1 : decide (0 < x6_3.length) = true := decide_eq_true (by omega)
       clear c24
       obtain ⟨t408, A25, H⟩ := ob_ H
       obtain ⟨c26b0, H⟩ := ipd_ H
       obtain ⟨c27b0, H⟩ := ipd_ H
       obtain ⟨bq28, hbq28⟩ : ∃ b_ : Bool, b_ = (rdOf false t408 x8_3) := ⟨_, rfl⟩
       replace H : (if bq28 = true then (spec_FromGaps.l0 k3 l0 x6_3 x7_13 (wrap64 (x8_3 + 1))) else (if x6_3.length < 17592186044416 then (spec_FromGaps.l0 k3 l0 (x6_3 ++ [x8_3]) x7_13 (wrap64 (x8_3 + 1))) else (none))) = some (r1, r2) := by rw [← hbq28] at H; exact H
       have Nbq28 := Aside0.mk hbq28
       clear hbq28
       by_cases c29 : bq28 = true
       · subst c29
         rw [if_pos rfl] at H
         have H' := Aside0.mk H
         clear H
         go_wp2_with (first | ((with_reducible refine gate_callee (f := 30) rfl ?_); refine gL_ (some 41) Try.func30 #[.slice A0 l0.length c0, .int .i64 x8_3] ?_; (with_reducible refine (spec_HasNumber.calls k3 _ _ l0 x8_3 false _ ?side1 ?side2 A22.out).mono ?_); (case side1 => exact ch_ HR0 HB); (case side2 => exact HC0.out); rintro e w' ⟨rfl, ⟨nd, rfl⟩⟩; refine ⟨_, rfl, ?_⟩; obtain ⟨Ao30, co30, eo30⟩ := Kd.R_slice HO_6.out; subst eo30) | (go_at_call 60; (with_reducible refine (spec_l3Table.calls k3 _ _ x6_3 x8_3 t408 _ ?side1 ?side2 A25.out).mono ?_); (case side1 => exact ce_ ((Kd.R_reads' HO_6.out).2.2)); (case side2 => exact (Kd.R_reads' HO_6.out).2.1); rintro e w31 ⟨v409, rfl, ho0, hb⟩; replace HO_6 := Aside0.mk (Kd.R_below (re_ HO_6.out) hb); have HO410 := Aside0.mk (Kd.R_lower ho0 (below_size (bq_ HB))); replace BK395 := bk_ BK395 hb; replace BK399 := bk_ BK399 hb; replace HB := bp_ HB hb; (try clear hb); (try clear ho0); obtain ⟨Ao32, co32, eo32⟩ := Kd.R_slice HO410.out; subst eo32; have p411 : 0 ≤ (x8_3 : Int) := od_; have q411 : x8_3 < (t408.length : Int) := od_; obtain ⟨ad411, e411, hx411_0⟩ := Kd.at_bool (Kd.R_reads' HO410.out).2.2 x8_3 p411 q411; (try rw [← Nbq28.out] at hx411_0); cases e411; replace p411 := eq_true p411; replace q411 := eq_true q411))
         go_roundg k3
         case measure => have := HJ2.out; have := HJ13.out; have := HK3.out; omega
         case rel => exact ⟨(x6_3), (wrap64 (x8_3 + 1)), rs_, H', ⟨by have := HJ2.out; have := HJ13.out; have := HK3.out; omega⟩, ⟨re_ HO_6.out⟩, ⟨be_ BK395.out⟩, ⟨be_ BK399.out⟩, ⟨bq_ HB⟩⟩
       replace c29 := Bool.eq_false_iff.mpr c29
       subst c29
       rw [if_neg (show ¬ (false = true) by decide)] at H
       obtain ⟨c33, H⟩ := ip_ H
       have LMc33 := Aside0.mk c33
       clear c33
       obtain ⟨y412, hy412⟩ : ∃ y_ : List Int, y_ = (x6_3 ++ [x8_3]) := ⟨_, rfl⟩
       replace H : (spec_FromGaps.l0 k3 l0 y412 x7_13 (wrap64 (x8_3 + 1))) = some (r1, r2) := by subst hy412; exact H
       have Ny412 := Aside0.mk hy412
       clear hy412
       have H' := Aside0.mk H
       clear H
       go_wp2_with (first | ((with_reducible refine gate_callee (f := 30) rfl ?_); refine gL_ (some 41) Try.func30 #[.slice A0 l0.length c0, .int .i64 x8_3] ?_; (with_reducible refine (spec_HasNumber.calls k3 _ _ l0 x8_3 false _ ?side1 ?side2 A22.out).mono ?_); (case side1 => exact ch_ HR0 HB); (case side2 => exact HC0.out); rintro e w' ⟨rfl, ⟨nd, rfl⟩⟩; refine ⟨_, rfl, ?_⟩; obtain ⟨Ao34, co34, eo34⟩ := Kd.R_slice HO_6.out; subst eo34) | (go_at_call 60; (with_reducible refine (spec_l3Table.calls k3 _ _ x6_3 x8_3 t408 _ ?side1 ?side2 A25.out).mono ?_); (case side1 => exact ce_ ((Kd.R_reads' HO_6.out).2.2)); (case side2 => exact (Kd.R_reads' HO_6.out).2.1); rintro e w35 ⟨v409, rfl, ho0, hb⟩; replace HO_6 := Aside0.mk (Kd.R_below (re_ HO_6.out) hb); have HO410 := Aside0.mk (Kd.R_lower ho0 (below_size (bq_ HB))); replace BK395 := bk_ BK395 hb; replace BK399 := bk_ BK399 hb; replace HB := bp_ HB hb; (try clear hb); (try clear ho0); obtain ⟨Ao36, co36, eo36⟩ := Kd.R_slice HO410.out; subst eo36; have p411 : 0 ≤ (x8_3 : Int) := od_; have q411 : x8_3 < (t408.length : Int) := od_; obtain ⟨ad411, e411, hx411_0⟩ := Kd.at_bool (Kd.R_reads' HO410.out).2.2 x8_3 p411 q411; (try rw [← Nbq28.out] at hx411_0); cases e411; replace p411 := eq_true p411; replace q411 := eq_true q411) | ((with_reducible refine gate_builtin (b := .append) (xs := #[.tmp 55, .tmp 57]) rfl ?_); (try (refine gate_guard (by rfl) ?_; dsimp only)); at_builtin; refine Kd.R_append (Kd.int .i64) (w0 := w) w.heap.size rfl (.tmp 55) (.tmp 57) 24 3 (.int .i64 0) 8 rfl Try.underlying24 info3 rfl (by decide) (by omega) (.slice Ao34 x6_3.length co34) x6_3 x8_3 [.int .i64 x8_3] (fun _ => True) (fun _ => False) rfl rfl ?aP (fun _ hk => hk.elim) ?aF ?aO ?aB ?aS ?aL ?_; (case aP => exact rfl); (case aB => exact (bq_ HB)); (case aF => exact (fun _ _ => trivial)); (case aO => exact (re_ HO_6.out)); (case aS => exact (below_size (bq_ HB))); (case aL => have := LMc33.out; omega); intro v413 w37 ho hb hg hat; rw [← Ny412.out] at ho; replace BK395 := Aside0.mk (blk_grown (be_ BK395.out) hg (Kd.R_ne HO_6.out BK395.out (by decide))); replace BK399 := Aside0.mk (blk_grown (be_ BK399.out) hg (Kd.R_ne HO_6.out BK399.out (by decide))); replace HO410 := Aside0.mk (Kd.R_over' (re_ HO410.out) (Kd.R_typed (re_ HO_6.out)) (by decide) hg); replace HB := Aside0.mk (hb); have HO414 := Aside0.mk (ho); clear HO_6; clear ho hb hg hat))
       go_roundg k3
       case measure => have := HJ2.out; have := HJ13.out; have := HK3.out; omega
       case rel => exact ⟨(y412), (wrap64 (x8_3 + 1)), rs_, H', ⟨by have := HJ2.out; have := HJ13.out; have := HK3.out; omega⟩, ⟨re_ HO414.out⟩, ⟨be_ BK395.out⟩, ⟨be_ BK399.out⟩, ⟨bq_ HB⟩⟩
mutual
def spec_ArfClosure.l0 : Nat → List Int → Int → List Bool → Int → Option (List Int × Bool)
 | 0, _, _, _, _ => none
 | k + 1, x4, x5, x6, x7 => if x7 < x5 then ((spec_HasNumber.f k x4 x7).bind fun t428 => (if 0 ≤ x7 then (if x7 < (x6.length : Int) then (spec_ArfClosure.l0 k x4 x5 (x6.set (x7 : Int).toNat (!t428)) (wrap64 (x7 + 1))) else (none)) else (none))) else (spec_ArfClosure.l1 k x5 x6 true)
def spec_ArfClosure.l1 : Nat → Int → List Bool → Bool → Option (List Int × Bool)
 | 0, _, _, _ => none
 | k + 1, x5, x6, x8 => if x8 = true then (spec_ArfClosure.l2 k x5 x6 false 0) else (spec_ArfClosure.l5 k x5 x6 (([] : List Int)) 1)
def spec_ArfClosure.l2 : Nat → Int → List Bool → Bool → Int → Option (List Int × Bool)
 | 0, _, _, _, _ => none
 | k + 1, x5, x6, x8, x9 => if x9 < x5 then (spec_ArfClosure.l3 k x5 x6 x8 x9 0) else (spec_ArfClosure.l1 k x5 x6 x8)
def spec_ArfClosure.l3 : Nat → Int → List Bool → Bool → Int → Int → Option (List Int × Bool)
 | 0, _, _, _, _, _ => none
 | k + 1, x5, x6, x8, x9, x10 => if x10 ≤ x9 then (if 0 ≤ x9 then (if x9 < (x6.length : Int) then (spec_ArfClosure.j4 k x5 x6 x8 x9 x10 (rdOf false x6 x9)) else (none)) else (none)) else (spec_ArfClosure.j4 k x5 x6 x8 x9 x10 false)
def spec_ArfClosure.j4 : Nat → Int → List Bool → Bool → Int → Int → Bool → Option (List Int × Bool)
 | 0, _, _, _, _, _, _ => none
 | k + 1, x5, x6, x8, x9, x10, x54 => if x54 = true then (spec_ArfClosure.l4 k x5 x6 x8 x9 x10 0) else (spec_ArfClosure.l2 k x5 x6 x8 (wrap64 (x9 + 1)))
def spec_ArfClosure.l4 : Nat → Int → List Bool → Bool → Int → Int → Int → Option (List Int × Bool)
 | 0, _, _, _, _, _, _ => none
 | k + 1, x5, x6, x8, x9, x10, x11 => if x11 ≤ x10 then (if 0 ≤ x10 then (if x10 < (x6.length : Int) then (spec_ArfClosure.j6 k x5 x6 x8 x9 x10 x11 (rdOf false x6 x10)) else (none)) else (none)) else (spec_ArfClosure.j6 k x5 x6 x8 x9 x10 x11 false)
def spec_ArfClosure.j6 : Nat → Int → List Bool → Bool → Int → Int → Int → Bool → Option (List Int × Bool)
 | 0, _, _, _, _, _, _, _ => none
 | k + 1, x5, x6, x8, x9, x10, x11, x65 => if x65 = true then (if 0 ≤ x11 then (if x11 < (x6.length : Int) then (if rdOf false x6 x11 = true then (if (wrap64 ((wrap64 (x9 + x10)) - x11)) < x5 then (if 0 ≤ (wrap64 ((wrap64 (x9 + x10)) - x11)) then (if (wrap64 ((wrap64 (x9 + x10)) - x11)) < (x6.length : Int) then (if (rdOf false x6 (wrap64 ((wrap64 (x9 + x10)) - x11)) = true) then (spec_ArfClosure.l4 k x5 x6 x8 x9 x10 (wrap64 (x11 + 1))) else (spec_ArfClosure.l4 k x5 (x6.set ((wrap64 ((wrap64 (x9 + x10)) - x11)) : Int).toNat true) true x9 x10 (wrap64 (x11 + 1)))) else (none)) else (none)) else (spec_ArfClosure.l4 k x5 x6 x8 x9 x10 (wrap64 (x11 + 1)))) else (spec_ArfClosure.l4 k x5 x6 x8 x9 x10 (wrap64 (x11 + 1)))) else (none)) else (none)) else (spec_ArfClosure.l3 k x5 x6 x8 x9 (wrap64 (x10 + 1)))
def spec_ArfClosure.l5 : Nat → Int → List Bool → List Int → Int → Option (List Int × Bool)
 | 0, _, _, _, _ => none
 | k + 1, x5, x6, x13, x14 => if x14 < x5 then (if 0 ≤ x14 then (if x14 < (x6.length : Int) then (if rdOf false x6 x14 = true then (spec_ArfClosure.l5 k x5 x6 x13 (wrap64 (x14 + 1))) else (if x13.length < 17592186044416 then (spec_ArfClosure.l5 k x5 x6 (x13 ++ [x14]) (wrap64 (x14 + 1))) else (none))) else (none)) else (none)) else ((spec_FromGaps.f k x13).bind fun bt442 => (some (bt442.1, bt442.2)))
end
def spec_ArfClosure.f (k : Nat) (l0_0 : List Int) : Option (List Int × Bool) := (spec_IsSemigroup.f k l0_0).bind fun t420 => (if t420 = true then ((spec_l4Gaps.f k l0_0).bind fun t421 => ((spec_ConductorOf.f k l0_0).bind fun t424 => (if 0 ≤ (wrap64 (t424 + 1)) then (if (wrap64 (t424 + 1) : Int).toNat ≤ 281474976710656 then (spec_ArfClosure.l0 k t421 t424 (List.replicate (wrap64 (t424 + 1) : Int).toNat false) 0) else (none)) else (none)))) else (some (([] : List Int), false)))
theorem spec_ArfClosure.calls (k : Nat) (A0_0 : Option Addr) (c0_0 : Nat) (l0_0 : List Int) (r1 : List Int) (r2 : Bool) (w : World) (hr0_0 : Kd.C (Kd.int .i64) w A0_0 l0_0.length l0_0) (hc0_0 : l0_0.length ≤ c0_0) (h : spec_ArfClosure.f k l0_0 = some (r1, r2)) :
 Calls Try.prog 7 #[.agg #[.slice A0_0 l0_0.length c0_0]] w fun e w' => ∃ v0_ : Value, e = .returned (.tuple #[.agg #[v0_], .bool r2]) ∧ Kd.R (Kd.int .i64) 3 w' w.heap.size (fun _ => True) v0_ r1 ∧ Below w.heap.size w w' := by
 have hu26 := Try.underlying26
 have HR0_0 := Aside0.mk hr0_0
 have HC0_0 := Aside0.mk hc0_0
 clear hr0_0 hc0_0
 have HB := Aside0.mk (Below.refl w.heap.size w)
 have H := h
 clear h
 unfold spec_ArfClosure.f at H
 obtain ⟨t420, A2, H⟩ := ob_ H
 by_cases c3 : t420 = true
 rotate_left
 · replace c3 := Bool.eq_false_iff.mpr c3
   subst c3
   rw [if_neg (show ¬ (false = true) by decide)] at H
   simp only [Option.some.injEq, Prod.mk.injEq] at H
   obtain ⟨rfl, rfl⟩ := H
   go_enter Try.func7, Try.ntmps7
   go_wp2_with (first | ((with_reducible refine gate_dst (N := 1) rfl ?_); refine bx_ 1 #[.slice A0_0 l0_0.length c0_0] 26 ?_; intro gb418 hg w80 hbox hb; have BK418 := Aside0.mk (hbox); have GW418 := gw_ hg HB; have GE418 := gw_ hg HB; replace HB := bo_ HB hb; clear hb hbox hg) | ((with_reducible refine gate_dst (N := 2) rfl ?_); refine bx_ 2 #[.slice none 0 0] 26 ?_; intro gb419 hg w81 hbox hb; have BK419 := Aside0.mk (hbox); have GW419 := gq_ hg (bq_ HB); have GE419 := gq_ hg (bq_ HB); replace HB := bp_ HB hb; have NB418_419 := nl_ hg BK418; have NB419_418 := ng_ hg BK418; replace BK418 := bk_ BK418 hb; clear hb hbox hg; have hnb82 := NB418_419.out; have hnc82 := NB419_418.out; have hcz83_0 := cz_ BK418; have hfz83_0 := blk_frozen BK418.out 0) | ((with_reducible refine gate_callee (f := 27) rfl ?_); refine gL_ (some 18) Try.func27 #[.agg #[.slice A0_0 l0_0.length c0_0]] ?_; (with_reducible refine (spec_IsSemigroup.calls k _ _ l0_0 false _ ?side1 ?side2 A2.out).mono ?_); (case side1 => exact ch_ HR0_0 HB); (case side2 => exact HC0_0.out); rintro e w84 ⟨rfl, hb⟩; refine ⟨_, rfl, ?_⟩; replace BK418 := bk_ BK418 hb; replace BK419 := bk_ BK419 hb; replace HB := bp_ HB hb; (try clear hb); have hcz85_0 := cz_ BK419; have hfz85_0 := blk_frozen BK419.out 0))
   refine bodyPost_ret (results_ct rfl _ _ gb419 26 #[.slice none 0 0] (0, 0) _ rfl (bz_ BK419) Try.underlying26 rfl (by kernel_rfl)) rfl ?_
   exact ⟨_, rf_, by first | exact Kd.R_nil _ _ _ _ _ | exact Kd.N_nil _ _ _ _ _ | exact Kd.V_nil _ _ _ _ _ | exact Kd.Q_nil _ _ _ _ _ | exact Kd.S_nil _ _ _ _ _, bq_ HB⟩
 subst c3
 rw [if_pos rfl] at H
 obtain ⟨t421, A4, H⟩ := ob_ H
 obtain ⟨t424, A5, H⟩ := ob_ H
 obtain ⟨ji6, hji6⟩ : ∃ j_ : Int, (wrap64 (t424 + 1)) = j_ := ⟨_, rfl⟩
 replace H : (if 0 ≤ (ji6) then (if (ji6 : Int).toNat ≤ 281474976710656 then (spec_ArfClosure.l0 k t421 t424 (List.replicate (ji6 : Int).toNat false) 0) else (none)) else (none)) = some (r1, r2) := by first | (rw [hji6] at H; exact H) | (simp only [hji6] at H ⊢; exact H)
 (try rw [hji6] at A2)
 (try rw [hji6] at A4)
 (try rw [hji6] at A5)
 have hji6w : (IntKind.i64.wrap (t424 + 1)) = ji6 := (i64_w _).trans hji6
 obtain ⟨c7, H⟩ := ip_ H
 have c7b0 := eq_true c7
 have c7b1 : decide (0 ≤ (ji6)) = true := decide_eq_true c7
 clear c7
 obtain ⟨c8, H⟩ := ip_ H
 have c8b0 := eq_true c8
 have c8b1 : decide ((ji6 : Int).toNat ≤ 281474976710656) = true := decide_eq_true c8
 clear c8
 obtain ⟨y425, hy425⟩ : ∃ y_ : List Bool, y_ = (List.replicate (ji6 : Int).toNat false) := ⟨_, rfl⟩
 replace H : (spec_ArfClosure.l0 k t421 t424 y425 0) = some (r1, r2) := by subst hy425; exact H
 have Ny425 := Aside0.mk hy425
 clear hy425
 have H' := Aside0.mk H
 clear H
 go_enter Try.func7, Try.ntmps7
 go_wp2_with (first | ((with_reducible refine gate_dst (N := 1) rfl ?_); refine bx_ 1 #[.slice A0_0 l0_0.length c0_0] 26 ?_; intro gb418 hg w9 hbox hb; have BK418 := Aside0.mk (hbox); have GW418 := gw_ hg HB; have GE418 := gw_ hg HB; replace HB := bo_ HB hb; clear hb hbox hg) | ((with_reducible refine gate_dst (N := 2) rfl ?_); refine bx_ 2 #[.slice none 0 0] 26 ?_; intro gb419 hg w10 hbox hb; have BK419 := Aside0.mk (hbox); have GW419 := gq_ hg (bq_ HB); have GE419 := gq_ hg (bq_ HB); replace HB := bp_ HB hb; have NB418_419 := nl_ hg BK418; have NB419_418 := ng_ hg BK418; replace BK418 := bk_ BK418 hb; clear hb hbox hg; have hnb11 := NB418_419.out; have hnc11 := NB419_418.out; have hcz12_0 := cz_ BK418; have hfz12_0 := blk_frozen BK418.out 0) | ((with_reducible refine gate_callee (f := 27) rfl ?_); refine gL_ (some 18) Try.func27 #[.agg #[.slice A0_0 l0_0.length c0_0]] ?_; (with_reducible refine (spec_IsSemigroup.calls k _ _ l0_0 true _ ?side1 ?side2 A2.out).mono ?_); (case side1 => exact ch_ HR0_0 HB); (case side2 => exact HC0_0.out); rintro e w13 ⟨rfl, hb⟩; refine ⟨_, rfl, ?_⟩; replace BK418 := bk_ BK418 hb; replace BK419 := bk_ BK419 hb; replace HB := bp_ HB hb; (try clear hb); have hcz14_0 := cz_ BK418; have hfz14_0 := blk_frozen BK418.out 0) | ((with_reducible refine gate_callee (f := 28) rfl ?_); refine gL_ (some 22) Try.func28 #[.agg #[.slice A0_0 l0_0.length c0_0]] ?_; (with_reducible refine (spec_l4Gaps.calls k _ _ l0_0 t421 _ ?side1 ?side2 A4.out).mono ?_); (case side1 => exact ch_ HR0_0 HB); (case side2 => exact HC0_0.out); rintro e w15 ⟨v422, rfl, ho0, hb⟩; refine ⟨_, rfl, ?_⟩; have HO423 := Aside0.mk (Kd.R_lower ho0 (below_size (bq_ HB))); replace BK418 := bk_ BK418 hb; replace BK419 := bk_ BK419 hb; replace HB := bp_ HB hb; (try clear hb); (try clear ho0); have hcz16_0 := cz_ BK418; have hfz16_0 := blk_frozen BK418.out 0) | ((with_reducible refine gate_callee (f := 29) rfl ?_); refine gL_ (some 24) Try.func29 #[.agg #[.slice A0_0 l0_0.length c0_0]] ?_; (with_reducible refine (spec_ConductorOf.calls k _ _ l0_0 t424 _ ?side1 ?side2 A5.out).mono ?_); (case side1 => exact ch_ HR0_0 HB); (case side2 => exact HC0_0.out); rintro e w17 ⟨rfl, hb⟩; refine ⟨_, rfl, ?_⟩; replace HO423 := Aside0.mk (Kd.R_below (re_ HO423.out) hb); replace BK418 := bk_ BK418 hb; replace BK419 := bk_ BK419 hb; replace HB := bp_ HB hb; (try clear hb)) | ((with_reducible refine gate_dst (N := 27) rfl ?_); refine Kd.R_make Kd.bool _ 4 rfl (N := 27) rfl 42 _ _ rfl ji6 rfl rfl Try.underlying42 (.bool false) 1 info4 rfl (by decide) (by omega) false (ok := fun _ => True) (okp := fun _ => True) rfl (fun _ hk => hk) trivial (od_) (Nat.le_trans (Nat.mul_le_mul_right _ (od_ : ji6.toNat ≤ 281474976710656)) (by omega)) (Below.refl _ _) (Nat.le_refl _) ?_; intro v426 w18 ho19 hb hg_ hnew_; clear hg_ hnew_; (first | rw [← Ny425.out] at ho19 | (simp only [Int.reduceToNat] at ho19; rw [← Ny425.out] at ho19)); replace HO423 := Aside0.mk (Kd.R_below (re_ HO423.out) hb); have HO427 := Aside0.mk (Kd.R_lower ho19 (below_size (bq_ HB))); replace BK418 := bk_ BK418 hb; replace BK419 := bk_ BK419 hb; replace HB := bp_ HB hb; clear hb ho19))
 go_loopg [7] k (fun kq v7 w' => ∃ (x6_1 : List Bool) (x7_1 : Int), v7 = .int .i64 x7_1 ∧ Aside0 (spec_ArfClosure.l0 kq t421 t424 x6_1 x7_1 = some (r1, r2)) ∧ Aside0 (kq ≤ k) ∧ Aside0 (Kd.R (Kd.int .i64) 3 w' w.heap.size (fun _ => True) v422 t421) ∧ Aside0 (Kd.R Kd.bool 4 w' w.heap.size (fun _ => True) v426 x6_1) ∧ Aside0 (w'.heap[gb418]? = some (.cells #[(.slice A0_0 l0_0.length c0_0)] 26 (0, 0))) ∧ Aside0 (w'.heap[gb419]? = some (.cells #[(.slice none 0 0)] 26 (0, 0))) ∧ Aside0 (Below w.heap.size w w'))
 case atStart => exact ⟨(y425), (0), rs_, H', ⟨Nat.le_refl _⟩, ⟨re_ HO423.out⟩, ⟨re_ HO427.out⟩, ⟨be_ BK418.out⟩, ⟨be_ BK419.out⟩, ⟨bq_ HB⟩⟩
 case round =>
  clear H'
  try clear c7b0
  try clear c7b1
  try clear c8b0
  try clear c8b1
  try clear hcz12_0
  try clear hcz14_0
  try clear hcz16_0
  try clear hfz12_0
  try clear hfz14_0
  try clear hfz16_0
  obtain ⟨x6_1, x7_1, rfl, HA, HK1, HO_4, HO_6, BK418, BK419, HB⟩ := hrel
  cases gk with
  | zero => exact absurd HA.out (by simp [spec_ArfClosure.l0])
  | succ k1 =>
   have H := HA.out
   clear HA
   simp only [spec_ArfClosure.l0] at H
   by_cases c20 : x7_1 < t424
   · rw [if_pos c20] at H
     have c20b0 : decide (x7_1 < t424) = true := decide_eq_true c20
     clear c20
     obtain ⟨t428, A21, H⟩ := ob_ H
     obtain ⟨c22b0, H⟩ := ipd_ H
     obtain ⟨c23b0, H⟩ := ipd_ H
     obtain ⟨y429, hy429⟩ : ∃ y_ : List Bool, y_ = (x6_1.set (x7_1 : Int).toNat (!t428)) := ⟨_, rfl⟩
     replace H : (spec_ArfClosure.l0 k1 t421 t424 y429 (wrap64 (x7_1 + 1))) = some (r1, r2) := by subst hy429; exact H
     have Ny429 := Aside0.mk hy429
     clear hy429
     have H' := Aside0.mk H
     clear H
     obtain ⟨Ao25, co25, eo25⟩ := Kd.R_slice HO_4.out
     subst eo25
     go_wp2_with (first | ((with_reducible refine gate_callee (f := 30) rfl ?_); refine gL_ (some 37) Try.func30 #[.slice Ao25 t421.length co25, .int .i64 x7_1] ?_; (with_reducible refine (spec_HasNumber.calls k1 _ _ t421 x7_1 t428 _ ?side1 ?side2 A21.out).mono ?_); (case side1 => exact ce_ ((Kd.R_reads' HO_4.out).2.2)); (case side2 => exact (Kd.R_reads' HO_4.out).2.1); rintro e w' ⟨rfl, ⟨nd, rfl⟩⟩; refine ⟨_, rfl, ?_⟩; (try (rw [drewN_self wr]; generalize hq_ : World.drewN wr _ = wr; have n0_ : Aside0 (Kd.R (Kd.int .i64) 3 wr w.heap.size (fun _ => True) (.slice Ao25 t421.length co25) t421) := ⟨by rw [← hq_]; exact (re_ HO_4.out)⟩; have n1_ : Aside0 (Kd.R Kd.bool 4 wr w.heap.size (fun _ => True) v426 x6_1) := ⟨by rw [← hq_]; exact (re_ HO_6.out)⟩; have n2_ : Aside0 (wr.heap[gb418]? = some (.cells #[.slice A0_0 l0_0.length c0_0] 26 (0, 0))) := ⟨by rw [← hq_]; exact (be_ BK418.out)⟩; have n3_ : Aside0 (wr.heap[gb419]? = some (.cells #[.slice none 0 0] 26 (0, 0))) := ⟨by rw [← hq_]; exact (be_ BK419.out)⟩; have n4_ : Aside0 (Below w.heap.size w wr) := ⟨by rw [← hq_]; exact (bq_ HB)⟩; clear HO_4 HO_6 BK418 BK419 HB hq_; have HO_4 := n0_; have HO_6 := n1_; have BK418 := n2_; have BK419 := n3_; have HB := n4_; clear n0_ n1_ n2_ n3_ n4_)); have p24 : 0 ≤ (x7_1 : Int) := od_; have q24 : (x7_1 : Int) < ((x6_1.length : Int) : Int) := od_; obtain ⟨go24, co24, eo24, gb24, gl24, cl24, HG24⟩ := Kd.R_form HO_6.out (by omega); (first | cases eo24 | (injection eo24 with ea_ en_ ec_; (first | subst ea_ | (injection ea_ with ea_; subst ea_)); subst ec_; clear en_)); have GB24 := Aside0.mk gb24; have GG24 := Aside0.mk HG24; clear gb24 gl24 HG24; obtain ⟨hx24_0, hf24_0⟩ := Kd.R_celln false HO_6.out (x7_1 : Int) p24 q24; replace p24 := eq_true p24; replace q24 := eq_true q24; obtain ⟨hy26_, hz26_⟩ := Kd.R_celln false HO_6.out (x7_1 : Int) (od_) (od_); have HP26 := Kd.R_putg HO_6.out (x7_1 : Int) (!t428)) | ((with_reducible refine gate_store (t := 4) (p := 39) rfl ?_); refine store_event (t := 4) (p := 39) (v := ?vo_w27) (w1 := (wr.setCell ⟨go24, (x7_1 : Int).toNat, none⟩ (.bool (!t428)))) ?hg ?ho ?hn ?hr ?_; (case ho => rfl); (case hg => rfl); (case hn => rfl); (case hr => first | (go_simp; done) | (go_simp; rfl)); intro w27 hw; have hg : wr.grownBy w27 (some go24) := (by rw [hw]; exact HP26.2); have hp_ : Kd.R Kd.bool 4 w27 w.heap.size (fun _ => True) (.slice (some ⟨go24, 0, none⟩) x6_1.length co24) y429 := (by rw [hw, Ny429.out]; exact HP26.1); clear HP26; replace HO_4 := Aside0.mk (Kd.R_over' (v := (.slice (some ⟨go24, 0, none⟩) x6_1.length co24)) (re_ HO_4.out) (Kd.R_typed HO_6.out) (by decide) hg); replace BK418 := Aside0.mk (blk_grown (be_ BK418.out) hg (Kd.R_ne HO_6.out BK418.out (by decide))); replace BK419 := Aside0.mk (blk_grown (be_ BK419.out) hg (Kd.R_ne HO_6.out BK419.out (by decide))); replace HO_6 := Aside0.mk (hp_); replace HB := Aside0.mk ((by rw [hw]; exact below_set (HB.out) GB24.out : Below w.heap.size w w27)); clear hg hw hp_))
     go_roundg k1
     case measure => have := HK1.out; omega
     case rel => exact ⟨(y429), (wrap64 (x7_1 + 1)), rs_, H', ⟨by have := HK1.out; omega⟩, ⟨re_ HO_4.out⟩, ⟨re_ HO_6.out⟩, ⟨be_ BK418.out⟩, ⟨be_ BK419.out⟩, ⟨bq_ HB⟩⟩
   rw [if_neg c20] at H
   have c20b0 : decide (x7_1 < t424) = false := decide_eq_false c20
   clear c20
   have H' := Aside0.mk H
   clear H
   go_wp2
   go_loopg [8] k1 (fun kq v8 w' => ∃ (x6_2 : List Bool) (x8_2 : Bool), v8 = .bool x8_2 ∧ Aside0 (spec_ArfClosure.l1 kq t424 x6_2 x8_2 = some (r1, r2)) ∧ Aside0 (kq ≤ k1) ∧ Aside0 (Kd.R Kd.bool 4 w' w.heap.size (fun _ => True) v426 x6_2) ∧ Aside0 (w'.heap[gb418]? = some (.cells #[(.slice A0_0 l0_0.length c0_0)] 26 (0, 0))) ∧ Aside0 (w'.heap[gb419]? = some (.cells #[(.slice none 0 0)] 26 (0, 0))) ∧ Aside0 (Below w.heap.size w w'))
   case atStart => exact ⟨(x6_1), (true), rs_, H', ⟨Nat.le_refl _⟩, ⟨re_ HO_6.out⟩, ⟨be_ BK418.out⟩, ⟨be_ BK419.out⟩, ⟨bq_ HB⟩⟩
   case round =>
    clear H'
    try clear c20b0
    obtain ⟨x6_2, x8_2, rfl, HA, HK2, HO_6, BK418, BK419, HB⟩ := hrel
    cases gk with
    | zero => exact absurd HA.out (by simp [spec_ArfClosure.l1])
    | succ k2 =>
     have H := HA.out
     clear HA
     simp only [spec_ArfClosure.l1] at H
     by_cases c28 : x8_2 = true
     rotate_left
     · replace c28 := Bool.eq_false_iff.mpr c28
       subst c28
       rw [if_neg (show ¬ (false = true) by decide)] at H
       obtain ⟨y435, hy435⟩ : ∃ y_ : List Int, y_ = (([] : List Int)) := ⟨_, rfl⟩
       replace H : (spec_ArfClosure.l5 k2 t424 x6_2 y435 1) = some (r1, r2) := by subst hy435; exact H
       have Ny435 := Aside0.mk hy435
       clear hy435
       have H' := Aside0.mk H
       clear H
       go_wp2_with (first | ((with_reducible refine gate_dst (N := 92) rfl ?_); refine Kd.R_lit (Kd.int .i64) _ 3 ?hg (N := 92) ?hd (xs := ([] : List Int)) (inner := []) (ok := fun _ => True) (okp := fun _ => True) ?hr ?hp (fun _ hk => hk) trivial (Below.refl _ _) (Nat.le_refl _) (by simp) ?_; (case hd => rfl); (case hg => rfl); (case hr => first | (go_simp; done) | (go_simp; rfl)); (case hp => exact (Reps.none _ _)); intro v436 w59 ho60 hb hg_ hnew_; clear hg_ hnew_; (first | rw [← Ny435.out] at ho60 | (simp only [Int.reduceToNat] at ho60; rw [← Ny435.out] at ho60)); replace HO_6 := Aside0.mk (Kd.R_below (re_ HO_6.out) hb); have HO437 := Aside0.mk (Kd.R_lower ho60 (below_size (bq_ HB))); replace BK418 := bk_ BK418 hb; replace BK419 := bk_ BK419 hb; replace HB := bp_ HB hb; clear hb ho60))
       go_loopg [13, 14] k2 (fun kq v13 v14 w' => ∃ (x13_3 : List Int) (x14_3 : Int), v14 = .int .i64 x14_3 ∧ Aside0 (spec_ArfClosure.l5 kq t424 x6_2 x13_3 x14_3 = some (r1, r2)) ∧ Aside0 (kq ≤ k2) ∧ Aside0 (Kd.R Kd.bool 4 w' w.heap.size (fun _ => True) v426 x6_2) ∧ Aside0 (Kd.R (Kd.int .i64) 3 w' w.heap.size (fun _ => True) v13 x13_3) ∧ Aside0 (w'.heap[gb418]? = some (.cells #[(.slice A0_0 l0_0.length c0_0)] 26 (0, 0))) ∧ Aside0 (w'.heap[gb419]? = some (.cells #[(.slice none 0 0)] 26 (0, 0))) ∧ Aside0 (Below w.heap.size w w'))
       case atStart => exact ⟨(y435), (1), rs_, H', ⟨Nat.le_refl _⟩, ⟨re_ HO_6.out⟩, ⟨re_ HO437.out⟩, ⟨be_ BK418.out⟩, ⟨be_ BK419.out⟩, ⟨bq_ HB⟩⟩
       case round =>
        clear H'
        obtain ⟨x13_3, x14_3, rfl, HA, HK3, HO_6, HO_13, BK418, BK419, HB⟩ := hrel
        cases gk with
        | zero => exact absurd HA.out (by simp [spec_ArfClosure.l5])
        | succ k3 =>
         have H := HA.out
         clear HA
         simp only [spec_ArfClosure.l5] at H
         by_cases c61 : x14_3 < t424
         rotate_left
         · rw [if_neg c61] at H
           have c61b0 : decide (x14_3 < t424) = false := decide_eq_false c61
           clear c61
           obtain ⟨⟨t442, t445⟩, A70, H⟩ := ob_ H
           (try dsimp only at H)
           simp only [Option.some.injEq, Prod.mk.injEq] at H
           obtain ⟨rfl, rfl⟩ := H
           obtain ⟨Ao71, co71, eo71⟩ := Kd.R_slice HO_13.out
           subst eo71
           go_wp2_with (first | ((with_reducible refine gate_callee (f := 31) rfl ?_); refine gL_ (some 109) Try.func31 #[.slice Ao71 x13_3.length co71] ?_; (with_reducible refine (spec_FromGaps.calls k3 _ _ x13_3 t442 t445 _ ?side1 ?side2 A70.out).mono ?_); (case side1 => exact ce_ ((Kd.R_reads' HO_13.out).2.2)); (case side2 => exact (Kd.R_reads' HO_13.out).2.1); rintro e w72 ⟨v443, rfl, ho0, hb⟩; refine ⟨_, rfl, ?_⟩; replace HO_6 := Aside0.mk (Kd.R_below (re_ HO_6.out) hb); have HO444 := Aside0.mk (Kd.R_lower (Kd.R_new' ho0 (Kd.R_lt (re_ HO_13.out))) (below_size (bq_ HB))); replace HO_13 := Aside0.mk (Kd.R_elder' (re_ HO_13.out) (Kd.R_base ho0) hb); replace BK418 := bk_ BK418 hb; replace BK419 := bk_ BK419 hb; replace HB := bp_ HB hb; (try clear hb); (try clear ho0)) | ((with_reducible refine gate_dst (N := 15) rfl ?_); refine bx_ 15 #[.slice none 0 0] 26 ?_; intro gb446 hg w73 hbox hb; replace HO_6 := Aside0.mk (Kd.R_below (re_ HO_6.out) hb); replace HO_13 := Aside0.mk (Kd.R_below (re_ HO_13.out) hb); replace HO444 := Aside0.mk (Kd.R_below (re_ HO444.out) hb); have BK446 := Aside0.mk (hbox); have GW446 := gq_ hg (bq_ HB); have GE446 := gq_ hg (bq_ HB); replace HB := bp_ HB hb; have NB418_446 := nl_ hg BK418; have NB446_418 := ng_ hg BK418; replace BK418 := bk_ BK418 hb; have NB419_446 := nl_ hg BK419; have NB446_419 := ng_ hg BK419; replace BK419 := bk_ BK419 hb; clear hb hbox hg; obtain ⟨Ao74, co74, eo74⟩ := Kd.R_slice HO444.out; subst eo74; have hnb75 := NB446_418.out; have hnc75 := NB418_446.out; have hnb76 := NB446_419.out; have hnc76 := NB419_446.out; have hcz77_0 := cz_ BK446; have hfz77_0 := blk_frozen BK446.out 0; have hnb78 := NB419_418.out; have hnc78 := NB418_419.out; have hcz79_0 := cz_ BK419; have hfz79_0 := blk_frozen BK419.out 0))
           refine bodyPost_ret (results_ct rfl _ _ gb419 26 #[.slice Ao74 t442.length co74] (0, 0) _ rfl (bz_ BK419) Try.underlying26 rfl (by kernel_rfl)) rfl ?_
           exact ⟨_, by first | rfl | (simp [errW_none, errW_some] <;> rfl) | (simp only [← hji6]; first | rfl | (simp [errW_none, errW_some] <;> rfl)) | (simp [*, errW_none, errW_some] <;> rfl), by (with_reducible repeat (first | apply Kd.R_alloc | apply Kd.R_drewN | apply Kd.R_drew)); exact Kd.R_mono (Kd.R_far (p := ⟨gb419, 0, none⟩) (Kd.R_far (p := ⟨gb446, 0, none⟩) (Kd.R_types (Kd.R_types HO444.out BK446.out (by decide)) BK419.out (by decide)) (fun _ hk => hk.1.2) (.slice Ao74 t442.length co74)) (fun _ hk => hk.2) (.slice Ao74 t442.length co74)) (fun _ hk => trivial), bq_ HB⟩
         rw [if_pos c61] at H
         have c61b0 : decide (x14_3 < t424) = true := decide_eq_true c61
         clear c61
         obtain ⟨c62b0, H⟩ := ipd_ H
         obtain ⟨c63b0, H⟩ := ipd_ H
         obtain ⟨bq64, hbq64⟩ : ∃ b_ : Bool, b_ = (rdOf false x6_2 x14_3) := ⟨_, rfl⟩
         replace H : (if bq64 = true then (spec_ArfClosure.l5 k3 t424 x6_2 x13_3 (wrap64 (x14_3 + 1))) else (if x13_3.length < 17592186044416 then (spec_ArfClosure.l5 k3 t424 x6_2 (x13_3 ++ [x14_3]) (wrap64 (x14_3 + 1))) else (none))) = some (r1, r2) := by rw [← hbq64] at H; exact H
         have Nbq64 := Aside0.mk hbq64
         clear hbq64
         by_cases c65 : bq64 = true
         · subst c65
           rw [if_pos rfl] at H
           have H' := Aside0.mk H
           clear H
           obtain ⟨Ao66, co66, eo66⟩ := Kd.R_slice HO_6.out
           subst eo66
           have p438 : 0 ≤ (x14_3 : Int) := od_
           have q438 : x14_3 < (x6_2.length : Int) := od_
           obtain ⟨ad438, e438, hx438_0⟩ := Kd.at_bool (Kd.R_reads' HO_6.out).2.2 x14_3 p438 q438
           (try rw [← Nbq64.out] at hx438_0)
           cases e438
           replace p438 := eq_true p438
           replace q438 := eq_true q438
           go_wp2
           go_roundg k3
           case measure => have := HK1.out; have := HK2.out; have := HK3.out; omega
           case rel => exact ⟨(x13_3), (wrap64 (x14_3 + 1)), rs_, H', ⟨by have := HK1.out; have := HK2.out; have := HK3.out; omega⟩, ⟨re_ HO_6.out⟩, ⟨re_ HO_13.out⟩, ⟨be_ BK418.out⟩, ⟨be_ BK419.out⟩, ⟨bq_ HB⟩⟩
         replace c65 := Bool.eq_false_iff.mpr c65
         subst c65
         rw [if_neg (show ¬ (false = true) by decide)] at H
         obtain ⟨c67, H⟩ := ip_ H
         have LMc67 := Aside0.mk c67
         clear c67
         obtain ⟨y439, hy439⟩ : ∃ y_ : List Int, y_ = (x13_3 ++ [x14_3]) := ⟨_, rfl⟩
         replace H : (spec_ArfClosure.l5 k3 t424 x6_2 y439 (wrap64 (x14_3 + 1))) = some (r1, r2) := by subst hy439; exact H
         have Ny439 := Aside0.mk hy439
         clear hy439
         have H' := Aside0.mk H
         clear H
         obtain ⟨Ao68, co68, eo68⟩ := Kd.R_slice HO_6.out
         subst eo68
         have p438 : 0 ≤ (x14_3 : Int) := od_
         have q438 : x14_3 < (x6_2.length : Int) := od_
         obtain ⟨ad438, e438, hx438_0⟩ := Kd.at_bool (Kd.R_reads' HO_6.out).2.2 x14_3 p438 q438
         (try rw [← Nbq64.out] at hx438_0)
         cases e438
         replace p438 := eq_true p438
         replace q438 := eq_true q438
         go_wp2_with (first | ((with_reducible refine gate_builtin (b := .append) (xs := #[.tmp 103, .tmp 105]) rfl ?_); at_builtin; refine Kd.R_append (Kd.int .i64) (w0 := w) w.heap.size rfl (.tmp 103) (.tmp 105) 24 3 (.int .i64 0) 8 rfl Try.underlying24 info3 rfl (by decide) (by omega) u13 x13_3 x14_3 [.int .i64 x14_3] (fun _ => True) (fun _ => False) rfl rfl ?aP (fun _ hk => hk.elim) ?aF ?aO ?aB ?aS ?aL ?_; (case aP => exact rfl); (case aB => exact (bq_ HB)); (case aF => exact (fun _ _ => trivial)); (case aO => exact (re_ HO_13.out)); (case aS => exact (below_size (bq_ HB))); (case aL => have := LMc67.out; omega); intro v440 w69 ho hb hg hat; rw [← Ny439.out] at ho; replace HO_6 := Aside0.mk (Kd.R_over' (re_ HO_6.out) (Kd.R_typed (re_ HO_13.out)) (by decide) hg); replace BK418 := Aside0.mk (blk_grown (be_ BK418.out) hg (Kd.R_ne HO_13.out BK418.out (by decide))); replace BK419 := Aside0.mk (blk_grown (be_ BK419.out) hg (Kd.R_ne HO_13.out BK419.out (by decide))); replace HB := Aside0.mk (hb); have HO441 := Aside0.mk (ho); clear HO_13; clear ho hb hg hat))
         go_roundg k3
         case measure => have := HK1.out; have := HK2.out; have := HK3.out; omega
         case rel => exact ⟨(y439), (wrap64 (x14_3 + 1)), rs_, H', ⟨by have := HK1.out; have := HK2.out; have := HK3.out; omega⟩, ⟨re_ HO_6.out⟩, ⟨re_ HO441.out⟩, ⟨be_ BK418.out⟩, ⟨be_ BK419.out⟩, ⟨bq_ HB⟩⟩
     subst c28
     rw [if_pos rfl] at H
     have H' := Aside0.mk H
     clear H
     go_wp2
     go_loopg [8, 9] k2 (fun kq v8 v9 w' => ∃ (x6_3 : List Bool) (x8_3 : Bool) (x9_3 : Int), v8 = .bool x8_3 ∧ v9 = .int .i64 x9_3 ∧ Aside0 (spec_ArfClosure.l2 kq t424 x6_3 x8_3 x9_3 = some (r1, r2)) ∧ Aside0 (kq ≤ k2) ∧ Aside0 (Kd.R Kd.bool 4 w' w.heap.size (fun _ => True) v426 x6_3) ∧ Aside0 (w'.heap[gb418]? = some (.cells #[(.slice A0_0 l0_0.length c0_0)] 26 (0, 0))) ∧ Aside0 (w'.heap[gb419]? = some (.cells #[(.slice none 0 0)] 26 (0, 0))) ∧ Aside0 (Below w.heap.size w w'))
     case atStart => exact ⟨(x6_2), (false), (0), rs_, rs_, H', ⟨Nat.le_refl _⟩, ⟨re_ HO_6.out⟩, ⟨be_ BK418.out⟩, ⟨be_ BK419.out⟩, ⟨bq_ HB⟩⟩
     case round =>
      clear H'
      obtain ⟨x6_3, x8_3, x9_3, rfl, rfl, HA, HK3, HO_6, BK418, BK419, HB⟩ := hrel
      cases gk with
      | zero => exact absurd HA.out (by simp [spec_ArfClosure.l2])
      | succ k3 =>
       have H := HA.out
       clear HA
       simp only [spec_ArfClosure.l2] at H
       by_cases c29 : x9_3 < t424
       rotate_left
       · rw [if_neg c29] at H
         have c29b0 : decide (x9_3 < t424) = false := decide_eq_false c29
         clear c29
         have H' := Aside0.mk H
         clear H
         go_wp2
         go_roundg k3
         case measure => have := HK1.out; have := HK2.out; have := HK3.out; omega
         case rel => exact ⟨(x6_3), (x8_3), rs_, H', ⟨by have := HK1.out; have := HK2.out; have := HK3.out; omega⟩, ⟨re_ HO_6.out⟩, ⟨be_ BK418.out⟩, ⟨be_ BK419.out⟩, ⟨bq_ HB⟩⟩
       rw [if_pos c29] at H
       have c29b0 : decide (x9_3 < t424) = true := decide_eq_true c29
       clear c29
       have H' := Aside0.mk H
       clear H
       go_wp2
       go_loopg [8, 10] k3 (fun kq v8 v10 w' => ∃ (x6_4 : List Bool) (x8_4 : Bool) (x10_4 : Int), v8 = .bool x8_4 ∧ v10 = .int .i64 x10_4 ∧ Aside0 (spec_ArfClosure.l3 kq t424 x6_4 x8_4 x9_3 x10_4 = some (r1, r2)) ∧ Aside0 (kq ≤ k3) ∧ Aside0 (Kd.R Kd.bool 4 w' w.heap.size (fun _ => True) v426 x6_4) ∧ Aside0 (w'.heap[gb418]? = some (.cells #[(.slice A0_0 l0_0.length c0_0)] 26 (0, 0))) ∧ Aside0 (w'.heap[gb419]? = some (.cells #[(.slice none 0 0)] 26 (0, 0))) ∧ Aside0 (Below w.heap.size w w'))
       case atStart => exact ⟨(x6_3), (x8_3), (0), rs_, rs_, H', ⟨Nat.le_refl _⟩, ⟨re_ HO_6.out⟩, ⟨be_ BK418.out⟩, ⟨be_ BK419.out⟩, ⟨bq_ HB⟩⟩
       case round =>
        clear H'
        try clear c29b0
        obtain ⟨x6_4, x8_4, x10_4, rfl, rfl, HA, HK4, HO_6, BK418, BK419, HB⟩ := hrel
        cases gk with
        | zero => exact absurd HA.out (by simp [spec_ArfClosure.l3])
        | succ k4 =>
         have H := HA.out
         clear HA
         simp only [spec_ArfClosure.l3] at H
         have HC30 := Aside0.mk H
         clear H
         go_upto_region 17 with (fail)
         go_cut [54] (fun v54 wc => ∃ (kq : Nat) (x54_29 : Bool), v54 = .bool x54_29 ∧ Aside0 (spec_ArfClosure.j4 kq t424 x6_4 x8_4 x9_3 x10_4 x54_29 = some (r1, r2)) ∧ Aside0 (kq ≤ k4) ∧ Aside0 (Kd.R Kd.bool 4 wc w.heap.size (fun _ => True) v426 x6_4) ∧ Aside0 (wc.heap[gb418]? = some (.cells #[(.slice A0_0 l0_0.length c0_0)] 26 (0, 0))) ∧ Aside0 (wc.heap[gb419]? = some (.cells #[(.slice none 0 0)] 26 (0, 0))) ∧ Aside0 (Below w.heap.size w wc))
         case first =>
          have H := HC30.out
          clear HC30
          by_cases c31 : x10_4 ≤ x9_3
          rotate_left
          · rw [if_neg c31] at H
            have c31b0 : decide (x10_4 ≤ x9_3) = false := decide_eq_false c31
            clear c31
            (first | rw [c31b0] | (simp only [i64_w, i32_w]; rw [c31b0]) | skip)
            have H' := Aside0.mk H
            clear H
            go_wp2
            go_meet
            case rel => exact ⟨_, (false), rs_, H', ⟨by have := HK1.out; have := HK2.out; have := HK3.out; have := HK4.out; first | omega | exact Nat.le_refl _⟩, ⟨re_ HO_6.out⟩, ⟨be_ BK418.out⟩, ⟨be_ BK419.out⟩, ⟨bq_ HB⟩⟩
          rw [if_pos c31] at H
          have c31b0 : decide (x10_4 ≤ x9_3) = true := decide_eq_true c31
          clear c31
          (first | rw [c31b0] | (simp only [i64_w, i32_w]; rw [c31b0]) | skip)
          obtain ⟨c32b0, H⟩ := ipd_ H
          obtain ⟨c33b0, H⟩ := ipd_ H
          have H' := Aside0.mk H
          clear H
          obtain ⟨Ao34, co34, eo34⟩ := Kd.R_slice HO_6.out
          subst eo34
          have p430 : 0 ≤ (x9_3 : Int) := od_
          have q430 : x9_3 < (x6_4.length : Int) := od_
          obtain ⟨ad430, e430, hx430_0⟩ := Kd.at_bool (Kd.R_reads' HO_6.out).2.2 x9_3 p430 q430
          cases e430
          replace p430 := eq_true p430
          replace q430 := eq_true q430
          go_wp2
          go_meet
          case rel => exact ⟨_, (rdOf false x6_4 x9_3), rs_, H', ⟨by have := HK1.out; have := HK2.out; have := HK3.out; have := HK4.out; first | omega | exact Nat.le_refl _⟩, ⟨re_ HO_6.out⟩, ⟨be_ BK418.out⟩, ⟨be_ BK419.out⟩, ⟨bq_ HB⟩⟩
         case rest =>
          clear HC30
          obtain ⟨kq, x54_29, rfl, HA, HJ29, HO_6, BK418, BK419, HB⟩ := hcut
          cases kq with
          | zero => exact absurd HA.out (by simp [spec_ArfClosure.j4])
          | succ kj29 =>
           have H := HA.out
           clear HA
           simp only [spec_ArfClosure.j4] at H
           by_cases c35 : x54_29 = true
           rotate_left
           · replace c35 := Bool.eq_false_iff.mpr c35
             subst c35
             rw [if_neg (show ¬ (false = true) by decide)] at H
             have H' := Aside0.mk H
             clear H
             go_wp2
             go_roundg kj29
             case measure => have := HK1.out; have := HK2.out; have := HK3.out; have := HK4.out; have := HJ29.out; omega
             case rel => exact ⟨(x6_4), (x8_4), (wrap64 (x9_3 + 1)), rs_, rs_, H', ⟨by have := HK1.out; have := HK2.out; have := HK3.out; have := HK4.out; have := HJ29.out; omega⟩, ⟨re_ HO_6.out⟩, ⟨be_ BK418.out⟩, ⟨be_ BK419.out⟩, ⟨bq_ HB⟩⟩
           subst c35
           rw [if_pos rfl] at H
           have H' := Aside0.mk H
           clear H
           go_wp2
           go_loopg [8, 11] kj29 (fun kq v8 v11 w' => ∃ (x6_6 : List Bool) (x8_6 : Bool) (x11_6 : Int), v8 = .bool x8_6 ∧ v11 = .int .i64 x11_6 ∧ Aside0 (spec_ArfClosure.l4 kq t424 x6_6 x8_6 x9_3 x10_4 x11_6 = some (r1, r2)) ∧ Aside0 (kq ≤ kj29) ∧ Aside0 (Kd.R Kd.bool 4 w' w.heap.size (fun _ => True) v426 x6_6) ∧ Aside0 (w'.heap[gb418]? = some (.cells #[(.slice A0_0 l0_0.length c0_0)] 26 (0, 0))) ∧ Aside0 (w'.heap[gb419]? = some (.cells #[(.slice none 0 0)] 26 (0, 0))) ∧ Aside0 (Below w.heap.size w w'))
           case atStart => exact ⟨(x6_4), (x8_4), (0), rs_, rs_, H', ⟨Nat.le_refl _⟩, ⟨re_ HO_6.out⟩, ⟨be_ BK418.out⟩, ⟨be_ BK419.out⟩, ⟨bq_ HB⟩⟩
           case round =>
            clear H'
            obtain ⟨x6_6, x8_6, x11_6, rfl, rfl, HA, HK6, HO_6, BK418, BK419, HB⟩ := hrel
            cases gk with
            | zero => exact absurd HA.out (by simp [spec_ArfClosure.l4])
            | succ k6 =>
             have H := HA.out
             clear HA
             simp only [spec_ArfClosure.l4] at H
             have HC36 := Aside0.mk H
             clear H
             go_upto_region 20 with (fail)
             go_cut [65] (fun v65 wc => ∃ (kq : Nat) (x65_35 : Bool), v65 = .bool x65_35 ∧ Aside0 (spec_ArfClosure.j6 kq t424 x6_6 x8_6 x9_3 x10_4 x11_6 x65_35 = some (r1, r2)) ∧ Aside0 (kq ≤ k6) ∧ Aside0 (Kd.R Kd.bool 4 wc w.heap.size (fun _ => True) v426 x6_6) ∧ Aside0 (wc.heap[gb418]? = some (.cells #[(.slice A0_0 l0_0.length c0_0)] 26 (0, 0))) ∧ Aside0 (wc.heap[gb419]? = some (.cells #[(.slice none 0 0)] 26 (0, 0))) ∧ Aside0 (Below w.heap.size w wc))
             case first =>
              have H := HC36.out
              clear HC36
              by_cases c37 : x11_6 ≤ x10_4
              rotate_left
              · rw [if_neg c37] at H
                have c37b0 : decide (x11_6 ≤ x10_4) = false := decide_eq_false c37
                clear c37
                (first | rw [c37b0] | (simp only [i64_w, i32_w]; rw [c37b0]) | skip)
                have H' := Aside0.mk H
                clear H
                go_wp2
                go_meet
                case rel => exact ⟨_, (false), rs_, H', ⟨by have := HK1.out; have := HK2.out; have := HK3.out; have := HK4.out; have := HJ29.out; have := HK6.out; first | omega | exact Nat.le_refl _⟩, ⟨re_ HO_6.out⟩, ⟨be_ BK418.out⟩, ⟨be_ BK419.out⟩, ⟨bq_ HB⟩⟩
              rw [if_pos c37] at H
              have c37b0 : decide (x11_6 ≤ x10_4) = true := decide_eq_true c37
              clear c37
              (first | rw [c37b0] | (simp only [i64_w, i32_w]; rw [c37b0]) | skip)
              obtain ⟨c38b0, H⟩ := ipd_ H
              obtain ⟨c39b0, H⟩ := ipd_ H
              have H' := Aside0.mk H
              clear H
              obtain ⟨Ao40, co40, eo40⟩ := Kd.R_slice HO_6.out
              subst eo40
              have p431 : 0 ≤ (x10_4 : Int) := od_
              have q431 : x10_4 < (x6_6.length : Int) := od_
              obtain ⟨ad431, e431, hx431_0⟩ := Kd.at_bool (Kd.R_reads' HO_6.out).2.2 x10_4 p431 q431
              cases e431
              replace p431 := eq_true p431
              replace q431 := eq_true q431
              go_wp2
              go_meet
              case rel => exact ⟨_, (rdOf false x6_6 x10_4), rs_, H', ⟨by have := HK1.out; have := HK2.out; have := HK3.out; have := HK4.out; have := HJ29.out; have := HK6.out; first | omega | exact Nat.le_refl _⟩, ⟨re_ HO_6.out⟩, ⟨be_ BK418.out⟩, ⟨be_ BK419.out⟩, ⟨bq_ HB⟩⟩
             case rest =>
              clear HC36
              obtain ⟨kq, x65_35, rfl, HA, HJ35, HO_6, BK418, BK419, HB⟩ := hcut
              cases kq with
              | zero => exact absurd HA.out (by simp [spec_ArfClosure.j6])
              | succ kj35 =>
               have H := HA.out
               clear HA
               simp only [spec_ArfClosure.j6] at H
               by_cases c41 : x65_35 = true
               rotate_left
               · replace c41 := Bool.eq_false_iff.mpr c41
                 subst c41
                 rw [if_neg (show ¬ (false = true) by decide)] at H
                 have H' := Aside0.mk H
                 clear H
                 go_wp2
                 go_roundg kj35
                 case measure => have := HK1.out; have := HK2.out; have := HK3.out; have := HK4.out; have := HJ29.out; have := HK6.out; have := HJ35.out; omega
                 case rel => exact ⟨(x6_6), (x8_6), (wrap64 (x10_4 + 1)), rs_, rs_, H', ⟨by have := HK1.out; have := HK2.out; have := HK3.out; have := HK4.out; have := HJ29.out; have := HK6.out; have := HJ35.out; omega⟩, ⟨re_ HO_6.out⟩, ⟨be_ BK418.out⟩, ⟨be_ BK419.out⟩, ⟨bq_ HB⟩⟩
               subst c41
               rw [if_pos rfl] at H
               obtain ⟨c42b0, H⟩ := ipd_ H
               obtain ⟨c43b0, H⟩ := ipd_ H
               obtain ⟨bq44, hbq44⟩ : ∃ b_ : Bool, b_ = (rdOf false x6_6 x11_6) := ⟨_, rfl⟩
               replace H : (if bq44 = true then (if (wrap64 ((wrap64 (x9_3 + x10_4)) - x11_6)) < t424 then (if 0 ≤ (wrap64 ((wrap64 (x9_3 + x10_4)) - x11_6)) then (if (wrap64 ((wrap64 (x9_3 + x10_4)) - x11_6)) < (x6_6.length : Int) then (if (rdOf false x6_6 (wrap64 ((wrap64 (x9_3 + x10_4)) - x11_6)) = true) then (spec_ArfClosure.l4 kj35 t424 x6_6 x8_6 x9_3 x10_4 (wrap64 (x11_6 + 1))) else (spec_ArfClosure.l4 kj35 t424 (x6_6.set ((wrap64 ((wrap64 (x9_3 + x10_4)) - x11_6)) : Int).toNat true) true x9_3 x10_4 (wrap64 (x11_6 + 1)))) else (none)) else (none)) else (spec_ArfClosure.l4 kj35 t424 x6_6 x8_6 x9_3 x10_4 (wrap64 (x11_6 + 1)))) else (spec_ArfClosure.l4 kj35 t424 x6_6 x8_6 x9_3 x10_4 (wrap64 (x11_6 + 1)))) = some (r1, r2) := by rw [← hbq44] at H; exact H
               have Nbq44 := Aside0.mk hbq44
               clear hbq44
               by_cases c45 : bq44 = true
               rotate_left
               · replace c45 := Bool.eq_false_iff.mpr c45
                 subst c45
                 rw [if_neg (show ¬ (false = true) by decide)] at H
                 have H' := Aside0.mk H
                 clear H
                 obtain ⟨Ao58, co58, eo58⟩ := Kd.R_slice HO_6.out
                 subst eo58
                 have p432 : 0 ≤ (x11_6 : Int) := od_
                 have q432 : x11_6 < (x6_6.length : Int) := od_
                 obtain ⟨ad432, e432, hx432_0⟩ := Kd.at_bool (Kd.R_reads' HO_6.out).2.2 x11_6 p432 q432
                 (try rw [← Nbq44.out] at hx432_0)
                 cases e432
                 replace p432 := eq_true p432
                 replace q432 := eq_true q432
                 go_wp2
                 go_roundg kj35
                 case measure => have := HK1.out; have := HK2.out; have := HK3.out; have := HK4.out; have := HJ29.out; have := HK6.out; have := HJ35.out; omega
                 case rel => exact ⟨(x6_6), (x8_6), (wrap64 (x11_6 + 1)), rs_, rs_, H', ⟨by have := HK1.out; have := HK2.out; have := HK3.out; have := HK4.out; have := HJ29.out; have := HK6.out; have := HJ35.out; omega⟩, ⟨re_ HO_6.out⟩, ⟨be_ BK418.out⟩, ⟨be_ BK419.out⟩, ⟨bq_ HB⟩⟩
               subst c45
               rw [if_pos rfl] at H
               by_cases c46 : (wrap64 ((wrap64 (x9_3 + x10_4)) - x11_6)) < t424
               rotate_left
               · rw [if_neg c46] at H
                 have c46b0 : decide ((wrap64 ((wrap64 (x9_3 + x10_4)) - x11_6)) < t424) = false := decide_eq_false c46
                 clear c46
                 have H' := Aside0.mk H
                 clear H
                 obtain ⟨Ao57, co57, eo57⟩ := Kd.R_slice HO_6.out
                 subst eo57
                 have p432 : 0 ≤ (x11_6 : Int) := od_
                 have q432 : x11_6 < (x6_6.length : Int) := od_
                 obtain ⟨ad432, e432, hx432_0⟩ := Kd.at_bool (Kd.R_reads' HO_6.out).2.2 x11_6 p432 q432
                 (try rw [← Nbq44.out] at hx432_0)
                 cases e432
                 replace p432 := eq_true p432
                 replace q432 := eq_true q432
                 go_wp2
                 go_roundg kj35
                 case measure => have := HK1.out; have := HK2.out; have := HK3.out; have := HK4.out; have := HJ29.out; have := HK6.out; have := HJ35.out; omega
                 case rel => exact ⟨(x6_6), (x8_6), (wrap64 (x11_6 + 1)), rs_, rs_, H', ⟨by have := HK1.out; have := HK2.out; have := HK3.out; have := HK4.out; have := HJ29.out; have := HK6.out; have := HJ35.out; omega⟩, ⟨re_ HO_6.out⟩, ⟨be_ BK418.out⟩, ⟨be_ BK419.out⟩, ⟨bq_ HB⟩⟩
               rw [if_pos c46] at H
               have c46b0 : decide ((wrap64 ((wrap64 (x9_3 + x10_4)) - x11_6)) < t424) = true := decide_eq_true c46
               clear c46
               obtain ⟨ji47, hji47⟩ : ∃ j_ : Int, (wrap64 ((wrap64 (x9_3 + x10_4)) - x11_6)) = j_ := ⟨_, rfl⟩
               replace H : (if 0 ≤ (ji47) then (if (ji47) < (x6_6.length : Int) then (if (rdOf false x6_6 (ji47) = true) then (spec_ArfClosure.l4 kj35 t424 x6_6 x8_6 x9_3 x10_4 (wrap64 (x11_6 + 1))) else (spec_ArfClosure.l4 kj35 t424 (x6_6.set ((ji47) : Int).toNat true) true x9_3 x10_4 (wrap64 (x11_6 + 1)))) else (none)) else (none)) = some (r1, r2) := by first | (rw [hji47] at H; exact H) | (simp only [hji47] at H ⊢; exact H)
               (try rw [hji47] at c46b0)
               have hji47w : (IntKind.i64.wrap ((wrap64 (x9_3 + x10_4)) - x11_6)) = ji47 := (i64_w _).trans hji47
               obtain ⟨c48b0, H⟩ := ipd_ H
               obtain ⟨c49b0, H⟩ := ipd_ H
               obtain ⟨bq50, hbq50⟩ : ∃ b_ : Bool, b_ = (rdOf false x6_6 (ji47)) := ⟨_, rfl⟩
               replace H : (if (bq50 = true) then (spec_ArfClosure.l4 kj35 t424 x6_6 x8_6 x9_3 x10_4 (wrap64 (x11_6 + 1))) else (spec_ArfClosure.l4 kj35 t424 (x6_6.set ((ji47) : Int).toNat true) true x9_3 x10_4 (wrap64 (x11_6 + 1)))) = some (r1, r2) := by rw [← hbq50] at H; exact H
               have Nbq50 := Aside0.mk hbq50
               clear hbq50
               by_cases c51 : (bq50 = true)
               · subst c51
                 rw [if_pos rfl] at H
                 have H' := Aside0.mk H
                 clear H
                 obtain ⟨Ao52, co52, eo52⟩ := Kd.R_slice HO_6.out
                 subst eo52
                 have p432 : 0 ≤ (x11_6 : Int) := od_
                 have q432 : x11_6 < (x6_6.length : Int) := od_
                 obtain ⟨ad432, e432, hx432_0⟩ := Kd.at_bool (Kd.R_reads' HO_6.out).2.2 x11_6 p432 q432
                 (try rw [← Nbq44.out] at hx432_0)
                 (try rw [← Nbq50.out] at hx432_0)
                 cases e432
                 replace p432 := eq_true p432
                 replace q432 := eq_true q432
                 have p433 : 0 ≤ ((ji47) : Int) := od_
                 have q433 : (ji47) < (x6_6.length : Int) := od_
                 obtain ⟨ad433, e433, hx433_0⟩ := Kd.at_bool (Kd.R_reads' HO_6.out).2.2 (ji47) p433 q433
                 (try rw [← Nbq44.out] at hx433_0)
                 (try rw [← Nbq50.out] at hx433_0)
                 obtain rfl : ad432 = ad433 := (by injection e433)
                 replace p433 := eq_true p433
                 replace q433 := eq_true q433
                 go_wp2
                 go_roundg kj35
                 case measure => have := HK1.out; have := HK2.out; have := HK3.out; have := HK4.out; have := HJ29.out; have := HK6.out; have := HJ35.out; omega
                 case rel => exact ⟨(x6_6), (x8_6), (wrap64 (x11_6 + 1)), rs_, rs_, H', ⟨by have := HK1.out; have := HK2.out; have := HK3.out; have := HK4.out; have := HJ29.out; have := HK6.out; have := HJ35.out; omega⟩, ⟨re_ HO_6.out⟩, ⟨be_ BK418.out⟩, ⟨be_ BK419.out⟩, ⟨bq_ HB⟩⟩
               replace c51 := Bool.eq_false_iff.mpr c51
               subst c51
               rw [if_neg (show ¬ (false = true) by decide)] at H
               obtain ⟨y434, hy434⟩ : ∃ y_ : List Bool, y_ = (x6_6.set ((ji47) : Int).toNat true) := ⟨_, rfl⟩
               replace H : (spec_ArfClosure.l4 kj35 t424 y434 true x9_3 x10_4 (wrap64 (x11_6 + 1))) = some (r1, r2) := by subst hy434; exact H
               have Ny434 := Aside0.mk hy434
               clear hy434
               have H' := Aside0.mk H
               clear H
               obtain ⟨Ao54, co54, eo54⟩ := Kd.R_slice HO_6.out
               subst eo54
               have p432 : 0 ≤ (x11_6 : Int) := od_
               have q432 : x11_6 < (x6_6.length : Int) := od_
               obtain ⟨ad432, e432, hx432_0⟩ := Kd.at_bool (Kd.R_reads' HO_6.out).2.2 x11_6 p432 q432
               (try rw [← Nbq44.out] at hx432_0)
               (try rw [← Nbq50.out] at hx432_0)
               cases e432
               replace p432 := eq_true p432
               replace q432 := eq_true q432
               have p433 : 0 ≤ ((ji47) : Int) := od_
               have q433 : (ji47) < (x6_6.length : Int) := od_
               obtain ⟨ad433, e433, hx433_0⟩ := Kd.at_bool (Kd.R_reads' HO_6.out).2.2 (ji47) p433 q433
               (try rw [← Nbq44.out] at hx433_0)
               (try rw [← Nbq50.out] at hx433_0)
               obtain rfl : ad432 = ad433 := (by injection e433)
               replace p433 := eq_true p433
               replace q433 := eq_true q433
               have p53 : 0 ≤ ((ji47) : Int) := od_
               have q53 : ((ji47) : Int) < ((x6_6.length : Int) : Int) := od_
               obtain ⟨go53, co53, eo53, gb53, gl53, cl53, HG53⟩ := Kd.R_form HO_6.out (by omega)
               (first | cases eo53 | (injection eo53 with ea_ en_ ec_; (first | subst ea_ | (injection ea_ with ea_; subst ea_)); subst ec_; clear en_))
               have GB53 := Aside0.mk gb53
               have GG53 := Aside0.mk HG53
               clear gb53 gl53 HG53
               (first | simp only [add_plain] at hx432_0 | skip)
               (first | simp only [add_plain] at hx433_0 | skip)
               obtain ⟨hx53_0, hf53_0⟩ := Kd.R_celln false HO_6.out ((ji47) : Int) p53 q53
               replace p53 := eq_true p53
               replace q53 := eq_true q53
               have HP55 := Kd.R_putg HO_6.out ((ji47) : Int) true
               go_wp2_with (first | ((with_reducible refine gate_store (t := 4) (p := 91) rfl ?_); refine store_event (t := 4) (p := 91) (v := ?vo_w56) (w1 := (wc.setCell ⟨go53, ((ji47) : Int).toNat, none⟩ (.bool true))) ?hg ?ho ?hn ?hr ?_; (case ho => rfl); (case hg => rfl); (case hn => rfl); (case hr => first | (go_simp; done) | (go_simp; rfl)); intro w56 hw; have hg : wc.grownBy w56 (some go53) := (by rw [hw]; exact HP55.2); have hp_ : Kd.R Kd.bool 4 w56 w.heap.size (fun _ => True) (.slice (some ⟨go53, 0, none⟩) x6_6.length co54) y434 := (by rw [hw, Ny434.out]; exact HP55.1); clear HP55; replace BK418 := Aside0.mk (blk_grown (be_ BK418.out) hg (Kd.R_ne HO_6.out BK418.out (by decide))); replace BK419 := Aside0.mk (blk_grown (be_ BK419.out) hg (Kd.R_ne HO_6.out BK419.out (by decide))); replace HO_6 := Aside0.mk (hp_); replace HB := Aside0.mk ((by rw [hw]; exact below_set (HB.out) GB53.out : Below w.heap.size w w56)); clear hg hw hp_))
               go_roundg kj35
               case measure => have := HK1.out; have := HK2.out; have := HK3.out; have := HK4.out; have := HJ29.out; have := HK6.out; have := HJ35.out; omega
               case rel => exact ⟨(y434), (true), (wrap64 (x11_6 + 1)), rs_, rs_, H', ⟨by have := HK1.out; have := HK2.out; have := HK3.out; have := HK4.out; have := HJ29.out; have := HK6.out; have := HJ35.out; omega⟩, ⟨re_ HO_6.out⟩, ⟨be_ BK418.out⟩, ⟨be_ BK419.out⟩, ⟨bq_ HB⟩⟩
end Go.Proofs.Ytppkokbhgkeknaa.PA
end
