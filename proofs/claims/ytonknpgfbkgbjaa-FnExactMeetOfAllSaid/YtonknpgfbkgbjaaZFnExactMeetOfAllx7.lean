-- Bundled by shake.py from this session's printed and written texts; Lean checks it.
import Derived.Deep.RegionHeld3
import Derived.Ground.Names2Prog
import Derived.Ground.NamesProg
import Derived.KernelRfl
import Derived.Shelf.Abstract
import Derived.Shelf.Slices.CompactI
import Derived.Shelf.Slices.In.SortNone
import Derived.Shelf.Sort.Plain
import Derived.Sort.OwnSortedInts
import Derived.Test.YtonknpgfbkgbjaaProg
import Derived.Test.YtonknpgfbkgbjaaZFnExactMeetOfAllx1
import Derived.Test.YtonknpgfbkgbjaaZFnExactMeetOfAllx6
section
namespace Go.Proofs.Ytonknpgfbkgbjaa.PA
open Go.RowKit Go.Proofs.YtonknpgfbkgbjaaW.PrintWords Go.Proofs.YtonknpgfbkgbjaaW.PrintLast Go.Proofs.YtonknpgfbkgbjaaW.PrintMore
attribute [local go_sem] max2_int min2_int max_two min_two max_three min_three max_four min_four
set_option linter.unusedVariables false
set_option linter.unusedSimpArgs false
set_option maxHeartbeats 8000000
set_option maxRecDepth 100000
mutual
def impl_FromGaps.j0 : Nat → List Int → Bool → Option (List Int × Bool)
 | 0, _, _ => none
 | k + 1, x0, x23 => if x23 = true then (some (([] : List Int), false)) else (if 401 ≤ 281474976710656 then (impl_FromGaps.l0 k x0 (List.replicate 401 false) x0 (x0.length : Int) 0) else (none))
def impl_FromGaps.l0 : Nat → List Int → List Bool → List Int → Int → Int → Option (List Int × Bool)
 | 0, _, _, _, _, _ => none
 | k + 1, x0, x6, x26, x27, x28 => if x28 < x27 then (if 0 ≤ x28 then (if x28 < (x26.length : Int) then (if 0 ≤ (rd x26 x28) then (if (rd x26 x28) < (x6.length : Int) then (impl_FromGaps.l0 k x0 (x6.set ((rd x26 x28) : Int).toNat true) x26 x27 (wrap64 (x28 + 1))) else (none)) else (none)) else (none)) else (none)) else (impl_FromGaps.l1 k x0 x6 1 ([] : List Int))
def impl_FromGaps.l1 : Nat → List Int → List Bool → Int → List Int → Option (List Int × Bool)
 | 0, _, _, _, _ => none
 | k + 1, x0, x6, x10, x419000 => if x10 < (x6.length : Int) then (if 0 ≤ x10 then (impl_FromGaps.l2 k x0 x6 x10 (rdOf false x6 x10) 1 x419000) else (none)) else ((impl_IsSemigroup.f k x419000).bind fun t425 => (if t425 = true then ((impl_Gaps.f k x419000).bind fun t426 => ((slices_Equal_int_int.f k t426 x0).bind fun t429 => (if t429 = true then (some (x419000, true)) else (some (([] : List Int), false))))) else (some (([] : List Int), false))))
def impl_FromGaps.l2 : Nat → List Int → List Bool → Int → Bool → Int → List Int → Option (List Int × Bool)
 | 0, _, _, _, _, _, _ => none
 | k + 1, x0, x6, x10, x11, x12, x419000 => if (wrap64 (2 * x12)) ≤ x10 then (if x11 = true then (impl_FromGaps.l1 k x0 x6 (wrap64 (x10 + 1)) x419000) else (if 0 ≤ x12 then (if x12 < (x6.length : Int) then (if rdOf false x6 x12 = true then (impl_FromGaps.l2 k x0 x6 x10 false (wrap64 (x12 + 1)) x419000) else (if 0 ≤ (wrap64 (x10 - x12)) then (if (wrap64 (x10 - x12)) < (x6.length : Int) then (impl_FromGaps.l2 k x0 x6 x10 (!(rdOf false x6 (wrap64 (x10 - x12)))) (wrap64 (x12 + 1)) x419000) else (none)) else (none))) else (none)) else (none))) else (if x11 = true then (impl_FromGaps.l1 k x0 x6 (wrap64 (x10 + 1)) x419000) else (if x419000.length < 17592186044416 then (impl_FromGaps.l1 k x0 x6 (wrap64 (x10 + 1)) (x419000 ++ [x10])) else (none)))
end
def impl_FromGaps.f (k : Nat) (l0 : List Int) : Option (List Int × Bool) := (impl_GapClash.f k l0).bind fun bt408 => (if bt408.2.2 = true then (impl_FromGaps.j0 k l0 true) else ((impl_gapList.f k l0).bind fun t412 => (impl_FromGaps.j0 k l0 (!t412))))
theorem impl_FromGaps.calls (k : Nat) (A0 : Option Addr) (c0 : Nat) (l0 : List Int) (r1 : List Int) (r2 : Bool) (w : World) (hr0 : Kd.C (Kd.int .i64) w A0 l0.length l0) (hc0 : l0.length ≤ c0) (h : impl_FromGaps.f k l0 = some (r1, r2)) :
 Calls Try.prog 60 #[.slice A0 l0.length c0] w fun e w' => ∃ v0_ : Value, e = .returned (.tuple #[.agg #[v0_], .bool r2]) ∧ Kd.R (Kd.int .i64) 3 w' w.heap.size (fun _ => True) v0_ r1 ∧ Below w.heap.size w w' := by
 have hu26 := Try.underlying26
 have hu70 := Try.underlying70
 have HR0 := Aside0.mk hr0
 have HC0 := Aside0.mk hc0
 clear hr0 hc0
 have HB := Aside0.mk (Below.refl w.heap.size w)
 have H := h
 clear h
 unfold impl_FromGaps.f at H
 obtain ⟨⟨t408, t409, t410⟩, A2, H⟩ := ob_ H
 (try dsimp only at H)
 have HC3 := Aside0.mk H
 clear H
 go_enter Try.func60, Try.ntmps60
 go_upto_region 2 with (first | ((with_reducible refine gate_dst (N := 2) rfl ?_); refine bx_ 2 #[.slice none 0 0] 26 ?_; intro gb407 hg w4 hbox hb; have BK407 := Aside0.mk (hbox); have GW407 := gw_ hg HB; have GE407 := gw_ hg HB; replace HB := bo_ HB hb; clear hb hbox hg) | ((with_reducible refine gate_callee (f := 87) rfl ?_); refine gL_ (some 15) Try.func87 #[.slice A0 l0.length c0] ?_; (with_reducible refine (impl_GapClash.calls k _ _ l0 t408 t409 t410 _ ?side1 ?side2 A2.out).mono ?_); (case side1 => exact ch_ HR0 HB); (case side2 => exact HC0.out); rintro e w5 ⟨rfl, hb⟩; refine ⟨_, rfl, ?_⟩; replace BK407 := bk_ BK407 hb; replace HB := bp_ HB hb; (try clear hb)) | ((with_reducible refine gate_dst (N := 4) rfl ?_); refine bx_ 4 #[.int .i64 0, .int .i64 0] 70 ?_; intro gb411 hg w6 hbox hb; have BK411 := Aside0.mk (hbox); have GW411 := gq_ hg (bq_ HB); have GE411 := gq_ hg (bq_ HB); replace HB := bp_ HB hb; have NB407_411 := nl_ hg BK407; have NB411_407 := ng_ hg BK407; replace BK407 := bk_ BK407 hb; clear hb hbox hg; have hnb7 := NB411_407.out; have hnc7 := NB407_411.out; have hcz8_0 : w6.cell? ⟨gb411, 0, none⟩ = some (.int .i64 0) := (blk_cell BK411.out 0).trans rfl; have hcz8_1 : w6.cell? ⟨gb411, 1, none⟩ = some (.int .i64 0) := (blk_cell BK411.out 1).trans rfl; have hfz8_0 := blk_frozen BK411.out 0; have hfz8_1 := blk_frozen BK411.out 1))
 (try simp only [Act.put, z1_, z2_, z3_])
 go_cut [23] (fun v23 wc => ∃ (kq : Nat) (x23_2 : Bool), v23 = .bool x23_2 ∧ Aside0 (impl_FromGaps.j0 kq l0 x23_2 = some (r1, r2)) ∧ Aside0 (kq ≤ k) ∧ Aside0 (wc.heap[gb407]? = some (.cells #[(.slice none 0 0)] 26 (0, 0))) ∧ Aside0 (wc.heap[gb411]? = some (.cells #[.int .i64 t408, .int .i64 t409] 70 (0, 0))) ∧ Aside0 (Below w.heap.size w wc))
 case first =>
  have H := HC3.out
  clear HC3
  by_cases c9 : t410 = true
  · subst c9
    rw [if_pos rfl] at H
    have H' := Aside0.mk H
    clear H
    go_wp2
    go_meet
    case rel => exact ⟨_, (true), rs_, H', ⟨by first | omega | exact Nat.le_refl _⟩, ⟨ba_ BK407⟩, ⟨by (with_reducible repeat (first | refine blk_drewN ?_ _ | refine blk_drew ?_ | refine blk_alloc ?_ _)); refine blk_put (cs := #[.int .i64 t408, .int .i64 0]) ?_ 1 _ rfl; (with_reducible repeat (first | refine blk_drewN ?_ _ | refine blk_drew ?_ | refine blk_alloc ?_ _)); refine blk_put (cs := #[.int .i64 0, .int .i64 0]) ?_ 0 _ rfl; (with_reducible repeat (first | refine blk_drewN ?_ _ | refine blk_drew ?_ | refine blk_alloc ?_ _)); exact BK411.out⟩, ⟨bq_ HB⟩⟩
  replace c9 := Bool.eq_false_iff.mpr c9
  subst c9
  rw [if_neg (show ¬ (false = true) by decide)] at H
  obtain ⟨t412, A10, H⟩ := ob_ H
  have H' := Aside0.mk H
  clear H
  go_wp2_with (first | (go_at_call 88; (with_reducible refine (impl_gapList.calls k _ _ l0 t412 _ ?side1 ?side2 A10.out).mono ?_); (case side1 => exact Kd.C_below HR0.out (bq_ HB)); (case side2 => exact HC0.out); rintro e w' ⟨rfl, ⟨nd, rfl⟩⟩))
  go_meet
  case rel => exact ⟨_, (!t412), rs_, H', ⟨by first | omega | exact Nat.le_refl _⟩, ⟨ba_ BK407⟩, ⟨by (with_reducible repeat (first | refine blk_drewN ?_ _ | refine blk_drew ?_ | refine blk_alloc ?_ _)); refine blk_put (cs := #[.int .i64 t408, .int .i64 0]) ?_ 1 _ rfl; (with_reducible repeat (first | refine blk_drewN ?_ _ | refine blk_drew ?_ | refine blk_alloc ?_ _)); refine blk_put (cs := #[.int .i64 0, .int .i64 0]) ?_ 0 _ rfl; (with_reducible repeat (first | refine blk_drewN ?_ _ | refine blk_drew ?_ | refine blk_alloc ?_ _)); exact BK411.out⟩, ⟨bq_ HB⟩⟩
 case rest =>
  clear HC3
  try clear hcz8_0
  try clear hcz8_1
  try clear hfz8_0
  try clear hfz8_1
  obtain ⟨kq, x23_2, rfl, HA, HJ2, BK407, BK411, HB⟩ := hcut
  cases kq with
  | zero => exact absurd HA.out (by simp [impl_FromGaps.j0])
  | succ kj2 =>
   have H := HA.out
   clear HA
   simp only [impl_FromGaps.j0] at H
   by_cases c11 : x23_2 = true
   · subst c11
     rw [if_pos rfl] at H
     simp only [Option.some.injEq, Prod.mk.injEq] at H
     obtain ⟨rfl, rfl⟩ := H
     have hnb12 := NB407_411.out
     have hnc12 := NB411_407.out
     have hcz13_0 := cz_ BK407
     have hfz13_0 := blk_frozen BK407.out 0
     go_wp2
     refine bodyPost_ret (results_ct rfl _ _ gb407 26 #[.slice none 0 0] (0, 0) _ rfl (bz_ BK407) Try.underlying26 rfl (by kernel_rfl)) rfl ?_
     exact ⟨_, rf_, by first | exact Kd.R_nil _ _ _ _ _ | exact Kd.N_nil _ _ _ _ _ | exact Kd.V_nil _ _ _ _ _ | exact Kd.Q_nil _ _ _ _ _ | exact Kd.S_nil _ _ _ _ _, bq_ HB⟩
   replace c11 := Bool.eq_false_iff.mpr c11
   subst c11
   rw [if_neg (show ¬ (false = true) by decide)] at H
   obtain ⟨c14, H⟩ := ip_ H
   have c14b0 := eq_true c14
   have c14b1 : decide (401 ≤ 281474976710656) = true := decide_eq_true c14
   clear c14
   obtain ⟨y413, hy413⟩ : ∃ y_ : List Bool, y_ = (List.replicate 401 false) := ⟨_, rfl⟩
   replace H : (impl_FromGaps.l0 kj2 l0 y413 l0 (l0.length : Int) 0) = some (r1, r2) := by subst hy413; exact H
   have Ny413 := Aside0.mk hy413
   clear hy413
   have H' := Aside0.mk H
   clear H
   go_wp2_with (first | ((with_reducible refine gate_dst (N := 25) rfl ?_); refine Kd.R_make Kd.bool _ 4 rfl (N := 25) rfl 67 _ _ rfl 401 rfl rfl Try.underlying67 (.bool false) 1 info4 rfl (by decide) (by omega) false (ok := fun _ => True) (okp := fun _ => True) rfl (fun _ hk => hk) trivial (by omega) (by omega) (Below.refl _ _) (Nat.le_refl _) ?_; intro v414 w15 ho16 hb hg_ hnew_; clear hg_ hnew_; (first | rw [← Ny413.out] at ho16 | (simp only [Int.reduceToNat] at ho16; rw [← Ny413.out] at ho16)); have HO415 := Aside0.mk (Kd.R_lower ho16 (below_size (bq_ HB))); replace BK407 := bk_ BK407 hb; replace BK411 := bk_ BK411 hb; replace HB := bp_ HB hb; clear hb ho16))
   go_loopg [28] kj2 (fun kq v28 w' => ∃ (x6_2 : List Bool) (x28_2 : Int), v28 = .int .i64 x28_2 ∧ Aside0 (impl_FromGaps.l0 kq l0 x6_2 l0 (l0.length : Int) x28_2 = some (r1, r2)) ∧ Aside0 (kq ≤ kj2) ∧ Aside0 (Kd.R Kd.bool 4 w' w.heap.size (fun _ => True) v414 x6_2) ∧ Aside0 (w'.heap[gb407]? = some (.cells #[(.slice none 0 0)] 26 (0, 0))) ∧ Aside0 (w'.heap[gb411]? = some (.cells #[.int .i64 t408, .int .i64 t409] 70 (0, 0))) ∧ Aside0 (Below w.heap.size w w'))
   case atStart => exact ⟨(y413), (0), rs_, H', ⟨Nat.le_refl _⟩, ⟨re_ HO415.out⟩, ⟨be_ BK407.out⟩, ⟨be_ BK411.out⟩, ⟨bq_ HB⟩⟩
   case round =>
    clear H'
    try clear c14b0
    try clear c14b1
    obtain ⟨x6_2, x28_2, rfl, HA, HK2, HO_6, BK407, BK411, HB⟩ := hrel
    cases gk with
    | zero => exact absurd HA.out (by simp [impl_FromGaps.l0])
    | succ k2 =>
     have H := HA.out
     clear HA
     simp only [impl_FromGaps.l0] at H
     by_cases c17 : x28_2 < (l0.length : Int)
     · rw [if_pos c17] at H
       have c17b0 : decide (x28_2 < (l0.length : Int)) = true := decide_eq_true c17
       clear c17
       obtain ⟨c18b0, H⟩ := ipd_ H
       obtain ⟨c19b0, H⟩ := ipd_ H
       obtain ⟨c20b0, H⟩ := ipd_ H
       obtain ⟨c21b0, H⟩ := ipd_ H
       obtain ⟨y417, hy417⟩ : ∃ y_ : List Bool, y_ = (x6_2.set ((rd l0 x28_2) : Int).toNat true) := ⟨_, rfl⟩
       replace H : (impl_FromGaps.l0 k2 l0 y417 l0 (l0.length : Int) (wrap64 (x28_2 + 1))) = some (r1, r2) := by subst hy417; exact H
       have Ny417 := Aside0.mk hy417
       clear hy417
       have H' := Aside0.mk H
       clear H
       have p416 : 0 ≤ (x28_2 : Int) := od_
       have q416 : x28_2 < (l0.length : Int) := od_
       obtain ⟨ad416, e416, hx416_0⟩ := Kd.at_int HR0.out x28_2 p416 q416
       cases e416
       (try replace hx416_0 := (HB.out.cell (World.block_lt_of_cell? w _ hx416_0)).trans hx416_0)
       replace p416 := eq_true p416
       replace q416 := eq_true q416
       have p22 : 0 ≤ ((rd l0 x28_2) : Int) := od_
       have q22 : ((rd l0 x28_2) : Int) < ((x6_2.length : Int) : Int) := od_
       obtain ⟨go22, co22, eo22, gb22, gl22, cl22, HG22⟩ := Kd.R_form HO_6.out (by omega)
       (first | cases eo22 | (injection eo22 with ea_ en_ ec_; (first | subst ea_ | (injection ea_ with ea_; subst ea_)); subst ec_; clear en_))
       have GB22 := Aside0.mk gb22
       have GG22 := Aside0.mk HG22
       clear gb22 gl22 HG22
       obtain ⟨hx22_0, hf22_0⟩ := Kd.R_celln false HO_6.out ((rd l0 x28_2) : Int) p22 q22
       replace p22 := eq_true p22
       replace q22 := eq_true q22
       have HP23 := Kd.R_putg HO_6.out ((rd l0 x28_2) : Int) true
       go_wp2_with (first | ((with_reducible refine gate_store (t := 4) (p := 34) rfl ?_); refine store_event (t := 4) (p := 34) (v := ?vo_w24) (w1 := (wr.setCell ⟨go22, ((rd l0 x28_2) : Int).toNat, none⟩ (.bool true))) ?hg ?ho ?hn ?hr ?_; (case ho => rfl); (case hg => rfl); (case hn => rfl); (case hr => first | (go_simp; done) | (go_simp; rfl)); intro w24 hw; have hg : wr.grownBy w24 (some go22) := (by rw [hw]; exact HP23.2); have hp_ : Kd.R Kd.bool 4 w24 w.heap.size (fun _ => True) (.slice (some ⟨go22, 0, none⟩) x6_2.length co22) y417 := (by rw [hw, Ny417.out]; exact HP23.1); clear HP23; replace BK407 := Aside0.mk (blk_grown (be_ BK407.out) hg (Kd.R_ne HO_6.out BK407.out (by decide))); replace BK411 := Aside0.mk (blk_grown (be_ BK411.out) hg (Kd.R_ne HO_6.out BK411.out (by decide))); replace HO_6 := Aside0.mk (hp_); replace HB := Aside0.mk ((by rw [hw]; exact below_set (HB.out) GB22.out : Below w.heap.size w w24)); clear hg hw hp_))
       go_roundg k2
       case measure => have := HJ2.out; have := HK2.out; omega
       case rel => exact ⟨(y417), (wrap64 (x28_2 + 1)), rs_, H', ⟨by have := HJ2.out; have := HK2.out; omega⟩, ⟨re_ HO_6.out⟩, ⟨be_ BK407.out⟩, ⟨be_ BK411.out⟩, ⟨bq_ HB⟩⟩
     rw [if_neg c17] at H
     have c17b0 : decide (x28_2 < (l0.length : Int)) = false := decide_eq_false c17
     clear c17
     have H' := Aside0.mk H
     clear H
     go_wp2_with (first | ((with_reducible refine gate_dst (N := 9) rfl ?_); refine bx_ 9 #[.slice none 0 0] 26 ?_; intro gb418 hg w25 hbox hb; replace HO_6 := Aside0.mk (Kd.R_below (re_ HO_6.out) hb); have BK418 := Aside0.mk (hbox); have GW418 := gq_ hg (bq_ HB); have GE418 := gq_ hg (bq_ HB); replace HB := bp_ HB hb; have NB407_418 := nl_ hg BK407; have NB418_407 := ng_ hg BK407; replace BK407 := bk_ BK407 hb; have NB411_418 := nl_ hg BK411; have NB418_411 := ng_ hg BK411; replace BK411 := bk_ BK411 hb; clear hb hbox hg; have hnb26 := NB418_407.out; have hnc26 := NB407_418.out; have hnb27 := NB418_411.out; have hnc27 := NB411_418.out; have hcz28_0 := cz_ BK418; have hfz28_0 := blk_frozen BK418.out 0))
     go_loopg [10] k2 (fun kq v10 w' => ∃ (x10_3 : Int) (x419000_3 : List Int) (u419000 : Value), v10 = .int .i64 x10_3 ∧ Aside0 (impl_FromGaps.l1 kq l0 x6_2 x10_3 x419000_3 = some (r1, r2)) ∧ Aside0 (kq ≤ k2) ∧ Aside0 (Kd.R Kd.bool 4 w' w.heap.size (fun _ => True) v414 x6_2) ∧ Aside0 (Kd.R (Kd.int .i64) 3 w' w.heap.size (fun _ => True) u419000 x419000_3) ∧ Aside0 (w'.heap[gb407]? = some (.cells #[(.slice none 0 0)] 26 (0, 0))) ∧ Aside0 (w'.heap[gb411]? = some (.cells #[.int .i64 t408, .int .i64 t409] 70 (0, 0))) ∧ Aside0 (w'.heap[gb418]? = some (.cells #[u419000] 26 (0, 0))) ∧ Aside0 (Below w.heap.size w w'))
     case atStart => exact ⟨(1), (([] : List Int)), (.slice none 0 0), rs_, H', ⟨Nat.le_refl _⟩, ⟨by (with_reducible repeat (first | apply Kd.R_alloc | apply Kd.R_drewN | apply Kd.R_drew)); exact Kd.R_mono (Kd.R_far (p := ⟨gb418, 0, none⟩) (Kd.R_types HO_6.out BK418.out (by decide)) (fun _ hk => hk.2) (.slice none 0 0)) (fun _ hk => trivial)⟩, ⟨by first | exact Kd.R_nil _ _ _ _ _ | exact Kd.N_nil _ _ _ _ _ | exact Kd.V_nil _ _ _ _ _ | exact Kd.Q_nil _ _ _ _ _ | exact Kd.S_nil _ _ _ _ _⟩, ⟨ba_ BK407⟩, ⟨ba_ BK411⟩, ⟨bz_ BK418⟩, ⟨bq_ HB⟩⟩
     case round =>
      clear H'
      try clear c17b0
      try clear hcz28_0
      try clear hfz28_0
      obtain ⟨x10_3, x419000_3, u419000, rfl, HA, HK3, HO_6, HO_419000, BK407, BK411, BK418, HB⟩ := hrel
      cases gk with
      | zero => exact absurd HA.out (by simp [impl_FromGaps.l1])
      | succ k3 =>
       have H := HA.out
       clear HA
       simp only [impl_FromGaps.l1] at H
       by_cases c29 : x10_3 < (x6_2.length : Int)
       rotate_left
       · rw [if_neg c29] at H
         have c29b0 : decide (x10_3 < (x6_2.length : Int)) = false := decide_eq_false c29
         clear c29
         obtain ⟨t425, A49, H⟩ := ob_ H
         by_cases c50 : t425 = true
         rotate_left
         · replace c50 := Bool.eq_false_iff.mpr c50
           subst c50
           rw [if_neg (show ¬ (false = true) by decide)] at H
           simp only [Option.some.injEq, Prod.mk.injEq] at H
           obtain ⟨rfl, rfl⟩ := H
           obtain ⟨Ao77, co77, eo77⟩ := Kd.R_slice HO_6.out
           subst eo77
           have hnb78 := NB418_407.out
           have hnc78 := NB407_418.out
           have hnb79 := NB418_411.out
           have hnc79 := NB411_418.out
           have hcz80_0 := cz_ BK418
           have hfz80_0 := blk_frozen BK418.out 0
           obtain ⟨Ao81, co81, eo81⟩ := Kd.R_slice HO_419000.out
           subst eo81
           go_wp2_with (first | ((with_reducible refine gate_callee (f := 28) rfl ?_); refine gL_ (some 80) Try.func28 #[.agg #[.slice Ao81 x419000_3.length co81]] ?_; (with_reducible refine (impl_IsSemigroup.calls k3 _ _ x419000_3 false _ ?side1 ?side2 A49.out).mono ?_); (case side1 => exact ce_ ((Kd.R_reads' HO_419000.out).2.2)); (case side2 => exact (Kd.R_reads' HO_419000.out).2.1); rintro e w82 ⟨rfl, hb⟩; refine ⟨_, rfl, ?_⟩; replace HO_6 := Aside0.mk (Kd.R_below (re_ HO_6.out) hb); replace HO_419000 := Aside0.mk (Kd.R_below (re_ HO_419000.out) hb); replace BK407 := bk_ BK407 hb; replace BK411 := bk_ BK411 hb; replace BK418 := bk_ BK418 hb; replace HB := bp_ HB hb; (try clear hb); have hnb83 := NB407_411.out; have hnc83 := NB411_407.out; have hcz84_0 := cz_ BK407; have hfz84_0 := blk_frozen BK407.out 0))
           refine bodyPost_ret (results_ct rfl _ _ gb407 26 #[.slice none 0 0] (0, 0) _ rfl (bz_ BK407) Try.underlying26 rfl (by kernel_rfl)) rfl ?_
           exact ⟨_, rf_, by first | exact Kd.R_nil _ _ _ _ _ | exact Kd.N_nil _ _ _ _ _ | exact Kd.V_nil _ _ _ _ _ | exact Kd.Q_nil _ _ _ _ _ | exact Kd.S_nil _ _ _ _ _, bq_ HB⟩
         subst c50
         rw [if_pos rfl] at H
         obtain ⟨t426, A51, H⟩ := ob_ H
         obtain ⟨t429, A52, H⟩ := ob_ H
         by_cases c53 : t429 = true
         · subst c53
           rw [if_pos rfl] at H
           simp only [Option.some.injEq, Prod.mk.injEq] at H
           obtain ⟨rfl, rfl⟩ := H
           obtain ⟨Ao54, co54, eo54⟩ := Kd.R_slice HO_6.out
           subst eo54
           have hnb55 := NB418_407.out
           have hnc55 := NB407_418.out
           have hnb56 := NB418_411.out
           have hnc56 := NB411_418.out
           have hcz57_0 := cz_ BK418
           have hfz57_0 := blk_frozen BK418.out 0
           obtain ⟨Ao58, co58, eo58⟩ := Kd.R_slice HO_419000.out
           subst eo58
           go_wp2_with (first | ((with_reducible refine gate_callee (f := 28) rfl ?_); refine gL_ (some 80) Try.func28 #[.agg #[.slice Ao58 x419000_3.length co58]] ?_; (with_reducible refine (impl_IsSemigroup.calls k3 _ _ x419000_3 true _ ?side1 ?side2 A49.out).mono ?_); (case side1 => exact ce_ ((Kd.R_reads' HO_419000.out).2.2)); (case side2 => exact (Kd.R_reads' HO_419000.out).2.1); rintro e w59 ⟨rfl, hb⟩; refine ⟨_, rfl, ?_⟩; replace HO_6 := Aside0.mk (Kd.R_below (re_ HO_6.out) hb); replace HO_419000 := Aside0.mk (Kd.R_below (re_ HO_419000.out) hb); replace BK407 := bk_ BK407 hb; replace BK411 := bk_ BK411 hb; replace BK418 := bk_ BK418 hb; replace HB := bp_ HB hb; (try clear hb); have hcz60_0 := cz_ BK418; have hfz60_0 := blk_frozen BK418.out 0) | (go_at_call 62; (with_reducible refine (impl_Gaps.calls k3 _ _ x419000_3 t426 _ ?side1 ?side2 A51.out).mono ?_); (case side1 => exact ce_ ((Kd.R_reads' HO_419000.out).2.2)); (case side2 => exact (Kd.R_reads' HO_419000.out).2.1); rintro e w61 ⟨v427, rfl, ho0, hb⟩; replace HO_6 := Aside0.mk (Kd.R_below (re_ HO_6.out) hb); have HO428 := Aside0.mk (Kd.R_lower (Kd.R_new' ho0 (Kd.R_lt (re_ HO_419000.out))) (below_size (bq_ HB))); replace HO_419000 := Aside0.mk (Kd.R_elder' (re_ HO_419000.out) (Kd.R_base ho0) hb); replace BK407 := bk_ BK407 hb; replace BK411 := bk_ BK411 hb; replace BK418 := bk_ BK418 hb; replace HB := bp_ HB hb; (try clear hb); (try clear ho0); obtain ⟨Ao62, co62, eo62⟩ := Kd.R_slice HO428.out; subst eo62) | (go_at_call 89; (with_reducible refine (slices_Equal_int_int.calls k3 _ _ t426 _ _ l0 true _ ?side1 ?side2 ?side3 ?side4 A52.out).mono ?_); (case side1 => exact ce_ ((Kd.R_reads' HO428.out).2.2)); (case side2 => exact (Kd.R_reads' HO428.out).2.1); (case side3 => exact ch_ HR0 HB); (case side4 => exact HC0.out); rintro e w' ⟨rfl, ⟨nd, rfl⟩⟩; (try (rw [drewN_self w61]; generalize hq_ : World.drewN w61 _ = w61; have n0_ : Aside0 (Kd.R (Kd.int .i64) 3 w61 w.heap.size (fun k_ => some k_ ≠ (.slice Ao58 x419000_3.length co58 : Value).ownBlock) (.slice Ao62 t426.length co62) t426) := ⟨by rw [← hq_]; exact (by (with_reducible repeat (first | apply Kd.R_alloc | apply Kd.R_drewN | apply Kd.R_drew)); exact Kd.R_mono HO428.out (fun _ hk => hk.2))⟩; have n1_ : Aside0 (Kd.R (Kd.int .i64) 3 w61 w.heap.size (fun k_ => some k_ ≠ (.slice Ao62 t426.length co62 : Value).ownBlock) (.slice Ao58 x419000_3.length co58) x419000_3) := ⟨by rw [← hq_]; exact (by (with_reducible repeat (first | apply Kd.R_alloc | apply Kd.R_drewN | apply Kd.R_drew)); exact Kd.R_mono HO_419000.out (fun _ hk => hk.2))⟩; have n2_ : Aside0 (Kd.R Kd.bool 4 w61 w.heap.size (fun _ => True) (.slice Ao54 x6_2.length co54) x6_2) := ⟨by rw [← hq_]; exact (re_ HO_6.out)⟩; have n3_ : Aside0 (w61.heap[gb407]? = some (.cells #[.slice none 0 0] 26 (0, 0))) := ⟨by rw [← hq_]; exact (be_ BK407.out)⟩; have n4_ : Aside0 (w61.heap[gb411]? = some (.cells #[.int .i64 t408, .int .i64 t409] 70 (0, 0))) := ⟨by rw [← hq_]; exact (be_ BK411.out)⟩; have n5_ : Aside0 (w61.heap[gb418]? = some (.cells #[.slice Ao58 x419000_3.length co58] 26 (0, 0))) := ⟨by rw [← hq_]; exact (be_ BK418.out)⟩; have n6_ : Aside0 (Below w.heap.size w w61) := ⟨by rw [← hq_]; exact (bq_ HB)⟩; clear HO428 HO_419000 HO_6 BK407 BK411 BK418 HB hq_; have HO428 := n0_; have HO_419000 := n1_; have HO_6 := n2_; have BK407 := n3_; have BK411 := n4_; have BK418 := n5_; have HB := n6_; clear n0_ n1_ n2_ n3_ n4_ n5_ n6_)); have hcz63_0 := cz_ BK418; have hfz63_0 := blk_frozen BK418.out 0; have hnb64 := NB407_411.out; have hnc64 := NB411_407.out; have hcz65_0 := cz_ BK407; have hfz65_0 := blk_frozen BK407.out 0))
           refine bodyPost_ret (results_ct rfl _ _ gb407 26 #[.slice Ao58 x419000_3.length co58] (0, 0) _ rfl (bz_ BK407) Try.underlying26 rfl (by kernel_rfl)) rfl ?_
           exact ⟨_, rf_, by (with_reducible repeat (first | apply Kd.R_alloc | apply Kd.R_drewN | apply Kd.R_drew)); exact Kd.R_mono (Kd.R_far (p := ⟨gb407, 0, none⟩) (Kd.R_types HO_419000.out BK407.out (by decide)) (fun _ hk => hk.2) (.slice Ao58 x419000_3.length co58)) (fun _ hk => trivial), bq_ HB⟩
         replace c53 := Bool.eq_false_iff.mpr c53
         subst c53
         rw [if_neg (show ¬ (false = true) by decide)] at H
         simp only [Option.some.injEq, Prod.mk.injEq] at H
         obtain ⟨rfl, rfl⟩ := H
         obtain ⟨Ao66, co66, eo66⟩ := Kd.R_slice HO_6.out
         subst eo66
         have hnb67 := NB418_407.out
         have hnc67 := NB407_418.out
         have hnb68 := NB418_411.out
         have hnc68 := NB411_418.out
         have hcz69_0 := cz_ BK418
         have hfz69_0 := blk_frozen BK418.out 0
         obtain ⟨Ao70, co70, eo70⟩ := Kd.R_slice HO_419000.out
         subst eo70
         go_wp2_with (first | ((with_reducible refine gate_callee (f := 28) rfl ?_); refine gL_ (some 80) Try.func28 #[.agg #[.slice Ao70 x419000_3.length co70]] ?_; (with_reducible refine (impl_IsSemigroup.calls k3 _ _ x419000_3 true _ ?side1 ?side2 A49.out).mono ?_); (case side1 => exact ce_ ((Kd.R_reads' HO_419000.out).2.2)); (case side2 => exact (Kd.R_reads' HO_419000.out).2.1); rintro e w71 ⟨rfl, hb⟩; refine ⟨_, rfl, ?_⟩; replace HO_6 := Aside0.mk (Kd.R_below (re_ HO_6.out) hb); replace HO_419000 := Aside0.mk (Kd.R_below (re_ HO_419000.out) hb); replace BK407 := bk_ BK407 hb; replace BK411 := bk_ BK411 hb; replace BK418 := bk_ BK418 hb; replace HB := bp_ HB hb; (try clear hb); have hcz72_0 := cz_ BK418; have hfz72_0 := blk_frozen BK418.out 0) | (go_at_call 62; (with_reducible refine (impl_Gaps.calls k3 _ _ x419000_3 t426 _ ?side1 ?side2 A51.out).mono ?_); (case side1 => exact ce_ ((Kd.R_reads' HO_419000.out).2.2)); (case side2 => exact (Kd.R_reads' HO_419000.out).2.1); rintro e w73 ⟨v427, rfl, ho0, hb⟩; replace HO_6 := Aside0.mk (Kd.R_below (re_ HO_6.out) hb); have HO428 := Aside0.mk (Kd.R_lower (Kd.R_new' ho0 (Kd.R_lt (re_ HO_419000.out))) (below_size (bq_ HB))); replace HO_419000 := Aside0.mk (Kd.R_elder' (re_ HO_419000.out) (Kd.R_base ho0) hb); replace BK407 := bk_ BK407 hb; replace BK411 := bk_ BK411 hb; replace BK418 := bk_ BK418 hb; replace HB := bp_ HB hb; (try clear hb); (try clear ho0); obtain ⟨Ao74, co74, eo74⟩ := Kd.R_slice HO428.out; subst eo74) | (go_at_call 89; (with_reducible refine (slices_Equal_int_int.calls k3 _ _ t426 _ _ l0 false _ ?side1 ?side2 ?side3 ?side4 A52.out).mono ?_); (case side1 => exact ce_ ((Kd.R_reads' HO428.out).2.2)); (case side2 => exact (Kd.R_reads' HO428.out).2.1); (case side3 => exact ch_ HR0 HB); (case side4 => exact HC0.out); rintro e w' ⟨rfl, ⟨nd, rfl⟩⟩; (try (rw [drewN_self w73]; generalize hq_ : World.drewN w73 _ = w73; have n0_ : Aside0 (Kd.R (Kd.int .i64) 3 w73 w.heap.size (fun k_ => some k_ ≠ (.slice Ao70 x419000_3.length co70 : Value).ownBlock) (.slice Ao74 t426.length co74) t426) := ⟨by rw [← hq_]; exact (by (with_reducible repeat (first | apply Kd.R_alloc | apply Kd.R_drewN | apply Kd.R_drew)); exact Kd.R_mono HO428.out (fun _ hk => hk.2))⟩; have n1_ : Aside0 (Kd.R (Kd.int .i64) 3 w73 w.heap.size (fun k_ => some k_ ≠ (.slice Ao74 t426.length co74 : Value).ownBlock) (.slice Ao70 x419000_3.length co70) x419000_3) := ⟨by rw [← hq_]; exact (by (with_reducible repeat (first | apply Kd.R_alloc | apply Kd.R_drewN | apply Kd.R_drew)); exact Kd.R_mono HO_419000.out (fun _ hk => hk.2))⟩; have n2_ : Aside0 (Kd.R Kd.bool 4 w73 w.heap.size (fun _ => True) (.slice Ao66 x6_2.length co66) x6_2) := ⟨by rw [← hq_]; exact (re_ HO_6.out)⟩; have n3_ : Aside0 (w73.heap[gb407]? = some (.cells #[.slice none 0 0] 26 (0, 0))) := ⟨by rw [← hq_]; exact (be_ BK407.out)⟩; have n4_ : Aside0 (w73.heap[gb411]? = some (.cells #[.int .i64 t408, .int .i64 t409] 70 (0, 0))) := ⟨by rw [← hq_]; exact (be_ BK411.out)⟩; have n5_ : Aside0 (w73.heap[gb418]? = some (.cells #[.slice Ao70 x419000_3.length co70] 26 (0, 0))) := ⟨by rw [← hq_]; exact (be_ BK418.out)⟩; have n6_ : Aside0 (Below w.heap.size w w73) := ⟨by rw [← hq_]; exact (bq_ HB)⟩; clear HO428 HO_419000 HO_6 BK407 BK411 BK418 HB hq_; have HO428 := n0_; have HO_419000 := n1_; have HO_6 := n2_; have BK407 := n3_; have BK411 := n4_; have BK418 := n5_; have HB := n6_; clear n0_ n1_ n2_ n3_ n4_ n5_ n6_)); have hnb75 := NB407_411.out; have hnc75 := NB411_407.out; have hcz76_0 := cz_ BK407; have hfz76_0 := blk_frozen BK407.out 0))
         refine bodyPost_ret (results_ct rfl _ _ gb407 26 #[.slice none 0 0] (0, 0) _ rfl (bz_ BK407) Try.underlying26 rfl (by kernel_rfl)) rfl ?_
         exact ⟨_, rf_, by first | exact Kd.R_nil _ _ _ _ _ | exact Kd.N_nil _ _ _ _ _ | exact Kd.V_nil _ _ _ _ _ | exact Kd.Q_nil _ _ _ _ _ | exact Kd.S_nil _ _ _ _ _, bq_ HB⟩
       rw [if_pos c29] at H
       have c29b0 : decide (x10_3 < (x6_2.length : Int)) = true := decide_eq_true c29
       clear c29
       obtain ⟨c30b0, H⟩ := ipd_ H
       have H' := Aside0.mk H
       clear H
       obtain ⟨Ao31, co31, eo31⟩ := Kd.R_slice HO_6.out
       subst eo31
       have p419 : 0 ≤ (x10_3 : Int) := od_
       have q419 : x10_3 < (x6_2.length : Int) := od_
       obtain ⟨ad419, e419, hx419_0⟩ := Kd.at_bool (Kd.R_reads' HO_6.out).2.2 x10_3 p419 q419
       cases e419
       replace p419 := eq_true p419
       replace q419 := eq_true q419
       go_wp2
       go_loopg [11, 12] k3 (fun kq v11 v12 w' => ∃ (x11_4 : Bool) (x12_4 : Int), v11 = .bool x11_4 ∧ v12 = .int .i64 x12_4 ∧ Aside0 (impl_FromGaps.l2 kq l0 x6_2 x10_3 x11_4 x12_4 x419000_3 = some (r1, r2)) ∧ Aside0 (kq ≤ k3) ∧ Aside0 (Kd.R Kd.bool 4 w' w.heap.size (fun _ => True) (.slice (some ad419) x6_2.length co31) x6_2) ∧ Aside0 (Kd.R (Kd.int .i64) 3 w' w.heap.size (fun _ => True) u419000 x419000_3) ∧ Aside0 (w'.heap[gb407]? = some (.cells #[(.slice none 0 0)] 26 (0, 0))) ∧ Aside0 (w'.heap[gb411]? = some (.cells #[.int .i64 t408, .int .i64 t409] 70 (0, 0))) ∧ Aside0 (w'.heap[gb418]? = some (.cells #[u419000] 26 (0, 0))) ∧ Aside0 (Below w.heap.size w w'))
       case atStart => exact ⟨(rdOf false x6_2 x10_3), (1), rs_, rs_, H', ⟨Nat.le_refl _⟩, ⟨re_ HO_6.out⟩, ⟨re_ HO_419000.out⟩, ⟨be_ BK407.out⟩, ⟨be_ BK411.out⟩, ⟨be_ BK418.out⟩, ⟨bq_ HB⟩⟩
       case round =>
        clear H'
        try clear c29b0
        try clear c30b0
        try clear hx419_0
        try clear p419
        try clear q419
        obtain ⟨x11_4, x12_4, rfl, rfl, HA, HK4, HO_6, HO_419000, BK407, BK411, BK418, HB⟩ := hrel
        cases gk with
        | zero => exact absurd HA.out (by simp [impl_FromGaps.l2])
        | succ k4 =>
         have H := HA.out
         clear HA
         simp only [impl_FromGaps.l2] at H
         by_cases c32 : (wrap64 (2 * x12_4)) ≤ x10_3
         rotate_left
         · rw [if_neg c32] at H
           have c32b0 : decide ((wrap64 (2 * x12_4)) ≤ x10_3) = false := decide_eq_false c32
           clear c32
           by_cases c41 : x11_4 = true
           · subst c41
             rw [if_pos rfl] at H
             have H' := Aside0.mk H
             clear H
             go_wp2
             go_roundg k4
             case measure => have := HJ2.out; have := HK2.out; have := HK3.out; have := HK4.out; omega
             case rel => exact ⟨(wrap64 (x10_3 + 1)), (x419000_3), (u419000), rs_, H', ⟨by have := HJ2.out; have := HK2.out; have := HK3.out; have := HK4.out; omega⟩, ⟨re_ HO_6.out⟩, ⟨re_ HO_419000.out⟩, ⟨be_ BK407.out⟩, ⟨be_ BK411.out⟩, ⟨be_ BK418.out⟩, ⟨bq_ HB⟩⟩
           replace c41 := Bool.eq_false_iff.mpr c41
           subst c41
           rw [if_neg (show ¬ (false = true) by decide)] at H
           obtain ⟨c42, H⟩ := ip_ H
           have LMc42 := Aside0.mk c42
           clear c42
           obtain ⟨y422, hy422⟩ : ∃ y_ : List Int, y_ = (x419000_3 ++ [x10_3]) := ⟨_, rfl⟩
           replace H : (impl_FromGaps.l1 k4 l0 x6_2 (wrap64 (x10_3 + 1)) y422) = some (r1, r2) := by subst hy422; exact H
           have Ny422 := Aside0.mk hy422
           clear hy422
           have H' := Aside0.mk H
           clear H
           have hnb43 := NB418_407.out
           have hnc43 := NB407_418.out
           have hnb44 := NB418_411.out
           have hnc44 := NB411_418.out
           have hcz45_0 := cz_ BK418
           have hfz45_0 := blk_frozen BK418.out 0
           go_wp2_with (first | ((with_reducible refine gate_builtin (b := .append) (xs := #[.tmp 74, .tmp 76]) rfl ?_); at_builtin; refine Kd.R_append (Kd.int .i64) (w0 := w) w.heap.size rfl (.tmp 74) (.tmp 76) 24 3 (.int .i64 0) 8 rfl Try.underlying24 info3 rfl (by decide) (by omega) u419000 x419000_3 x10_3 [.int .i64 x10_3] (fun _ => True) (fun _ => False) rfl rfl ?aP (fun _ hk => hk.elim) ?aF ?aO ?aB ?aS ?aL ?_; (case aP => exact rfl); (case aB => exact (bq_ HB)); (case aF => exact (fun _ _ => trivial)); (case aO => exact (re_ HO_419000.out)); (case aS => exact (below_size (bq_ HB))); (case aL => have := LMc42.out; omega); intro v423 w46 ho hb hg hat; rw [← Ny422.out] at ho; replace HO_6 := Aside0.mk (Kd.R_over' (re_ HO_6.out) (Kd.R_typed (re_ HO_419000.out)) (by decide) hg); replace BK407 := Aside0.mk (blk_grown (be_ BK407.out) hg (Kd.R_ne HO_419000.out BK407.out (by decide))); replace BK411 := Aside0.mk (blk_grown (be_ BK411.out) hg (Kd.R_ne HO_419000.out BK411.out (by decide))); replace BK418 := Aside0.mk (blk_grown (be_ BK418.out) hg (Kd.R_ne HO_419000.out BK418.out (by decide))); replace HB := Aside0.mk (hb); have HO424 := Aside0.mk (ho); clear HO_419000; clear ho hb hg hat; obtain ⟨Ao47, co47, eo47⟩ := Kd.R_slice HO424.out; subst eo47; have hcz48_0 := cz_ BK418; have hfz48_0 := blk_frozen BK418.out 0))
           go_roundg k4
           case measure => have := HJ2.out; have := HK2.out; have := HK3.out; have := HK4.out; omega
           case rel => exact ⟨(wrap64 (x10_3 + 1)), (y422), (.slice Ao47 y422.length co47), rs_, H', ⟨by have := HJ2.out; have := HK2.out; have := HK3.out; have := HK4.out; omega⟩, ⟨by (with_reducible repeat (first | apply Kd.R_alloc | apply Kd.R_drewN | apply Kd.R_drew)); exact Kd.R_mono (Kd.R_far (p := ⟨gb418, 0, none⟩) (Kd.R_types HO_6.out BK418.out (by decide)) (fun _ hk => hk.2) (.slice Ao47 y422.length co47)) (fun _ hk => trivial)⟩, ⟨by (with_reducible repeat (first | apply Kd.R_alloc | apply Kd.R_drewN | apply Kd.R_drew)); exact Kd.R_mono (Kd.R_far (p := ⟨gb418, 0, none⟩) (Kd.R_types HO424.out BK418.out (by decide)) (fun _ hk => hk.2) (.slice Ao47 y422.length co47)) (fun _ hk => trivial)⟩, ⟨ba_ BK407⟩, ⟨ba_ BK411⟩, ⟨bz_ BK418⟩, ⟨bq_ HB⟩⟩
         rw [if_pos c32] at H
         have c32b0 : decide ((wrap64 (2 * x12_4)) ≤ x10_3) = true := decide_eq_true c32
         clear c32
         by_cases c33 : x11_4 = true
         · subst c33
           rw [if_pos rfl] at H
           have H' := Aside0.mk H
           clear H
           go_wp2
           go_roundg k4
           case measure => have := HJ2.out; have := HK2.out; have := HK3.out; have := HK4.out; omega
           case rel => exact ⟨(wrap64 (x10_3 + 1)), (x419000_3), (u419000), rs_, H', ⟨by have := HJ2.out; have := HK2.out; have := HK3.out; have := HK4.out; omega⟩, ⟨re_ HO_6.out⟩, ⟨re_ HO_419000.out⟩, ⟨be_ BK407.out⟩, ⟨be_ BK411.out⟩, ⟨be_ BK418.out⟩, ⟨bq_ HB⟩⟩
         replace c33 := Bool.eq_false_iff.mpr c33
         subst c33
         rw [if_neg (show ¬ (false = true) by decide)] at H
         obtain ⟨c34b0, H⟩ := ipd_ H
         obtain ⟨c35b0, H⟩ := ipd_ H
         obtain ⟨bq36, hbq36⟩ : ∃ b_ : Bool, b_ = (rdOf false x6_2 x12_4) := ⟨_, rfl⟩
         replace H : (if bq36 = true then (impl_FromGaps.l2 k4 l0 x6_2 x10_3 false (wrap64 (x12_4 + 1)) x419000_3) else (if 0 ≤ (wrap64 (x10_3 - x12_4)) then (if (wrap64 (x10_3 - x12_4)) < (x6_2.length : Int) then (impl_FromGaps.l2 k4 l0 x6_2 x10_3 (!(rdOf false x6_2 (wrap64 (x10_3 - x12_4)))) (wrap64 (x12_4 + 1)) x419000_3) else (none)) else (none))) = some (r1, r2) := by rw [← hbq36] at H; exact H
         have Nbq36 := Aside0.mk hbq36
         clear hbq36
         by_cases c37 : bq36 = true
         · subst c37
           rw [if_pos rfl] at H
           have H' := Aside0.mk H
           clear H
           have p420 : 0 ≤ (x12_4 : Int) := od_
           have q420 : x12_4 < (x6_2.length : Int) := od_
           obtain ⟨ad420, e420, hx420_0⟩ := Kd.at_bool (Kd.R_reads' HO_6.out).2.2 x12_4 p420 q420
           (try rw [← Nbq36.out] at hx420_0)
           obtain rfl : ad419 = ad420 := (by injection e420)
           replace p420 := eq_true p420
           replace q420 := eq_true q420
           go_wp2
           go_roundg k4
           case measure => have := HJ2.out; have := HK2.out; have := HK3.out; have := HK4.out; omega
           case rel => exact ⟨(false), (wrap64 (x12_4 + 1)), rs_, rs_, H', ⟨by have := HJ2.out; have := HK2.out; have := HK3.out; have := HK4.out; omega⟩, ⟨re_ HO_6.out⟩, ⟨re_ HO_419000.out⟩, ⟨be_ BK407.out⟩, ⟨be_ BK411.out⟩, ⟨be_ BK418.out⟩, ⟨bq_ HB⟩⟩
         replace c37 := Bool.eq_false_iff.mpr c37
         subst c37
         rw [if_neg (show ¬ (false = true) by decide)] at H
         obtain ⟨ji38, hji38⟩ : ∃ j_ : Int, (wrap64 (x10_3 - x12_4)) = j_ := ⟨_, rfl⟩
         replace H : (if 0 ≤ (ji38) then (if (ji38) < (x6_2.length : Int) then (impl_FromGaps.l2 k4 l0 x6_2 x10_3 (!(rdOf false x6_2 (ji38))) (wrap64 (x12_4 + 1)) x419000_3) else (none)) else (none)) = some (r1, r2) := by first | (rw [hji38] at H; exact H) | (simp only [hji38] at H ⊢; exact H)
         have hji38w : (IntKind.i64.wrap (x10_3 - x12_4)) = ji38 := (i64_w _).trans hji38
         obtain ⟨c39b0, H⟩ := ipd_ H
         obtain ⟨c40b0, H⟩ := ipd_ H
         have H' := Aside0.mk H
         clear H
         have p420 : 0 ≤ (x12_4 : Int) := od_
         have q420 : x12_4 < (x6_2.length : Int) := od_
         obtain ⟨ad420, e420, hx420_0⟩ := Kd.at_bool (Kd.R_reads' HO_6.out).2.2 x12_4 p420 q420
         (try rw [← Nbq36.out] at hx420_0)
         obtain rfl : ad419 = ad420 := (by injection e420)
         replace p420 := eq_true p420
         replace q420 := eq_true q420
         have p421 : 0 ≤ ((ji38) : Int) := od_
         have q421 : (ji38) < (x6_2.length : Int) := od_
         obtain ⟨ad421, e421, hx421_0⟩ := Kd.at_bool (Kd.R_reads' HO_6.out).2.2 (ji38) p421 q421
         (try rw [← Nbq36.out] at hx421_0)
         obtain rfl : ad419 = ad421 := (by injection e421)
         replace p421 := eq_true p421
         replace q421 := eq_true q421
         go_wp2
         go_roundg k4
         case measure => have := HJ2.out; have := HK2.out; have := HK3.out; have := HK4.out; omega
         case rel => exact ⟨(!(rdOf false x6_2 (ji38))), (wrap64 (x12_4 + 1)), (by first | rfl | (simp; done) | (simp only [← hji38] <;> (first | rfl | simp)) | (simp [*]; done)), rs_, H', ⟨by have := HJ2.out; have := HK2.out; have := HK3.out; have := HK4.out; omega⟩, ⟨re_ HO_6.out⟩, ⟨re_ HO_419000.out⟩, ⟨be_ BK407.out⟩, ⟨be_ BK411.out⟩, ⟨be_ BK418.out⟩, ⟨bq_ HB⟩⟩
end Go.Proofs.Ytonknpgfbkgbjaa.PA
end
section
namespace Go.Proofs
open Go.Shelf
def Try.lays189_ren : Go.Shelf.Ren := ⟨fun | 189 => 90 | 125 => 101 | 257 => 105 | 128 => 115 | 129 => 116 | 294 => 118 | 295 => 119 | 296 => 120 | 297 => 121 | 298 => 122 | 299 => 123 | 216 => 124 | 300 => 125 | 301 => 126 | 328 => 132 | 329 => 128 | 330 => 129 | 331 => 133 | 332 => 134 | 215 => 117 | 343 => 136 | n => n, fun | 28 => 24 | 3 => 3 | 46 => 79 | 0 => 0 | 51 => 90 | 53 => 92 | 4 => 4 | 183 => 83 | 182 => 82 | 131 => 87 | 5 => 5 | 9 => 9 | 218 => 98 | 222 => 102 | 228 => 106 | 229 => 107 | n => n, fun | n => n⟩
theorem Try.lays189 : Go.Proofs.Lays.n189 Try.prog Try.lays189_ren := {
 mixed := by kernel_rfl
 f125 := Try.func101.trans (congrArg some (by kernel_rfl))
 f128 := Try.func115.trans (congrArg some (by kernel_rfl))
 f129 := Try.func116.trans (congrArg some (by kernel_rfl))
 f189 := Try.func90.trans (congrArg some (by kernel_rfl))
 f215 := Try.func117.trans (congrArg some (by kernel_rfl))
 f216 := Try.func124.trans (congrArg some (by kernel_rfl))
 f257 := Try.func105.trans (congrArg some (by kernel_rfl))
 f294 := Try.func118.trans (congrArg some (by kernel_rfl))
 f295 := Try.func119.trans (congrArg some (by kernel_rfl))
 f296 := Try.func120.trans (congrArg some (by kernel_rfl))
 f297 := Try.func121.trans (congrArg some (by kernel_rfl))
 f298 := Try.func122.trans (congrArg some (by kernel_rfl))
 f299 := Try.func123.trans (congrArg some (by kernel_rfl))
 f300 := Try.func125.trans (congrArg some (by kernel_rfl))
 f301 := Try.func126.trans (congrArg some (by kernel_rfl))
 f328 := Try.func132.trans (congrArg some (by kernel_rfl))
 f329 := Try.func128.trans (congrArg some (by kernel_rfl))
 f330 := Try.func129.trans (congrArg some (by kernel_rfl))
 f331 := Try.func133.trans (congrArg some (by kernel_rfl))
 f332 := Try.func134.trans (congrArg some (by kernel_rfl))
 f343 := Try.func136.trans (congrArg some (by kernel_rfl))
 t0 := Try.underlying0
 a0 := Try.isAgg0
 z0 := Try.sizeOf0
 v0 := Try.zeroValue0
 t3 := Try.underlying3
 a3 := Try.isAgg3
 z3 := Try.sizeOf3
 v3 := Try.zeroValue3
 t4 := Try.underlying4
 a4 := Try.isAgg4
 z4 := Try.sizeOf4
 v4 := Try.zeroValue4
 t5 := Try.underlying5
 a5 := Try.isAgg5
 z5 := Try.sizeOf5
 v5 := Try.zeroValue5
 t9 := Try.underlying9
 a9 := Try.isAgg9
 z9 := Try.sizeOf9
 v9 := Try.zeroValue9
 t28 := Try.underlying24
 a28 := Try.isAgg24
 z28 := Try.sizeOf24
 v28 := Try.zeroValue24
 t46 := Try.underlying79
 a46 := Try.isAgg79
 z46 := Try.sizeOf79
 v46 := Try.zeroValue79
 t51 := Try.underlying90
 a51 := Try.isAgg90
 z51 := Try.sizeOf90
 v51 := Try.zeroValue90
 t53 := Try.underlying92
 a53 := Try.isAgg92
 z53 := Try.sizeOf92
 v53 := Try.zeroValue92
 t131 := Try.underlying87
 a131 := Try.isAgg87
 z131 := Try.sizeOf87
 v131 := Try.zeroValue87
 t182 := Try.underlying82
 a182 := Try.isAgg82
 z182 := Try.sizeOf82
 v182 := Try.zeroValue82
 t183 := Try.underlying83
 a183 := Try.isAgg83
 z183 := Try.sizeOf83
 v183 := Try.zeroValue83
 t218 := Try.underlying98
 a218 := Try.isAgg98
 z218 := Try.sizeOf98
 v218 := Try.zeroValue98
 t222 := Try.underlying102
 a222 := Try.isAgg102
 z222 := Try.sizeOf102
 v222 := Try.zeroValue102
 t228 := Try.underlying106
 a228 := Try.isAgg106
 z228 := Try.sizeOf106
 v228 := Try.zeroValue106
 t229 := Try.underlying107
 a229 := Try.isAgg107
 z229 := Try.sizeOf107
 v229 := Try.zeroValue107 }
def Try.lays20_ren : Go.Shelf.Ren := ⟨fun | 20 => 91 | n => n, fun | 22 => 24 | 3 => 3 | 4 => 4 | 0 => 0 | n => n, fun | n => n⟩
theorem Try.lays20 : Go.Proofs.Lays2.n20 Try.prog Try.lays20_ren := {
 mixed := by kernel_rfl
 f20 := Try.func91.trans (congrArg some (by kernel_rfl))
 t0 := Try.underlying0
 a0 := Try.isAgg0
 z0 := Try.sizeOf0
 v0 := Try.zeroValue0
 t3 := Try.underlying3
 a3 := Try.isAgg3
 z3 := Try.sizeOf3
 v3 := Try.zeroValue3
 t4 := Try.underlying4
 a4 := Try.isAgg4
 z4 := Try.sizeOf4
 v4 := Try.zeroValue4
 t22 := Try.underlying24
 a22 := Try.isAgg24
 z22 := Try.sizeOf24
 v22 := Try.zeroValue24
 i3 := by kernel_rfl }
end Go.Proofs
end
section
namespace Go.Proofs.Ytonknpgfbkgbjaa.PA
open Go.RowKit Go.Proofs.YtonknpgfbkgbjaaW.PrintWords Go.Proofs.YtonknpgfbkgbjaaW.PrintLast Go.Proofs.YtonknpgfbkgbjaaW.PrintMore
attribute [local go_sem] max2_int min2_int max_two min_two max_three min_three max_four min_four
set_option linter.unusedVariables false
set_option linter.unusedSimpArgs false
set_option maxHeartbeats 8000000
set_option maxRecDepth 100000
theorem grow_empty_ (w : World) : Go.Sort.grow w #[] = w := by unfold Go.Sort.grow; simp
theorem slices_Sort_.calls (base : Nat) (ok : Nat → Prop) (v : Value) (xs : List Int) (w : World) (h : Kd.R (Kd.int .i64) 3 w base ok v xs) (hs : xs.length < 4611686018427387904) :
 Calls Try.prog 90 #[v] w fun e w' => e = .returned (.tuple #[]) ∧ Kd.R (Kd.int .i64) 3 w' base ok v (xs.mergeSort fun x y => decide (x ≤ y)) ∧ ∀ w0 : World, base ≤ w.heap.size → Below base w0 w → Below base w0 w' := by
 have ho : w.ownsRow base 3 1 v xs.length (encs (Value.int .i64) xs) := Kd.own_of_R h
 have hok := h.1
 rcases ho.2 with ⟨rfl, h0⟩ | ⟨g, cap, cur, rfl, hg, hb, h1, h2, h3, h4⟩
 · obtain rfl := List.eq_nil_of_length_eq_zero h0
   refine (Any.slices_Sort_int_none Try.lays189 none 0 w).mono ?_
   rintro e w' ⟨rfl, rfl⟩
   exact ⟨rfl, by simpa using h, fun _ _ hb => hb⟩
 · have hH := holds_of_blockI (ss := xs) hb (by simpa [encs] using h4)
   have hlt : g < w.heap.size := (Array.getElem?_eq_some_iff.1 hb).1
   refine (Any.slices_Sort_int Try.lays189 g 0 cap xs w hH hlt hs).mono ?_
   rintro e w' ⟨rfl, n, os, rfl⟩
   have hl : (xs.mergeSort fun x y => decide (x ≤ y)).length = xs.length := List.length_mergeSort ..
   refine ⟨rfl, Kd.R_of_own ?_ hok, fun w0 hw hb0 => hb0.grown (grownBy_sortedI _) hw (fun k hk => by injection hk with hk; omega)⟩
   have := ownsRow_sortedI (base := base) (n := n) (os := os) (ts := xs.mergeSort fun x y => decide (x ≤ y)) hl hg hb h1 h2 h3
   rw [hl]
   exact this
theorem compact_len (xs : List Int) : (Lib.compact xs).length ≤ xs.length := by
 unfold Lib.compact Lib.compactUpTo
 rw [List.length_map]
 exact Nat.le_trans (List.length_filter_le ..) (by simp)
theorem slices_Compact_.calls (base : Nat) (ok : Nat → Prop) (v : Value) (xs : List Int) (w : World) (h : Kd.R (Kd.int .i64) 3 w base ok v xs) :
 Calls Try.prog 91 #[v] w fun e w' => ∃ u, e = .returned u ∧ Kd.R (Kd.int .i64) 3 w' base ok u (Lib.compact xs) ∧ ∀ w0 : World, base ≤ w.heap.size → Below base w0 w → Below base w0 w' := by
 have ho : w.ownsRow base 3 1 v xs.length (encs (Value.int .i64) xs) := Kd.own_of_R h
 have hok := h.1
 have cl := compact_len xs
 rcases ho.2 with ⟨rfl, h0⟩ | ⟨g, cap, cur, rfl, hg, hb, h1, h2, h3, h4⟩
 · obtain rfl := List.eq_nil_of_length_eq_zero h0
   refine (Any.slices_Compact_int_empty Try.lays20 none 0 w).mono ?_
   rintro e w' ⟨rfl, rfl⟩
   exact ⟨_, rfl, h, fun _ _ hb => hb⟩
 · have hH := holds_of_blockI (ss := xs) hb (by simpa [encs] using h4)
   refine (Any.slices_Compact_int Try.lays20 g 0 cap xs w hH (by simp only [maxLen] at h2; omega) h1).mono ?_
   rintro e w' ⟨rfl, q, rfl⟩
   have hl : (Lib.compact xs ++ List.replicate (xs.length - (Lib.compact xs).length) 0).length = xs.length := by rw [List.length_append, List.length_replicate]; omega
   have hg0 := grow_empty_ (Go.Sort.putRow (Value.int .i64) (Go.Sort.ahead w q) g 0 (Lib.compact xs ++ List.replicate (xs.length - (Lib.compact xs).length) 0).toArray)
   have own := ownsRow_sortedI (base := base) (n := q) (os := #[]) (ts := Lib.compact xs ++ List.replicate (xs.length - (Lib.compact xs).length) 0) hl hg hb h1 h2 h3
   have gb := grownBy_sortedI (w := w) (g := g) (n := q) (os := #[]) (Lib.compact xs ++ List.replicate (xs.length - (Lib.compact xs).length) 0).toArray
   rw [hg0] at own gb
   refine ⟨_, rfl, Kd.R_of_own ?_ (fun k hk => hok k (by simpa [Value.ownBlock] using hk)), fun w0 hw hb0 => hb0.grown gb hw (fun k hk => by injection hk with hk; omega)⟩
   rcases own.2 with ⟨hv, _⟩ | ⟨g', cap', cur', hv, hg', hb', _, _, h3', h4'⟩
   · cases hv
   · injection hv with hv1 hv2 hv3
     injection hv1 with hv1
     injection hv1 with hv1
     subst hv1 hv3
     refine ⟨by rw [encs_length]; omega, .inr ⟨g, cap, cur', rfl, hg, hb', by omega, h2, h3', ?_⟩⟩
     have := congrArg (List.take (Lib.compact xs).length) h4'
     rw [List.take_take, Nat.mul_one, Nat.min_eq_left cl] at this
     rw [Nat.mul_one, this, List.map_append, List.take_left' (by simp)]
     rfl
def impl_SortList.f (k : Nat) (l : List Int) : Option (List Int) := if l.length < 17592186044416 then some (Lib.compact (l.mergeSort fun x y => decide (x ≤ y))) else none
theorem impl_SortList.calls (k : Nat) (A0 : Option Addr) (c0 : Nat) (l0 : List Int) (r : List Int) (w : World) (hr0 : Kd.C (Kd.int .i64) w A0 l0.length l0) (hc0 : l0.length ≤ c0) (h : impl_SortList.f k l0 = some r) :
 Calls Try.prog 61 #[.slice A0 l0.length c0] w fun e w' => ∃ v0_, e = .returned v0_ ∧ Kd.R (Kd.int .i64) 3 w' w.heap.size (fun _ => True) v0_ r ∧ Below w.heap.size w w' := by
 unfold impl_SortList.f at h
 by_cases c : l0.length < 17592186044416
 rotate_left
 · rw [if_neg c] at h; cases h
 rw [if_pos c] at h
 obtain rfl := Option.some.inj h
 clear h
 have hl := Aside0.mk c
 clear c
 have HR0 := Aside0.mk hr0
 clear hr0
 have huT_ := Try.underlying24
 go_enter Try.func61, Try.ntmps61
 go_wp2_with (first
  | ((with_reducible refine gate_dst (N := 4) rfl ?_); refine Kd.R_lit (Kd.int .i64) _ 3 ?hg (N := 4) ?hd (xs := ([] : List Int)) (inner := []) (ok := fun _ => True) (okp := fun _ => True) ?hr ?hp (fun _ hk => hk) trivial (Below.refl _ _) (Nat.le_refl _) (by simp) ?_; (case hd => rfl); (case hg => rfl); (case hr => first | (go_simp; done) | (go_simp; rfl)); (case hp => exact (Reps.none _ _)); intro v1 w1 ho hb hg_ hnew_; clear hg_ hnew_; have HO1 := Aside0.mk ho; have HB1 := Aside0.mk hb; clear ho hb)
  | ((with_reducible refine gate_builtin (b := .append) (xs := #[.tmp 4, .tmp 5]) rfl ?_); at_builtin; refine Kd.R_append_rows (Kd.int .i64) (w0 := w) w.heap.size rfl (.tmp 4) (.tmp 5) 24 3 (.int .i64 0) 8 rfl Try.underlying24 info3 rfl (by decide) (by omega) v1 [] l0 _ _ _ (fun _ => True) (fun _ => False) rfl rfl ?aO ?aR (fun _ _ h => h) (fun _ h => h.elim) (fun _ _ => trivial) ?aB ?aS ?aL ?_; (case aO => exact HO1.out); (case aR => exact Kd.C_below HR0.out HB1.out); (case aB => exact HB1.out); (case aS => exact below_size HB1.out); (case aL => have := hl.out; simp only [List.length_nil]; omega); intro v2 w2 ho hb hg hat; clear hg hat; have HO2 := Aside0.mk ho; have HB2 := Aside0.mk hb; clear ho hb)
  | (go_at_call 90; refine (slices_Sort_.calls w.heap.size (fun _ => True) v2 l0 _ HO2.out (by have := hl.out; omega)).mono ?_; rintro e w3 ⟨rfl, ho, hb⟩; have HO3 := Aside0.mk ho; have HB3 := Aside0.mk (hb w (below_size HB2.out) HB2.out); clear ho hb)
  | (go_at_call 91; refine (slices_Compact_.calls w.heap.size (fun _ => True) v2 _ _ HO3.out).mono ?_; rintro e w4 ⟨v4, rfl, ho, hb⟩; have HO4 := Aside0.mk ho; have HB4 := Aside0.mk (hb w (below_size HB3.out) HB3.out); clear ho hb))
 go_ret
 exact ⟨_, rfl, HO4.out, HB4.out⟩
def impl_MeetOf.j0 : Nat → Bool → List Int → List Int → Option (List Int × Bool)
 | 0, _, _, _ => none
 | k + 1, x13, x612000, x613000 => if x13 = true then (some (([] : List Int), false)) else ((impl_Gaps.f k x612000).bind fun t616 => ((impl_Gaps.f k x613000).bind fun t619 => (if t616.length + t619.length < 17592186044416 then ((impl_SortList.f k (t616 ++ t619)).bind fun t625 => ((impl_FromGaps.f k t625).bind fun bt628 => (some (bt628.1, bt628.2)))) else (none))))
def impl_MeetOf.f (k : Nat) (l0_0 : List Int) (l1_0 : List Int) : Option (List Int × Bool) := (impl_IsSemigroup.f k l0_0).bind fun t614 => (if t614 = true then ((impl_IsSemigroup.f k l1_0).bind fun t615 => (impl_MeetOf.j0 k (!t615) l0_0 l1_0)) else (impl_MeetOf.j0 k true l0_0 l1_0))
def impl_MeetOf.T3 : Bool × List (List Nat × List Nat) := (true, [([], []), ([0], [0]), ([], []), ([2, 1], [2]), ([1, 3, 3], [1, 3]), ([4, 4], [4]), ([5, 5], [5]), ([6], [6]), ([6], [6]), ([7, 6, 0, 1, 2, 3, 4, 5, 6, 7, 8], [7]), ([8, 9, 0, 1, 2, 3, 4, 5, 6, 7, 8, 9], [8])])
def impl_MeetOf.B3 : List Nat := [0, 1, 0, 7, 15, 31, 63, 127, 127, 511, 1023]
theorem impl_MeetOf.tab3 : rtab .any (opsOf Try.f29 3) = impl_MeetOf.T3 := by kernel_rfl
theorem impl_MeetOf.bits3 : waitsOk impl_MeetOf.T3.2 impl_MeetOf.B3 = true := by kernel_rfl
theorem impl_MeetOf.calls (k : Nat) (A0_0 : Option Addr) (c0_0 : Nat) (l0_0 : List Int) (A1_0 : Option Addr) (c1_0 : Nat) (l1_0 : List Int) (r1 : List Int) (r2 : Bool) (w : World) (hr0_0 : Kd.C (Kd.int .i64) w A0_0 l0_0.length l0_0) (hc0_0 : l0_0.length ≤ c0_0) (hr1_0 : Kd.C (Kd.int .i64) w A1_0 l1_0.length l1_0) (hc1_0 : l1_0.length ≤ c1_0) (h : impl_MeetOf.f k l0_0 l1_0 = some (r1, r2)) :
 Calls Try.prog 29 #[.agg #[.slice A0_0 l0_0.length c0_0], .agg #[.slice A1_0 l1_0.length c1_0]] w fun e w' => ∃ v0_ : Value, e = .returned (.tuple #[.agg #[v0_], .bool r2]) ∧ Kd.R (Kd.int .i64) 3 w' w.heap.size (fun _ => True) v0_ r1 ∧ Below w.heap.size w w' := by
 have hu26 := Try.underlying26
 have HR0_0 := Aside0.mk hr0_0
 have HC0_0 := Aside0.mk hc0_0
 clear hr0_0 hc0_0
 have HR1_0 := Aside0.mk hr1_0
 have HC1_0 := Aside0.mk hc1_0
 clear hr1_0 hc1_0
 have HB := Aside0.mk (Below.refl w.heap.size w)
 have H := h
 clear h
 unfold impl_MeetOf.f at H
 have HC3 := Aside0.mk H
 clear H
 go_enter Try.func29, Try.ntmps29
 go_upto_region 1 with (first | ((with_reducible refine gate_dst (N := 2) rfl ?_); refine bx_ 2 #[.slice A0_0 l0_0.length c0_0] 26 ?_; intro gb611 hg w4 hbox hb; have BK611 := Aside0.mk (hbox); have GW611 := gw_ hg HB; have GE611 := gw_ hg HB; replace HB := bo_ HB hb; clear hb hbox hg) | ((with_reducible refine gate_dst (N := 3) rfl ?_); refine bx_ 3 #[.slice A1_0 l1_0.length c1_0] 26 ?_; intro gb612 hg w5 hbox hb; have BK612 := Aside0.mk (hbox); have GW612 := gq_ hg (bq_ HB); have GE612 := gq_ hg (bq_ HB); replace HB := bp_ HB hb; have NB611_612 := nl_ hg BK611; have NB612_611 := ng_ hg BK611; replace BK611 := bk_ BK611 hb; clear hb hbox hg) | ((with_reducible refine gate_dst (N := 4) rfl ?_); refine bx_ 4 #[.slice none 0 0] 26 ?_; intro gb613 hg w6 hbox hb; have BK613 := Aside0.mk (hbox); have GW613 := gq_ hg (bq_ HB); have GE613 := gq_ hg (bq_ HB); replace HB := bp_ HB hb; have NB611_613 := nl_ hg BK611; have NB613_611 := ng_ hg BK611; replace BK611 := bk_ BK611 hb; have NB612_613 := nl_ hg BK612; have NB613_612 := ng_ hg BK612; replace BK612 := bk_ BK612 hb; clear hb hbox hg))
 (try simp only [Act.put, z1_, z2_, z3_])
 go_cut [13] (fun v13 wc => ∃ (kq : Nat) (x13_2 : Bool), v13 = .bool x13_2 ∧ Aside0 (impl_MeetOf.j0 kq x13_2 l0_0 l1_0 = some (r1, r2)) ∧ Aside0 (kq ≤ k) ∧ Aside0 (wc.heap[gb611]? = some (.cells #[(.slice A0_0 l0_0.length c0_0)] 26 (0, 0))) ∧ Aside0 (wc.heap[gb612]? = some (.cells #[(.slice A1_0 l1_0.length c1_0)] 26 (0, 0))) ∧ Aside0 (wc.heap[gb613]? = some (.cells #[(.slice none 0 0)] 26 (0, 0))) ∧ Aside0 (Below w.heap.size w wc))
 case first =>
  have H := HC3.out
  clear HC3
  obtain ⟨t614, A7, H⟩ := ob_ H
  by_cases c8 : t614 = true
  rotate_left
  · replace c8 := Bool.eq_false_iff.mpr c8
    subst c8
    rw [if_neg (show ¬ (false = true) by decide)] at H
    have H' := Aside0.mk H
    clear H
    have hnb17 := NB611_612.out
    have hnc17 := NB612_611.out
    have hnb18 := NB611_613.out
    have hnc18 := NB613_611.out
    have hcz19_0 := cz_ BK611
    have hfz19_0 := blk_frozen BK611.out 0
    go_wp2_with (first | ((with_reducible refine gate_callee (f := 28) rfl ?_); refine gL_ (some 7) Try.func28 #[.agg #[.slice A0_0 l0_0.length c0_0]] ?_; (with_reducible refine (impl_IsSemigroup.calls k _ _ l0_0 false _ ?side1 ?side2 A7.out).mono ?_); (case side1 => exact ch_ HR0_0 HB); (case side2 => exact HC0_0.out); rintro e w20 ⟨rfl, hb⟩; refine ⟨_, rfl, ?_⟩; replace BK611 := bk_ BK611 hb; replace BK612 := bk_ BK612 hb; replace BK613 := bk_ BK613 hb; replace HB := bp_ HB hb; (try clear hb)))
    go_meet
    case rel => exact ⟨_, (true), rs_, H', ⟨by first | omega | exact Nat.le_refl _⟩, ⟨be_ BK611.out⟩, ⟨be_ BK612.out⟩, ⟨be_ BK613.out⟩, ⟨bq_ HB⟩⟩
  subst c8
  rw [if_pos rfl] at H
  obtain ⟨t615, A9, H⟩ := ob_ H
  have H' := Aside0.mk H
  clear H
  have hnb10 := NB611_612.out
  have hnc10 := NB612_611.out
  have hnb11 := NB611_613.out
  have hnc11 := NB613_611.out
  have hcz12_0 := cz_ BK611
  have hfz12_0 := blk_frozen BK611.out 0
  go_wp2_with (first | ((with_reducible refine gate_callee (f := 28) rfl ?_); refine gL_ (some 7) Try.func28 #[.agg #[.slice A0_0 l0_0.length c0_0]] ?_; (with_reducible refine (impl_IsSemigroup.calls k _ _ l0_0 true _ ?side1 ?side2 A7.out).mono ?_); (case side1 => exact ch_ HR0_0 HB); (case side2 => exact HC0_0.out); rintro e w13 ⟨rfl, hb⟩; refine ⟨_, rfl, ?_⟩; replace BK611 := bk_ BK611 hb; replace BK612 := bk_ BK612 hb; replace BK613 := bk_ BK613 hb; replace HB := bp_ HB hb; (try clear hb); have hnb14 := NB612_613.out; have hnc14 := NB613_612.out; have hcz15_0 := cz_ BK612; have hfz15_0 := blk_frozen BK612.out 0) | (go_at_call 28; (with_reducible refine (impl_IsSemigroup.calls k _ _ l1_0 t615 _ ?side1 ?side2 A9.out).mono ?_); (case side1 => exact ch_ HR1_0 HB); (case side2 => exact HC1_0.out); rintro e w16 ⟨rfl, hb⟩; replace BK611 := bk_ BK611 hb; replace BK612 := bk_ BK612 hb; replace BK613 := bk_ BK613 hb; replace HB := bp_ HB hb; (try clear hb)))
  go_meet
  case rel => exact ⟨_, (!t615), rs_, H', ⟨by first | omega | exact Nat.le_refl _⟩, ⟨be_ BK611.out⟩, ⟨be_ BK612.out⟩, ⟨be_ BK613.out⟩, ⟨bq_ HB⟩⟩
 case rest =>
  clear HC3
  obtain ⟨kq, x13_2, rfl, HA, HJ2, BK611, BK612, BK613, HB⟩ := hcut
  cases kq with
  | zero => exact absurd HA.out (by simp [impl_MeetOf.j0])
  | succ kj2 =>
   have H := HA.out
   clear HA
   simp only [impl_MeetOf.j0] at H
   by_cases c21 : x13_2 = true
   · subst c21
     rw [if_pos rfl] at H
     simp only [Option.some.injEq, Prod.mk.injEq] at H
     obtain ⟨rfl, rfl⟩ := H
     have hnb22 := NB613_611.out
     have hnc22 := NB611_613.out
     have hnb23 := NB613_612.out
     have hnc23 := NB612_613.out
     have hcz24_0 := cz_ BK613
     have hfz24_0 := blk_frozen BK613.out 0
     go_wp2
     refine bodyPost_ret (results_ct rfl _ _ gb613 26 #[.slice none 0 0] (0, 0) _ rfl (bz_ BK613) Try.underlying26 rfl (by kernel_rfl)) rfl ?_
     exact ⟨_, rf_, by first | exact Kd.R_nil _ _ _ _ _ | exact Kd.N_nil _ _ _ _ _ | exact Kd.V_nil _ _ _ _ _ | exact Kd.Q_nil _ _ _ _ _ | exact Kd.S_nil _ _ _ _ _, bq_ HB⟩
   replace c21 := Bool.eq_false_iff.mpr c21
   subst c21
   rw [if_neg (show ¬ (false = true) by decide)] at H
   obtain ⟨t616, A25, H⟩ := ob_ H
   obtain ⟨t619, A26, H⟩ := ob_ H
   obtain ⟨c27, H⟩ := ip_ H
   have LMc27 := Aside0.mk c27
   clear c27
   obtain ⟨y622, hy622⟩ : ∃ y_ : List Int, y_ = (t616 ++ t619) := ⟨_, rfl⟩
   replace H : ((impl_SortList.f kj2 y622).bind fun t625 => ((impl_FromGaps.f kj2 t625).bind fun bt628 => (some (bt628.1, bt628.2)))) = some (r1, r2) := by subst hy622; exact H
   have Ny622 := Aside0.mk hy622
   clear hy622
   obtain ⟨t625, A28, H⟩ := ob_ H
   obtain ⟨⟨t628, t631⟩, A29, H⟩ := ob_ H
   (try dsimp only at H)
   simp only [Option.some.injEq, Prod.mk.injEq] at H
   obtain ⟨rfl, rfl⟩ := H
   try go_wp2
   replace BK611 := Aside0.mk (blk_drew BK611.out)
   replace BK612 := Aside0.mk (blk_drew BK612.out)
   replace BK613 := Aside0.mk (blk_drew BK613.out)
   replace HB := Aside0.mk (below_drew1 HB.out)
   refine start_ (n := 11) (S := fun w' => w'.cell? ⟨gb611, 0, none⟩ = some (.slice A0_0 l0_0.length c0_0) ∧ w'.cell? ⟨gb612, 0, none⟩ = some (.slice A1_0 l1_0.length c1_0)) (ds := []) (B_ 0 11) (by kernel_rfl) rfl rfl ⟨(blk_cell BK611.out 0).trans rfl, (blk_cell BK612.out 0).trans rfl⟩ (fun hHeld => ?_); refine with_tabW impl_MeetOf.tab3 impl_MeetOf.bits3 (fun HT_ HW_ => ?_)
   generalize wc.drew = w30 at BK611 BK612 BK613 HB hHeld ⊢
   refine tk2_ HT_ HW_ hHeld 0 15 (B_ 1 11) ?_
   refine tk2_ HT_ HW_ hHeld 2 17 (B_ 5 11) ?_
   refine on_ HT_ 1 16 (B_ 7 11) (fun K hK => ?_)
   refine goes_ Try.func62 (by kernel_rfl) rfl #[.agg #[.slice A0_0 l0_0.length c0_0]] (by rfl) rfl rfl (by (try simp only [List.map_toArray, List.map_cons, List.map_nil]); first | done | rfl | (simp only [List.length_drop, List.length_take]; rfl)) ?_
   with_reducible refine (impl_Gaps.calls kj2 _ _ l0_0 t616 _ ?side1 ?side2 A25.out).mono ?_
   (case side1 => exact ch_ HR0_0 HB)
   (case side2 => exact HC0_0.out)
   rintro e w31 ⟨v617, rfl, ho0, hb⟩
   refine ⟨_, rfl, ?_⟩
   have HO618 := Aside0.mk (Kd.R_lower ho0 (below_size (bq_ HB)))
   replace BK611 := bk_ BK611 hb
   replace BK612 := bk_ BK612 hb
   replace BK613 := bk_ BK613 hb
   replace HB := bp_ HB hb
   (try clear hb)
   (try clear ho0)
   refine hK.out _ _ ⟨(blk_cell BK611.out 0).trans rfl, (blk_cell BK612.out 0).trans rfl⟩ (fun hHeld => ?_)
   clear hK K
   refine norm_ (a' := ?_) ?_ ?_
   rotate_left
   · show Act.put _ (some 16) _ = _
     simp only [Act.put, z1_, z2_, z3_, i64_w, i32_w]
     rfl
   refine on_ HT_ 3 18 (B_ 15 11) (fun K hK => ?_)
   refine goes_ Try.func62 (by kernel_rfl) rfl #[.agg #[.slice A1_0 l1_0.length c1_0]] (by rfl) rfl rfl (by (try simp only [List.map_toArray, List.map_cons, List.map_nil]); first | done | rfl | (simp only [List.length_drop, List.length_take]; rfl)) ?_
   with_reducible refine (impl_Gaps.calls kj2 _ _ l1_0 t619 _ ?side1 ?side2 A26.out).mono ?_
   (case side1 => exact ch_ HR1_0 HB)
   (case side2 => exact HC1_0.out)
   rintro e w32 ⟨v620, rfl, ho0, hb⟩
   refine ⟨_, rfl, ?_⟩
   have HO621 := Aside0.mk (Kd.R_lower (Kd.R_new' ho0 (Kd.R_lt (re_ HO618.out))) (below_size (bq_ HB)))
   replace HO618 := Aside0.mk (Kd.R_elder' (re_ HO618.out) (Kd.R_base ho0) hb)
   replace BK611 := bk_ BK611 hb
   replace BK612 := bk_ BK612 hb
   replace BK613 := bk_ BK613 hb
   replace HB := bp_ HB hb
   (try clear hb)
   (try clear ho0)
   obtain ⟨Ao34, co34, eo34⟩ := Kd.R_slice HO621.out
   (first | subst eo34 | (injection eo34 with f1_ f2_ f3_; have f4_ := f1_.symm; have f5_ := f3_.symm; clear f1_ f2_ f3_; subst f4_; subst f5_))
   refine hK.out _ _ ⟨(blk_cell BK611.out 0).trans rfl, (blk_cell BK612.out 0).trans rfl⟩ (fun hHeld => ?_)
   clear hK K
   refine norm_ (a' := ?_) ?_ ?_
   rotate_left
   · show Act.put _ (some 18) _ = _
     simp only [Act.put, z1_, z2_, z3_, i64_w, i32_w]
     rfl
   refine on_ HT_ 4 19 (B_ 31 11) (fun K hK => ?_)
   refine Kd.R_append_rows_step (Kd.int .i64) (w0 := w) w.heap.size (by rfl) (.tmp 16) (.tmp 18) 24 3 (.int .i64 0) 8 rfl Try.underlying24 info3 rfl (by decide) (by omega) v617 t616 t619 _ _ _ (fun k_ => some k_ ≠ (.slice Ao34 t619.length co34 : Value).ownBlock) (fun _ => False) rfl rfl ?aO ?aR (fun _ _ h => h) (fun _ h => h.elim) ?aF ?aB ?aS ?aL ?_
   (case aR => exact ce_ ((Kd.R_reads' HO621.out).2.2))
   (case aB => exact (bq_ HB))
   (case aF => exact (fun k_ hk => Kd.fresh' (Kd.R_lt (re_ HO621.out)) k_ hk))
   (case aO => exact (by (with_reducible repeat (first | apply Kd.R_alloc | apply Kd.R_drewN | apply Kd.R_drew)); exact Kd.R_mono HO618.out (fun _ hk => hk.2)))
   (case aS => exact (below_size (bq_ HB)))
   (case aL => have := LMc27.out; omega)
   intro v623 w33 ho hb hg hat
   rw [← Ny622.out] at ho
   replace BK611 := Aside0.mk (blk_grown (be_ BK611.out) hg (Kd.R_ne HO618.out BK611.out (by decide)))
   replace BK612 := Aside0.mk (blk_grown (be_ BK612.out) hg (Kd.R_ne HO618.out BK612.out (by decide)))
   replace BK613 := Aside0.mk (blk_grown (be_ BK613.out) hg (Kd.R_ne HO618.out BK613.out (by decide)))
   replace HO621 := Aside0.mk (Kd.R_after (ok := (fun _ => True)) (re_ HO621.out) hg hat)
   replace HB := Aside0.mk (hb)
   have HO624 := Aside0.mk (ho)
   clear HO618
   clear ho hb hg hat
   obtain ⟨Ao35, co35, eo35⟩ := Kd.R_slice HO624.out
   (first | subst eo35 | (injection eo35 with f1_ f2_ f3_; have f4_ := f1_.symm; have f5_ := f3_.symm; clear f1_ f2_ f3_; subst f4_; subst f5_))
   refine hK.out _ _ ⟨(blk_cell BK611.out 0).trans rfl, (blk_cell BK612.out 0).trans rfl⟩ (fun hHeld => ?_)
   clear hK K
   refine norm_ (a' := ?_) ?_ ?_
   rotate_left
   · show Act.put _ (some 19) _ = _
     simp only [Act.put, z1_, z2_, z3_, i64_w, i32_w]
     rfl
   refine on_ HT_ 5 20 (B_ 63 11) (fun K hK => ?_)
   refine goes_ Try.func61 (by kernel_rfl) rfl #[.slice Ao35 y622.length co35] (by rfl) rfl rfl (by (try simp only [List.map_toArray, List.map_cons, List.map_nil]); first | done | rfl | (simp only [List.length_drop, List.length_take]; rfl)) ?_
   with_reducible refine (impl_SortList.calls kj2 _ _ y622 t625 _ ?side1 ?side2 A28.out).mono ?_
   (case side1 => exact ce_ ((Kd.R_reads' HO624.out).2.2))
   (case side2 => exact (Kd.R_reads' HO624.out).2.1)
   rintro e w36 ⟨v626, rfl, ho0, hb⟩
   refine ⟨_, rfl, ?_⟩
   have HO627 := Aside0.mk (Kd.R_lower (Kd.R_new' (Kd.R_new' ho0 (Kd.R_lt (re_ HO621.out))) (Kd.R_lt (re_ HO624.out))) (below_size (bq_ HB)))
   replace HO621 := Aside0.mk (Kd.R_elder' (re_ HO621.out) (Kd.R_base ho0) hb)
   replace HO624 := Aside0.mk (Kd.R_elder' (re_ HO624.out) (Kd.R_base ho0) hb)
   replace BK611 := bk_ BK611 hb
   replace BK612 := bk_ BK612 hb
   replace BK613 := bk_ BK613 hb
   replace HB := bp_ HB hb
   (try clear hb)
   (try clear ho0)
   obtain ⟨Ao37, co37, eo37⟩ := Kd.R_slice HO627.out
   (first | subst eo37 | (injection eo37 with f1_ f2_ f3_; have f4_ := f1_.symm; have f5_ := f3_.symm; clear f1_ f2_ f3_; subst f4_; subst f5_))
   refine hK.out _ _ ⟨(blk_cell BK611.out 0).trans rfl, (blk_cell BK612.out 0).trans rfl⟩ (fun hHeld => ?_)
   clear hK K
   refine norm_ (a' := ?_) ?_ ?_
   rotate_left
   · show Act.put _ (some 20) _ = _
     simp only [Act.put, z1_, z2_, z3_, i64_w, i32_w]
     rfl
   refine on_ HT_ 6 21 (B_ 127 11) (fun K hK => ?_)
   refine goes_ Try.func60 (by kernel_rfl) rfl #[.slice Ao37 t625.length co37] (by rfl) rfl rfl (by (try simp only [List.map_toArray, List.map_cons, List.map_nil]); first | done | rfl | (simp only [List.length_drop, List.length_take]; rfl)) ?_
   with_reducible refine (impl_FromGaps.calls kj2 _ _ t625 t628 t631 _ ?side1 ?side2 A29.out).mono ?_
   (case side1 => exact ce_ ((Kd.R_reads' HO627.out).2.2))
   (case side2 => exact (Kd.R_reads' HO627.out).2.1)
   rintro e w38 ⟨v629, rfl, ho0, hb⟩
   refine ⟨_, rfl, ?_⟩
   have HO630 := Aside0.mk (Kd.R_lower (Kd.R_new' (Kd.R_new' (Kd.R_new' ho0 (Kd.R_lt (re_ HO621.out))) (Kd.R_lt (re_ HO624.out))) (Kd.R_lt (re_ HO627.out))) (below_size (bq_ HB)))
   replace HO621 := Aside0.mk (Kd.R_elder' (re_ HO621.out) (Kd.R_base ho0) hb)
   replace HO624 := Aside0.mk (Kd.R_elder' (re_ HO624.out) (Kd.R_base ho0) hb)
   replace HO627 := Aside0.mk (Kd.R_elder' (re_ HO627.out) (Kd.R_base ho0) hb)
   replace BK611 := bk_ BK611 hb
   replace BK612 := bk_ BK612 hb
   replace BK613 := bk_ BK613 hb
   replace HB := bp_ HB hb
   (try clear hb)
   (try clear ho0)
   obtain ⟨Ao39, co39, eo39⟩ := Kd.R_slice HO630.out
   (first | subst eo39 | (injection eo39 with f1_ f2_ f3_; have f4_ := f1_.symm; have f5_ := f3_.symm; clear f1_ f2_ f3_; subst f4_; subst f5_))
   refine hK.out _ _ ⟨(blk_cell BK611.out 0).trans rfl, (blk_cell BK612.out 0).trans rfl⟩ (fun hHeld => ?_)
   clear hK K
   refine norm_ (a' := ?_) ?_ ?_
   rotate_left
   · show Act.put _ (some 21) _ = _
     simp only [Act.put, z1_, z2_, z3_, i64_w, i32_w]
     rfl
   refine pu_ HT_ 7 22 (B_ 255 11) ?_
   refine pu_ HT_ 8 23 (B_ 511 11) ?_
   refine one_ (i := 9) (N := none) (B_ 1023 11) rfl rfl (one_of HT_.out (by kernel_rfl)) (by decide) (fun K hK => ?_)
   have hs40 : w38.cell? ⟨gb613, 0, none⟩ = some (.slice none 0 0) := (blk_cell BK613.out 0).trans rfl
   have hfs40 := blk_frozen BK613.out 0
   have hns40_0 := NB611_613.out
   have hns40_1 := NB612_613.out
   have hms40_0 := NB613_611.out
   have hms40_1 := NB613_612.out
   refine skip_ (w1 := ?_) (by rfl) rfl ?_ ?_
   rotate_left
   · go_simp
     rfl
   refine hK.out _ _ ⟨((cell_far (p := ⟨gb613, _, none⟩) NB611_613.out _).trans (hHeld.1)), ((cell_far (p := ⟨gb613, _, none⟩) NB612_613.out _).trans (hHeld.2))⟩ (fun hHeld => ?_)
   clear hK K
   refine pu_ HT_ 10 5 (B_ 2047 11) ?_
   refine done_ (done_of HT_.out (by kernel_rfl)) ?_
   try go_wp2
   refine bodyPost_ret (results_ct rfl _ _ gb613 26 #[.slice Ao39 t628.length co39] (0, 0) _ rfl (bz_ BK613) Try.underlying26 rfl (by kernel_rfl)) rfl ?_
   exact ⟨_, rf_, by (with_reducible repeat (first | apply Kd.R_alloc | apply Kd.R_drewN | apply Kd.R_drew)); exact Kd.R_mono (Kd.R_far (p := ⟨gb613, 0, none⟩) (Kd.R_types HO630.out BK613.out (by decide)) (fun _ hk => hk.2) (.slice Ao39 t628.length co39)) (fun _ hk => trivial), bq_ HB⟩
mutual
def impl_MeetOfAll.l0 : Nat → List (S26) → List (S26) → Int → Int → Option (List Int × Bool)
 | 0, _, _, _, _ => none
 | k + 1, x0, x11, x12, x13 => if x13 < x12 then (if 0 ≤ x13 then (if x13 < (x11.length : Int) then ((impl_IsSemigroup.f k ((rd_T26 x11 x13).f0)).bind fun t635 => (if t635 = true then (impl_MeetOfAll.l0 k x0 x11 x12 (wrap64 (x13 + 1))) else (some (([] : List Int), false)))) else (none)) else (none)) else (if (x0.length : Int) = 0 then (some (([] : List Int), false)) else ((some (([] : List Int) : List Int)).bind fun y636 => (if 0 < (x0.length : Int) then (if y636.length + ((rd_T26 x0 0).f0).length < 17592186044416 then (if 1 ≤ (x0.length : Int) then ((some (x0.drop 1 : List (S26))).bind fun y644 => (impl_MeetOfAll.l1 k y644 (y644.length : Int) 0 (y636 ++ ((rd_T26 x0 0).f0)))) else (none)) else (none)) else (none))))
def impl_MeetOfAll.l1 : Nat → List (S26) → Int → Int → List Int → Option (List Int × Bool)
 | 0, _, _, _, _ => none
 | k + 1, x34, x35, x36, x644000 => if x36 < x35 then (if 0 ≤ x36 then (if x36 < (x34.length : Int) then ((impl_MeetOf.f k x644000 ((rd_T26 x34 x36).f0)).bind fun bt650 => (if bt650.2 = true then (impl_MeetOfAll.l1 k x34 x35 (wrap64 (x36 + 1)) bt650.1) else (some (([] : List Int), false)))) else (none)) else (none)) else (some (x644000, true))
end
def impl_MeetOfAll.f (k : Nat) (l0 : List (S26)) : Option (List Int × Bool) := impl_MeetOfAll.l0 k l0 l0 (l0.length : Int) 0
theorem impl_MeetOfAll.calls (k : Nat) (A0 : Option Addr) (c0 : Nat) (l0 : List (S26)) (r1 : List Int) (r2 : Bool) (w : World) (hr0 : Kd.C k26 w A0 l0.length l0) (hc0 : l0.length ≤ c0) (h : impl_MeetOfAll.f k l0 = some (r1, r2)) :
 Calls Try.prog 10 #[.slice A0 l0.length c0] w fun e w' => ∃ v0_ : Value, e = .returned (.tuple #[.agg #[v0_], .bool r2]) ∧ Kd.R (Kd.int .i64) 3 w' w.heap.size (fun _ => True) v0_ r1 ∧ Below w.heap.size w w' := by
 have hu26 := Try.underlying26
 have HR0 := Aside0.mk hr0
 have HC0 := Aside0.mk hc0
 clear hr0 hc0
 have HB := Aside0.mk (Below.refl w.heap.size w)
 have H := h
 clear h
 unfold impl_MeetOfAll.f at H
 have H' := Aside0.mk H
 clear H
 go_enter Try.func10, Try.ntmps10
 go_wp2_with (first | ((with_reducible refine gate_dst (N := 2) rfl ?_); refine bx_ 2 #[.slice none 0 0] 26 ?_; intro gb632 hg w2 hbox hb; have BK632 := Aside0.mk (hbox); have GW632 := gw_ hg HB; have GE632 := gw_ hg HB; replace HB := bo_ HB hb; clear hb hbox hg))
 go_loopg [13] k (fun kq v13 w' => ∃ (x13_1 : Int), v13 = .int .i64 x13_1 ∧ Aside0 (impl_MeetOfAll.l0 kq l0 l0 (l0.length : Int) x13_1 = some (r1, r2)) ∧ Aside0 (kq ≤ k) ∧ Aside0 (w'.heap[gb632]? = some (.cells #[(.slice none 0 0)] 26 (0, 0))) ∧ Aside0 (Below w.heap.size w w'))
 case atStart => exact ⟨(0), rs_, H', ⟨Nat.le_refl _⟩, ⟨be_ BK632.out⟩, ⟨bq_ HB⟩⟩
 case round =>
  clear H'
  obtain ⟨x13_1, rfl, HA, HK1, BK632, HB⟩ := hrel
  cases gk with
  | zero => exact absurd HA.out (by simp [impl_MeetOfAll.l0])
  | succ k1 =>
   have H := HA.out
   clear HA
   simp only [impl_MeetOfAll.l0] at H
   by_cases c3 : x13_1 < (l0.length : Int)
   · rw [if_pos c3] at H
     have c3b0 : decide (x13_1 < (l0.length : Int)) = true := decide_eq_true c3
     clear c3
     obtain ⟨c4b0, H⟩ := ipd_ H
     obtain ⟨c5b0, H⟩ := ipd_ H
     obtain ⟨t635, A6, H⟩ := ob_ H
     by_cases c7 : t635 = true
     rotate_left
     · replace c7 := Bool.eq_false_iff.mpr c7
       subst c7
       rw [if_neg (show ¬ (false = true) by decide)] at H
       simp only [Option.some.injEq, Prod.mk.injEq] at H
       obtain ⟨rfl, rfl⟩ := H
       have p633 : 0 ≤ (x13_1 : Int) := od_
       have q633 : x13_1 < (l0.length : Int) := od_
       obtain ⟨ad633, A633_0, c633_0, e633, hx633_0, hl633_0, hi633_0⟩ := at_T26 HR0.out x13_1 p633 q633
       cases e633
       (try replace hx633_0 := (HB.out.cell (World.block_lt_of_cell? w _ hx633_0)).trans hx633_0)
       have HR633_0 := Aside0.mk hi633_0
       have HC633_0 := Aside0.mk hl633_0
       clear hi633_0 hl633_0
       replace p633 := eq_true p633
       replace q633 := eq_true q633
       go_wp2_with (first | ((with_reducible refine gate_dst (N := 5) rfl ?_); refine bx_ 5 #[.slice none 0 0] 26 ?_; intro gb634 hg w12 hbox hb; have BK634 := Aside0.mk (hbox); have GW634 := gq_ hg (bq_ HB); have GE634 := gq_ hg (bq_ HB); replace HB := bp_ HB hb; have NB632_634 := nl_ hg BK632; have NB634_632 := ng_ hg BK632; replace BK632 := bk_ BK632 hb; clear hb hbox hg; have hnb13 := NB634_632.out; have hnc13 := NB632_634.out; have hcz14_0 := cz_ BK634; have hfz14_0 := blk_frozen BK634.out 0) | ((with_reducible refine gate_callee (f := 28) rfl ?_); refine gL_ (some 18) Try.func28 #[.agg #[.slice A633_0 ((rd_T26 l0 x13_1).f0).length c633_0]] ?_; (with_reducible refine (impl_IsSemigroup.calls k1 _ _ ((rd_T26 l0 x13_1).f0) false _ ?side1 ?side2 A6.out).mono ?_); (case side1 => exact Kd.C_below HR633_0.out (bq_ HB)); (case side2 => exact HC633_0.out); rintro e w15 ⟨rfl, hb⟩; refine ⟨_, rfl, ?_⟩; replace BK632 := Aside0.mk (blk_below (g := gb632) (o := .cells #[.slice none 0 0] 26 (0, 0)) (ba_ BK632) hb); replace BK634 := Aside0.mk (blk_below (g := gb634) (o := .cells #[.slice A633_0 ((rd_T26 l0 x13_1).f0).length c633_0] 26 (0, 0)) (bz_ BK634) hb); replace HB := bp_ HB hb; (try clear hb); have hcz16_0 := cz_ BK632; have hfz16_0 := blk_frozen BK632.out 0))
       refine bodyPost_ret (results_ct rfl _ _ gb632 26 #[.slice none 0 0] (0, 0) _ rfl (bz_ BK632) Try.underlying26 rfl (by kernel_rfl)) rfl ?_
       exact ⟨_, rf_, by first | exact Kd.R_nil _ _ _ _ _ | exact Kd.N_nil _ _ _ _ _ | exact Kd.V_nil _ _ _ _ _ | exact Kd.Q_nil _ _ _ _ _ | exact Kd.S_nil _ _ _ _ _, bq_ HB⟩
     subst c7
     rw [if_pos rfl] at H
     have H' := Aside0.mk H
     clear H
     have p633 : 0 ≤ (x13_1 : Int) := od_
     have q633 : x13_1 < (l0.length : Int) := od_
     obtain ⟨ad633, A633_0, c633_0, e633, hx633_0, hl633_0, hi633_0⟩ := at_T26 HR0.out x13_1 p633 q633
     cases e633
     (try replace hx633_0 := (HB.out.cell (World.block_lt_of_cell? w _ hx633_0)).trans hx633_0)
     have HR633_0 := Aside0.mk hi633_0
     have HC633_0 := Aside0.mk hl633_0
     clear hi633_0 hl633_0
     replace p633 := eq_true p633
     replace q633 := eq_true q633
     go_wp2_with (first | ((with_reducible refine gate_dst (N := 5) rfl ?_); refine bx_ 5 #[.slice none 0 0] 26 ?_; intro gb634 hg w8 hbox hb; have BK634 := Aside0.mk (hbox); have GW634 := gq_ hg (bq_ HB); have GE634 := gq_ hg (bq_ HB); replace HB := bp_ HB hb; have NB632_634 := nl_ hg BK632; have NB634_632 := ng_ hg BK632; replace BK632 := bk_ BK632 hb; clear hb hbox hg; have hnb9 := NB634_632.out; have hnc9 := NB632_634.out; have hcz10_0 := cz_ BK634; have hfz10_0 := blk_frozen BK634.out 0) | ((with_reducible refine gate_callee (f := 28) rfl ?_); refine gL_ (some 18) Try.func28 #[.agg #[.slice A633_0 ((rd_T26 l0 x13_1).f0).length c633_0]] ?_; (with_reducible refine (impl_IsSemigroup.calls k1 _ _ ((rd_T26 l0 x13_1).f0) true _ ?side1 ?side2 A6.out).mono ?_); (case side1 => exact Kd.C_below HR633_0.out (bq_ HB)); (case side2 => exact HC633_0.out); rintro e w11 ⟨rfl, hb⟩; refine ⟨_, rfl, ?_⟩; replace BK632 := Aside0.mk (blk_below (g := gb632) (o := .cells #[.slice none 0 0] 26 (0, 0)) (ba_ BK632) hb); replace BK634 := Aside0.mk (blk_below (g := gb634) (o := .cells #[.slice A633_0 ((rd_T26 l0 x13_1).f0).length c633_0] 26 (0, 0)) (bz_ BK634) hb); replace HB := bp_ HB hb; (try clear hb)))
     go_roundg k1
     case measure => have := HK1.out; omega
     case rel => exact ⟨(wrap64 (x13_1 + 1)), rs_, H', ⟨by have := HK1.out; omega⟩, ⟨be_ BK632.out⟩, ⟨bq_ HB⟩⟩
   rw [if_neg c3] at H
   have c3b0 : decide (x13_1 < (l0.length : Int)) = false := decide_eq_false c3
   clear c3
   by_cases c17 : (l0.length : Int) = 0
   · rw [if_pos c17] at H
     have c17b0 : ((l0.length : Int) == 0) = true := beq_iff_eq.mpr c17
     have c17b1 : ((l0.length : Int) != 0) = false := bne_eq_false_iff_eq.mpr c17
     clear c17
     simp only [Option.some.injEq, Prod.mk.injEq] at H
     obtain ⟨rfl, rfl⟩ := H
     have hcz18_0 := cz_ BK632
     have hfz18_0 := blk_frozen BK632.out 0
     go_wp2
     refine bodyPost_ret (results_ct rfl _ _ gb632 26 #[.slice none 0 0] (0, 0) _ rfl (bz_ BK632) Try.underlying26 rfl (by kernel_rfl)) rfl ?_
     exact ⟨_, rf_, by first | exact Kd.R_nil _ _ _ _ _ | exact Kd.N_nil _ _ _ _ _ | exact Kd.V_nil _ _ _ _ _ | exact Kd.Q_nil _ _ _ _ _ | exact Kd.S_nil _ _ _ _ _, bq_ HB⟩
   rw [if_neg c17] at H
   have c17b0 : ((l0.length : Int) == 0) = false := beq_eq_false_iff_ne.mpr c17
   have c17b1 : ((l0.length : Int) != 0) = true := bne_iff_ne.mpr c17
   have c17b2 : ¬ (l0 = []) := fun h_ => c17 (by rw [h_]; rfl)
   obtain ⟨y636, hy636⟩ : ∃ y_ : List Int, y_ = (([] : List Int)) := ⟨_, rfl⟩
   replace H : (if 0 < (l0.length : Int) then (if y636.length + ((rd_T26 l0 0).f0).length < 17592186044416 then (if 1 ≤ (l0.length : Int) then ((some (l0.drop 1 : List (S26))).bind fun y644 => (impl_MeetOfAll.l1 k1 y644 (y644.length : Int) 0 (y636 ++ ((rd_T26 l0 0).f0)))) else (none)) else (none)) else (none)) = some (r1, r2) := by subst hy636; exact H
   have Ny636 := Aside0.mk hy636
   clear hy636
   obtain ⟨c19, H⟩ := ip_ H
   have c19b0 : decide (0 < (l0.length : Int)) = true := decide_eq_true c19
   have c19b1 : decide (0 < l0.length) = true := decide_eq_true (by omega)
   clear c19
   obtain ⟨c20, H⟩ := ip_ H
   have LMc20 := Aside0.mk c20
   clear c20
   obtain ⟨y640, hy640⟩ : ∃ y_ : List Int, y_ = (y636 ++ ((rd_T26 l0 0).f0)) := ⟨_, rfl⟩
   replace H : (if 1 ≤ (l0.length : Int) then ((some (l0.drop 1 : List (S26))).bind fun y644 => (impl_MeetOfAll.l1 k1 y644 (y644.length : Int) 0 y640)) else (none)) = some (r1, r2) := by subst hy640; exact H
   have Ny640 := Aside0.mk hy640
   clear hy640
   obtain ⟨c21, H⟩ := ip_ H
   have c21b0 := eq_true c21
   have c21b1 : decide (1 ≤ (l0.length : Int)) = true := decide_eq_true c21
   clear c21
   obtain ⟨y644, hy644⟩ : ∃ y_ : List (S26), y_ = (l0.drop 1) := ⟨_, rfl⟩
   replace H : (impl_MeetOfAll.l1 k1 y644 (y644.length : Int) 0 y640) = some (r1, r2) := by subst hy644; exact H
   have Ny644 := Aside0.mk hy644
   clear hy644
   have H' := Aside0.mk H
   clear H
   go_wp2_with (first | ((with_reducible refine gate_dst (N := 26) rfl ?_); refine Kd.R_lit (Kd.int .i64) _ 3 ?hg (N := 26) ?hd (xs := ([] : List Int)) (inner := []) (ok := fun _ => True) (okp := fun _ => True) ?hr ?hp (fun _ hk => hk) trivial (Below.refl _ _) (Nat.le_refl _) (by simp) ?_; (case hd => rfl); (case hg => rfl); (case hr => first | (go_simp; done) | (go_simp; rfl)); (case hp => exact (Reps.none _ _)); intro v637 w22 ho23 hb hg_ hnew_; clear hg_ hnew_; (first | rw [← Ny636.out] at ho23 | (simp only [Int.reduceToNat] at ho23; rw [← Ny636.out] at ho23)); have HO638 := Aside0.mk (Kd.R_lower ho23 (below_size (bq_ HB))); replace BK632 := bk_ BK632 hb; replace HB := bp_ HB hb; clear hb ho23; have p639 : 0 ≤ (0 : Int) := (by omega); have q639 : 0 < (l0.length : Int) := od_; obtain ⟨ad639, A639_0, c639_0, e639, hx639_0, hl639_0, hi639_0⟩ := at_T26 HR0.out 0 p639 q639; cases e639; have qi639 : (0 < l0.length) = True := eq_true (by omega); (try rw [show ((0 : Int)).toNat = 0 from rfl] at hx639_0); (try rw [Addr.add_zero'] at hx639_0); (try replace hx639_0 := (HB.out.cell (World.block_lt_of_cell? w _ hx639_0)).trans hx639_0); have HR639_0 := Aside0.mk hi639_0; have HC639_0 := Aside0.mk hl639_0; clear hi639_0 hl639_0; replace p639 := eq_true p639; replace q639 := eq_true q639) | ((with_reducible refine gate_builtin (b := .append) (xs := #[.tmp 26, .tmp 30]) rfl ?_); at_builtin; refine Kd.R_append_rows (Kd.int .i64) (w0 := w) w.heap.size rfl (.tmp 26) (.tmp 30) 24 3 (.int .i64 0) 8 rfl Try.underlying24 info3 rfl (by decide) (by omega) v637 y636 ((rd_T26 l0 0).f0) _ _ _ (fun _ => True) (fun _ => False) rfl rfl ?aO ?aR (fun _ _ h => h) (fun _ h => h.elim) ?aF ?aB ?aS ?aL ?_; (case aR => exact ch_ HR639_0 HB); (case aB => exact (bq_ HB)); (case aF => exact (fun _ _ => trivial)); (case aO => exact (re_ HO638.out)); (case aS => exact (below_size (bq_ HB))); (case aL => have := LMc20.out; omega); intro v641 w24 ho hb hg hat; rw [← Ny640.out] at ho; replace BK632 := Aside0.mk (blk_grown (be_ BK632.out) hg (Kd.R_ne HO638.out BK632.out (by decide))); replace HB := Aside0.mk (hb); have HO642 := Aside0.mk (ho); clear HO638; clear ho hb hg hat; obtain ⟨Ao25, co25, eo25⟩ := Kd.R_slice HO642.out; subst eo25) | ((with_reducible refine gate_dst (N := 6) rfl ?_); refine bx_ 6 #[.slice none 0 0] 26 ?_; intro gb643 hg w26 hbox hb; replace HO642 := Aside0.mk (Kd.R_below (re_ HO642.out) hb); have BK643 := Aside0.mk (hbox); have GW643 := gq_ hg (bq_ HB); have GE643 := gq_ hg (bq_ HB); replace HB := bp_ HB hb; have NB632_643 := nl_ hg BK632; have NB643_632 := ng_ hg BK632; replace BK632 := bk_ BK632 hb; clear hb hbox hg; have hnb27 := NB643_632.out; have hnc27 := NB632_643.out; have hcz28_0 := cz_ BK643; have hfz28_0 := blk_frozen BK643.out 0) | ((with_reducible refine gate_store (t := 26) (p := 6) rfl ?_); refine store_event (t := 26) (p := 6) (v := ?vo_w29) (w1 := (w26.setCell ⟨gb643, 0, none⟩ (.slice Ao25 y640.length co25))) ?hg ?ho ?hn ?hr ?_; (case ho => rfl); (case hg => rfl); (case hn => rfl); (case hr => first | (go_simp; done) | (go_simp; rfl)); intro w29 hw; have n0_ : Aside0 (Kd.R (Kd.int .i64) 3 w29 w.heap.size (fun _ => True) (.slice Ao25 y640.length co25) y640) := ⟨(by rw [hw]; exact (by (with_reducible repeat (first | apply Kd.R_alloc | apply Kd.R_drewN | apply Kd.R_drew)); exact Kd.R_mono (Kd.R_far (p := ⟨gb643, 0, none⟩) (Kd.R_types HO642.out BK643.out (by decide)) (fun _ hk => hk.2) (.slice Ao25 y640.length co25)) (fun _ hk => trivial)))⟩; have n1_ : Aside0 (w29.heap[gb632]? = some (.cells #[.slice none 0 0] 26 (0, 0))) := ⟨(by rw [hw]; exact (ba_ BK632))⟩; have n2_ : Aside0 (w29.heap[gb643]? = some (.cells #[.slice Ao25 y640.length co25] 26 (0, 0))) := ⟨(by rw [hw]; exact (bz_ BK643))⟩; have n3_ : Aside0 (Below w.heap.size w w29) := ⟨(by rw [hw]; exact (bq_ HB))⟩; clear hw; clear HO642; clear BK632; clear BK643; clear HB; have HO642 := n0_; have BK632 := n1_; have BK643 := n2_; have HB := n3_; clear n0_ n1_ n2_ n3_; have q30 : (1 : Int) ≤ ((l0.length : Int) : Int) := od_; obtain ⟨i030, hi030, _, hsz30, _⟩ := info_parts info26; have hroom30 : l0.length ≤ c0 := HC0.out; have hC30 : Kd.C k26 _ (some ad639) l0.length l0 := HR0.out; have hcut30 := cut_from (P := Try.prog) 29 26 .i64 Try.underlying29 hi030 1 hsz30 (some ad639) l0.length c0 1 (by omega) q30; have hr30 := Kd.C_drop (m := (1 : Int).toNat) (c := c0) hC30 (by omega) hroom30; obtain ⟨A30, hA30⟩ : ∃ A1, A1 = (if c0 = (1 : Int).toNat then (some ad639) else ((some ad639) : Option Addr).map (·.add ((1 : Int).toNat * 1))) := ⟨_, rfl⟩; obtain ⟨c30, hc30⟩ : ∃ c1, c1 = c0 - (1 : Int).toNat := ⟨_, rfl⟩; have hy30 : y644.length = l0.length - (1 : Int).toNat := (by rw [Ny644.out, List.length_drop] <;> omega); rw [show (l0).drop (1 : Int).toNat = y644 from Ny644.out.symm] at hr30; replace hr30 : Kd.C k26 _ A30 y644.length y644 := (by rw [hA30]; exact hr30); rw [← hy30, ← hA30, ← hc30] at hcut30; have HR647 := Aside0.mk hr30; have HC647 := Aside0.mk (show y644.length ≤ c30 from by rw [hy30, hc30]; exact Nat.sub_le_sub_right hroom30 _); clear hr30 hC30 hroom30 hi030 hsz30 hc30; have KY30 := Aside0.mk hy30; have KA30 := Aside0.mk hA30; clear hy30 hA30; replace q30 := eq_true q30))
   go_loopg [36] k1 (fun kq v36 w' => ∃ (x36_2 : Int) (x644000_2 : List Int) (u644000 : Value), v36 = .int .i64 x36_2 ∧ Aside0 (impl_MeetOfAll.l1 kq y644 (y644.length : Int) x36_2 x644000_2 = some (r1, r2)) ∧ Aside0 (kq ≤ k1) ∧ Aside0 (Kd.R (Kd.int .i64) 3 w' w.heap.size (fun _ => True) u644000 x644000_2) ∧ Aside0 (w'.heap[gb632]? = some (.cells #[(.slice none 0 0)] 26 (0, 0))) ∧ Aside0 (w'.heap[gb643]? = some (.cells #[u644000] 26 (0, 0))) ∧ Aside0 (Below w.heap.size w w'))
   case atStart => exact ⟨(0), (y640), (.slice Ao25 y640.length co25), rs_, H', ⟨Nat.le_refl _⟩, ⟨re_ HO642.out⟩, ⟨be_ BK632.out⟩, ⟨be_ BK643.out⟩, ⟨bq_ HB⟩⟩
   case round =>
    clear H'
    try clear c1
    try clear c3b0
    try clear c17
    try clear c17b0
    try clear c17b1
    try clear c17b2
    try clear c19b0
    try clear c19b1
    try clear c21b0
    try clear c21b1
    try clear c30
    try clear q30
    try clear hcz28_0
    try clear hfz28_0
    try clear hx639_0
    try clear p639
    try clear q639
    obtain ⟨x36_2, x644000_2, u644000, rfl, HA, HK2, HO_644000, BK632, BK643, HB⟩ := hrel
    cases gk with
    | zero => exact absurd HA.out (by simp [impl_MeetOfAll.l1])
    | succ k2 =>
     have H := HA.out
     clear HA
     simp only [impl_MeetOfAll.l1] at H
     by_cases c31 : x36_2 < (y644.length : Int)
     rotate_left
     · rw [if_neg c31] at H
       have c31b0 : decide (x36_2 < (y644.length : Int)) = false := decide_eq_false c31
       clear c31
       simp only [Option.some.injEq, Prod.mk.injEq] at H
       obtain ⟨rfl, rfl⟩ := H
       have hnb66 := NB643_632.out
       have hnc66 := NB632_643.out
       have hcz67_0 := cz_ BK643
       have hfz67_0 := blk_frozen BK643.out 0
       obtain ⟨Ao68, co68, eo68⟩ := Kd.R_slice HO_644000.out
       subst eo68
       have hcz69_0 := cz_ BK632
       have hfz69_0 := blk_frozen BK632.out 0
       go_wp2
       refine bodyPost_ret (results_ct rfl _ _ gb632 26 #[.slice Ao68 x644000_2.length co68] (0, 0) _ rfl (bz_ BK632) Try.underlying26 rfl (by kernel_rfl)) rfl ?_
       exact ⟨_, rf_, by (with_reducible repeat (first | apply Kd.R_alloc | apply Kd.R_drewN | apply Kd.R_drew)); exact Kd.R_mono (Kd.R_far (p := ⟨gb632, 0, none⟩) (Kd.R_types HO_644000.out BK632.out (by decide)) (fun _ hk => hk.2) (.slice Ao68 x644000_2.length co68)) (fun _ hk => trivial), bq_ HB⟩
     rw [if_pos c31] at H
     have c31b0 : decide (x36_2 < (y644.length : Int)) = true := decide_eq_true c31
     clear c31
     obtain ⟨c32b0, H⟩ := ipd_ H
     obtain ⟨c33b0, H⟩ := ipd_ H
     obtain ⟨⟨t650, t653⟩, A34, H⟩ := ob_ H
     (try dsimp only at H)
     by_cases c35 : t653 = true
     rotate_left
     · replace c35 := Bool.eq_false_iff.mpr c35
       subst c35
       rw [if_neg (show ¬ (false = true) by decide)] at H
       simp only [Option.some.injEq, Prod.mk.injEq] at H
       obtain ⟨rfl, rfl⟩ := H
       have p648 : 0 ≤ (x36_2 : Int) := od_
       have q648 : x36_2 < (y644.length : Int) := od_
       obtain ⟨ad648, A648_0, c648_0, e648, hx648_0, hl648_0, hi648_0⟩ := at_T26 HR647.out x36_2 p648 q648
       cases e648
       (try replace hx648_0 := (HB.out.cell (World.block_lt_of_cell? w _ hx648_0)).trans hx648_0)
       have HR648_0 := Aside0.mk hi648_0
       have HC648_0 := Aside0.mk hl648_0
       clear hi648_0 hl648_0
       replace p648 := eq_true p648
       replace q648 := eq_true q648
       go_wp2_with (first | ((with_reducible refine gate_dst (N := 8) rfl ?_); refine bx_ 8 #[.slice none 0 0] 26 ?_; intro gb649 hg w51 hbox hb; replace HO_644000 := Aside0.mk (Kd.R_below (re_ HO_644000.out) hb); have BK649 := Aside0.mk (hbox); have GW649 := gq_ hg (bq_ HB); have GE649 := gq_ hg (bq_ HB); replace HB := bp_ HB hb; have NB632_649 := nl_ hg BK632; have NB649_632 := ng_ hg BK632; replace BK632 := bk_ BK632 hb; have NB643_649 := nl_ hg BK643; have NB649_643 := ng_ hg BK643; replace BK643 := bk_ BK643 hb; clear hb hbox hg; have hnb52 := NB649_632.out; have hnc52 := NB632_649.out; have hnb53 := NB649_643.out; have hnc53 := NB643_649.out; have hcz54_0 := cz_ BK649; have hfz54_0 := blk_frozen BK649.out 0; have hnb55 := NB643_632.out; have hnc55 := NB632_643.out; have hcz56_0 := cz_ BK643; have hfz56_0 := blk_frozen BK643.out 0; obtain ⟨Ao57, co57, eo57⟩ := Kd.R_slice HO_644000.out; subst eo57) | ((with_reducible refine gate_callee (f := 29) rfl ?_); refine gL_ (some 43) Try.func29 #[.agg #[.slice Ao57 x644000_2.length co57], .agg #[.slice A648_0 ((rd_T26 y644 x36_2).f0).length c648_0]] ?_; (with_reducible refine (impl_MeetOf.calls k2 _ _ x644000_2 _ _ ((rd_T26 y644 x36_2).f0) t650 false _ ?side1 ?side2 ?side3 ?side4 A34.out).mono ?_); (case side1 => refine (Kd.R_reads' (e := 3) (base := w.heap.size) (ok := fun k_ => True) (n := x644000_2.length) (c := co57) ?_).2.2; exact (by (with_reducible repeat (first | apply Kd.R_alloc | apply Kd.R_drewN | apply Kd.R_drew)); exact (Kd.R_mono (Kd.R_far (p := ⟨gb649, 0, none⟩) (Kd.R_types HO_644000.out BK649.out (by decide)) (fun _ hk => hk.2) (.slice A648_0 ((rd_T26 y644 x36_2).f0).length c648_0)) (fun _ h_ => h_.1)))); (case side2 => exact (Kd.R_reads' HO_644000.out).2.1); (case side3 => exact Kd.C_below HR648_0.out (bq_ HB)); (case side4 => exact HC648_0.out); rintro e w58 ⟨v651, rfl, ho0, hb⟩; refine ⟨_, rfl, ?_⟩; have HO652 := Aside0.mk (Kd.R_lower (Kd.R_new' ho0 (Kd.R_lt (by (with_reducible repeat (first | apply Kd.R_alloc | apply Kd.R_drewN | apply Kd.R_drew)); exact (Kd.R_mono (Kd.R_far (p := ⟨gb649, 0, none⟩) (Kd.R_types HO_644000.out BK649.out (by decide)) (fun _ hk => hk.2) (.slice A648_0 ((rd_T26 y644 x36_2).f0).length c648_0)) (fun _ h_ => h_.1))))) (below_size (bq_ HB))); replace HO_644000 := Aside0.mk (Kd.R_elder' (by (with_reducible repeat (first | apply Kd.R_alloc | apply Kd.R_drewN | apply Kd.R_drew)); exact (Kd.R_mono (Kd.R_far (p := ⟨gb649, 0, none⟩) (Kd.R_types HO_644000.out BK649.out (by decide)) (fun _ hk => hk.2) (.slice A648_0 ((rd_T26 y644 x36_2).f0).length c648_0)) (fun _ h_ => h_.1))) (Kd.R_base ho0) hb); replace BK632 := Aside0.mk (blk_below (g := gb632) (o := .cells #[.slice none 0 0] 26 (0, 0)) (ba_ BK632) hb); replace BK643 := Aside0.mk (blk_below (g := gb643) (o := .cells #[.slice Ao57 x644000_2.length co57] 26 (0, 0)) (ba_ BK643) hb); replace BK649 := Aside0.mk (blk_below (g := gb649) (o := .cells #[.slice A648_0 ((rd_T26 y644 x36_2).f0).length c648_0] 26 (0, 0)) (bz_ BK649) hb); replace HB := bp_ HB hb; (try clear hb); (try clear ho0)) | ((with_reducible refine gate_dst (N := 9) rfl ?_); refine bx_ 9 #[.slice none 0 0] 26 ?_; intro gb654 hg w59 hbox hb; replace HO_644000 := Aside0.mk (Kd.R_below (re_ HO_644000.out) hb); replace HO652 := Aside0.mk (Kd.R_below (re_ HO652.out) hb); have BK654 := Aside0.mk (hbox); have GW654 := gq_ hg (bq_ HB); have GE654 := gq_ hg (bq_ HB); replace HB := bp_ HB hb; have NB632_654 := nl_ hg BK632; have NB654_632 := ng_ hg BK632; replace BK632 := bk_ BK632 hb; have NB643_654 := nl_ hg BK643; have NB654_643 := ng_ hg BK643; replace BK643 := bk_ BK643 hb; have NB649_654 := nl_ hg BK649; have NB654_649 := ng_ hg BK649; replace BK649 := bk_ BK649 hb; clear hb hbox hg; obtain ⟨Ao60, co60, eo60⟩ := Kd.R_slice HO652.out; subst eo60; have hnb61 := NB654_632.out; have hnc61 := NB632_654.out; have hnb62 := NB654_643.out; have hnc62 := NB643_654.out; have hnb63 := NB654_649.out; have hnc63 := NB649_654.out; have hcz64_0 := cz_ BK654; have hfz64_0 := blk_frozen BK654.out 0; have hcz65_0 := cz_ BK632; have hfz65_0 := blk_frozen BK632.out 0))
       refine bodyPost_ret (results_ct rfl _ _ gb632 26 #[.slice none 0 0] (0, 0) _ rfl (bz_ BK632) Try.underlying26 rfl (by kernel_rfl)) rfl ?_
       exact ⟨_, rf_, by first | exact Kd.R_nil _ _ _ _ _ | exact Kd.N_nil _ _ _ _ _ | exact Kd.V_nil _ _ _ _ _ | exact Kd.Q_nil _ _ _ _ _ | exact Kd.S_nil _ _ _ _ _, bq_ HB⟩
     subst c35
     rw [if_pos rfl] at H
     have H' := Aside0.mk H
     clear H
     have p648 : 0 ≤ (x36_2 : Int) := od_
     have q648 : x36_2 < (y644.length : Int) := od_
     obtain ⟨ad648, A648_0, c648_0, e648, hx648_0, hl648_0, hi648_0⟩ := at_T26 HR647.out x36_2 p648 q648
     cases e648
     (try replace hx648_0 := (HB.out.cell (World.block_lt_of_cell? w _ hx648_0)).trans hx648_0)
     have HR648_0 := Aside0.mk hi648_0
     have HC648_0 := Aside0.mk hl648_0
     clear hi648_0 hl648_0
     replace p648 := eq_true p648
     replace q648 := eq_true q648
     go_wp2_with (first | ((with_reducible refine gate_dst (N := 8) rfl ?_); refine bx_ 8 #[.slice none 0 0] 26 ?_; intro gb649 hg w36 hbox hb; replace HO_644000 := Aside0.mk (Kd.R_below (re_ HO_644000.out) hb); have BK649 := Aside0.mk (hbox); have GW649 := gq_ hg (bq_ HB); have GE649 := gq_ hg (bq_ HB); replace HB := bp_ HB hb; have NB632_649 := nl_ hg BK632; have NB649_632 := ng_ hg BK632; replace BK632 := bk_ BK632 hb; have NB643_649 := nl_ hg BK643; have NB649_643 := ng_ hg BK643; replace BK643 := bk_ BK643 hb; clear hb hbox hg; have hnb37 := NB649_632.out; have hnc37 := NB632_649.out; have hnb38 := NB649_643.out; have hnc38 := NB643_649.out; have hcz39_0 := cz_ BK649; have hfz39_0 := blk_frozen BK649.out 0; have hnb40 := NB643_632.out; have hnc40 := NB632_643.out; have hcz41_0 := cz_ BK643; have hfz41_0 := blk_frozen BK643.out 0; obtain ⟨Ao42, co42, eo42⟩ := Kd.R_slice HO_644000.out; subst eo42) | ((with_reducible refine gate_callee (f := 29) rfl ?_); refine gL_ (some 43) Try.func29 #[.agg #[.slice Ao42 x644000_2.length co42], .agg #[.slice A648_0 ((rd_T26 y644 x36_2).f0).length c648_0]] ?_; (with_reducible refine (impl_MeetOf.calls k2 _ _ x644000_2 _ _ ((rd_T26 y644 x36_2).f0) t650 true _ ?side1 ?side2 ?side3 ?side4 A34.out).mono ?_); (case side1 => refine (Kd.R_reads' (e := 3) (base := w.heap.size) (ok := fun k_ => True) (n := x644000_2.length) (c := co42) ?_).2.2; exact (by (with_reducible repeat (first | apply Kd.R_alloc | apply Kd.R_drewN | apply Kd.R_drew)); exact (Kd.R_mono (Kd.R_far (p := ⟨gb649, 0, none⟩) (Kd.R_types HO_644000.out BK649.out (by decide)) (fun _ hk => hk.2) (.slice A648_0 ((rd_T26 y644 x36_2).f0).length c648_0)) (fun _ h_ => h_.1)))); (case side2 => exact (Kd.R_reads' HO_644000.out).2.1); (case side3 => exact Kd.C_below HR648_0.out (bq_ HB)); (case side4 => exact HC648_0.out); rintro e w43 ⟨v651, rfl, ho0, hb⟩; refine ⟨_, rfl, ?_⟩; have HO652 := Aside0.mk (Kd.R_lower (Kd.R_new' ho0 (Kd.R_lt (by (with_reducible repeat (first | apply Kd.R_alloc | apply Kd.R_drewN | apply Kd.R_drew)); exact (Kd.R_mono (Kd.R_far (p := ⟨gb649, 0, none⟩) (Kd.R_types HO_644000.out BK649.out (by decide)) (fun _ hk => hk.2) (.slice A648_0 ((rd_T26 y644 x36_2).f0).length c648_0)) (fun _ h_ => h_.1))))) (below_size (bq_ HB))); replace HO_644000 := Aside0.mk (Kd.R_elder' (by (with_reducible repeat (first | apply Kd.R_alloc | apply Kd.R_drewN | apply Kd.R_drew)); exact (Kd.R_mono (Kd.R_far (p := ⟨gb649, 0, none⟩) (Kd.R_types HO_644000.out BK649.out (by decide)) (fun _ hk => hk.2) (.slice A648_0 ((rd_T26 y644 x36_2).f0).length c648_0)) (fun _ h_ => h_.1))) (Kd.R_base ho0) hb); replace BK632 := Aside0.mk (blk_below (g := gb632) (o := .cells #[.slice none 0 0] 26 (0, 0)) (ba_ BK632) hb); replace BK643 := Aside0.mk (blk_below (g := gb643) (o := .cells #[.slice Ao42 x644000_2.length co42] 26 (0, 0)) (ba_ BK643) hb); replace BK649 := Aside0.mk (blk_below (g := gb649) (o := .cells #[.slice A648_0 ((rd_T26 y644 x36_2).f0).length c648_0] 26 (0, 0)) (bz_ BK649) hb); replace HB := bp_ HB hb; (try clear hb); (try clear ho0)) | ((with_reducible refine gate_dst (N := 9) rfl ?_); refine bx_ 9 #[.slice none 0 0] 26 ?_; intro gb654 hg w44 hbox hb; replace HO_644000 := Aside0.mk (Kd.R_below (re_ HO_644000.out) hb); replace HO652 := Aside0.mk (Kd.R_below (re_ HO652.out) hb); have BK654 := Aside0.mk (hbox); have GW654 := gq_ hg (bq_ HB); have GE654 := gq_ hg (bq_ HB); replace HB := bp_ HB hb; have NB632_654 := nl_ hg BK632; have NB654_632 := ng_ hg BK632; replace BK632 := bk_ BK632 hb; have NB643_654 := nl_ hg BK643; have NB654_643 := ng_ hg BK643; replace BK643 := bk_ BK643 hb; have NB649_654 := nl_ hg BK649; have NB654_649 := ng_ hg BK649; replace BK649 := bk_ BK649 hb; clear hb hbox hg; obtain ⟨Ao45, co45, eo45⟩ := Kd.R_slice HO652.out; subst eo45; have hnb46 := NB654_632.out; have hnc46 := NB632_654.out; have hnb47 := NB654_643.out; have hnc47 := NB643_654.out; have hnb48 := NB654_649.out; have hnc48 := NB649_654.out; have hcz49_0 := cz_ BK654; have hfz49_0 := blk_frozen BK654.out 0; have hcz50_0 := cz_ BK643; have hfz50_0 := blk_frozen BK643.out 0))
     go_roundg k2
     case measure => have := HK1.out; have := HK2.out; omega
     case rel => exact ⟨(wrap64 (x36_2 + 1)), (t650), (.slice Ao45 t650.length co45), rs_, H', ⟨by have := HK1.out; have := HK2.out; omega⟩, ⟨by (with_reducible repeat (first | apply Kd.R_alloc | apply Kd.R_drewN | apply Kd.R_drew)); exact Kd.R_mono (Kd.R_far (p := ⟨gb643, 0, none⟩) (Kd.R_far (p := ⟨gb654, 0, none⟩) (Kd.R_types (Kd.R_types HO652.out BK654.out (by decide)) BK643.out (by decide)) (fun _ hk => hk.1.2) (.slice Ao45 t650.length co45)) (fun _ hk => hk.2) (.slice Ao45 t650.length co45)) (fun _ hk => trivial)⟩, ⟨ba_ BK632⟩, ⟨bz_ BK643⟩, ⟨bq_ HB⟩⟩
end Go.Proofs.Ytonknpgfbkgbjaa.PA
end
