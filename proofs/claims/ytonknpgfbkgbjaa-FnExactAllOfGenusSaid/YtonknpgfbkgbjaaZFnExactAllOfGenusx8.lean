-- Bundled by shake.py from this session's printed and written texts; Lean checks it.
import Derived.Deep.RegionHeld3
import Derived.Ground.Names2Prog
import Derived.Ground.NamesProg
import Derived.KernelRfl
import Derived.Shelf.Abstract
import Derived.Shelf.Slices.CompactI
import Derived.Shelf.Slices.In.SortNone
import Derived.Shelf.Sort.Plain
import Derived.Sort.OwnSortedInts
import Derived.Test.YtonknpgfbkgbjaaProg
import Derived.Test.YtonknpgfbkgbjaaZFnExactAllOfGenusx1
import Derived.Test.YtonknpgfbkgbjaaZFnExactAllOfGenusx2
import Derived.Test.YtonknpgfbkgbjaaZFnExactAllOfGenusx3
import Derived.Test.YtonknpgfbkgbjaaZFnExactAllOfGenusx7
section
namespace Go.Proofs.Ytonknpgfbkgbjaa.PC
open Go.RowKit Go.Proofs.YtonknpgfbkgbjaaW.PrintWords Go.Proofs.YtonknpgfbkgbjaaW.PrintLast Go.Proofs.YtonknpgfbkgbjaaW.PrintMore
attribute [local go_sem] max2_int min2_int max_two min_two max_three min_three max_four min_four
set_option linter.unusedVariables false
set_option linter.unusedSimpArgs false
set_option maxHeartbeats 8000000
set_option maxRecDepth 100000
mutual
def impl_FromGaps.j0 : Nat → List Int → Bool → Option (List Int × Bool)
 | 0, _, _ => none
 | k + 1, x0, x23 => if x23 = true then (some (([] : List Int), false)) else (if 401 ≤ 281474976710656 then (impl_FromGaps.l0 k x0 (List.replicate 401 false) x0 (x0.length : Int) 0) else (none))
def impl_FromGaps.l0 : Nat → List Int → List Bool → List Int → Int → Int → Option (List Int × Bool)
 | 0, _, _, _, _, _ => none
 | k + 1, x0, x6, x26, x27, x28 => if x28 < x27 then (if 0 ≤ x28 then (if x28 < (x26.length : Int) then (if 0 ≤ (rd x26 x28) then (if (rd x26 x28) < (x6.length : Int) then (impl_FromGaps.l0 k x0 (x6.set ((rd x26 x28) : Int).toNat true) x26 x27 (wrap64 (x28 + 1))) else (none)) else (none)) else (none)) else (none)) else (impl_FromGaps.l1 k x0 x6 1 ([] : List Int))
def impl_FromGaps.l1 : Nat → List Int → List Bool → Int → List Int → Option (List Int × Bool)
 | 0, _, _, _, _ => none
 | k + 1, x0, x6, x10, x524000 => if x10 < (x6.length : Int) then (if 0 ≤ x10 then (impl_FromGaps.l2 k x0 x6 x10 (rdOf false x6 x10) 1 x524000) else (none)) else ((impl_IsSemigroup.f k x524000).bind fun t530 => (if t530 = true then ((impl_Gaps.f k x524000).bind fun t531 => ((slices_Equal_int_int.f k t531 x0).bind fun t534 => (if t534 = true then (some (x524000, true)) else (some (([] : List Int), false))))) else (some (([] : List Int), false))))
def impl_FromGaps.l2 : Nat → List Int → List Bool → Int → Bool → Int → List Int → Option (List Int × Bool)
 | 0, _, _, _, _, _, _ => none
 | k + 1, x0, x6, x10, x11, x12, x524000 => if (wrap64 (2 * x12)) ≤ x10 then (if x11 = true then (impl_FromGaps.l1 k x0 x6 (wrap64 (x10 + 1)) x524000) else (if 0 ≤ x12 then (if x12 < (x6.length : Int) then (if rdOf false x6 x12 = true then (impl_FromGaps.l2 k x0 x6 x10 false (wrap64 (x12 + 1)) x524000) else (if 0 ≤ (wrap64 (x10 - x12)) then (if (wrap64 (x10 - x12)) < (x6.length : Int) then (impl_FromGaps.l2 k x0 x6 x10 (!(rdOf false x6 (wrap64 (x10 - x12)))) (wrap64 (x12 + 1)) x524000) else (none)) else (none))) else (none)) else (none))) else (if x11 = true then (impl_FromGaps.l1 k x0 x6 (wrap64 (x10 + 1)) x524000) else (if x524000.length < 17592186044416 then (impl_FromGaps.l1 k x0 x6 (wrap64 (x10 + 1)) (x524000 ++ [x10])) else (none)))
end
def impl_FromGaps.f (k : Nat) (l0 : List Int) : Option (List Int × Bool) := (impl_GapClash.f k l0).bind fun bt513 => (if bt513.2.2 = true then (impl_FromGaps.j0 k l0 true) else ((impl_gapList.f k l0).bind fun t517 => (impl_FromGaps.j0 k l0 (!t517))))
theorem impl_FromGaps.calls (k : Nat) (A0 : Option Addr) (c0 : Nat) (l0 : List Int) (r1 : List Int) (r2 : Bool) (w : World) (hr0 : Kd.C (Kd.int .i64) w A0 l0.length l0) (hc0 : l0.length ≤ c0) (h : impl_FromGaps.f k l0 = some (r1, r2)) :
 Calls Try.prog 60 #[.slice A0 l0.length c0] w fun e w' => ∃ v0_ : Value, e = .returned (.tuple #[.agg #[v0_], .bool r2]) ∧ Kd.R (Kd.int .i64) 3 w' w.heap.size (fun _ => True) v0_ r1 ∧ Below w.heap.size w w' := by
 have hu26 := Try.underlying26
 have hu70 := Try.underlying70
 have HR0 := Aside0.mk hr0
 have HC0 := Aside0.mk hc0
 clear hr0 hc0
 have HB := Aside0.mk (Below.refl w.heap.size w)
 have H := h
 clear h
 unfold impl_FromGaps.f at H
 obtain ⟨⟨t513, t514, t515⟩, A2, H⟩ := ob_ H
 (try dsimp only at H)
 have HC3 := Aside0.mk H
 clear H
 go_enter Try.func60, Try.ntmps60
 go_upto_region 2 with (first | ((with_reducible refine gate_dst (N := 2) rfl ?_); refine bx_ 2 #[.slice none 0 0] 26 ?_; intro gb512 hg w4 hbox hb; have BK512 := Aside0.mk (hbox); have GW512 := gw_ hg HB; have GE512 := gw_ hg HB; replace HB := bo_ HB hb; clear hb hbox hg) | ((with_reducible refine gate_callee (f := 87) rfl ?_); refine gL_ (some 15) Try.func87 #[.slice A0 l0.length c0] ?_; (with_reducible refine (impl_GapClash.calls k _ _ l0 t513 t514 t515 _ ?side1 ?side2 A2.out).mono ?_); (case side1 => exact ch_ HR0 HB); (case side2 => exact HC0.out); rintro e w5 ⟨rfl, hb⟩; refine ⟨_, rfl, ?_⟩; replace BK512 := bk_ BK512 hb; replace HB := bp_ HB hb; (try clear hb)) | ((with_reducible refine gate_dst (N := 4) rfl ?_); refine bx_ 4 #[.int .i64 0, .int .i64 0] 70 ?_; intro gb516 hg w6 hbox hb; have BK516 := Aside0.mk (hbox); have GW516 := gq_ hg (bq_ HB); have GE516 := gq_ hg (bq_ HB); replace HB := bp_ HB hb; have NB512_516 := nl_ hg BK512; have NB516_512 := ng_ hg BK512; replace BK512 := bk_ BK512 hb; clear hb hbox hg; have hnb7 := NB516_512.out; have hnc7 := NB512_516.out; have hcz8_0 : w6.cell? ⟨gb516, 0, none⟩ = some (.int .i64 0) := (blk_cell BK516.out 0).trans rfl; have hcz8_1 : w6.cell? ⟨gb516, 1, none⟩ = some (.int .i64 0) := (blk_cell BK516.out 1).trans rfl; have hfz8_0 := blk_frozen BK516.out 0; have hfz8_1 := blk_frozen BK516.out 1))
 (try simp only [Act.put, z1_, z2_, z3_])
 go_cut [23] (fun v23 wc => ∃ (kq : Nat) (x23_2 : Bool), v23 = .bool x23_2 ∧ Aside0 (impl_FromGaps.j0 kq l0 x23_2 = some (r1, r2)) ∧ Aside0 (kq ≤ k) ∧ Aside0 (wc.heap[gb512]? = some (.cells #[(.slice none 0 0)] 26 (0, 0))) ∧ Aside0 (wc.heap[gb516]? = some (.cells #[.int .i64 t513, .int .i64 t514] 70 (0, 0))) ∧ Aside0 (Below w.heap.size w wc))
 case first =>
  have H := HC3.out
  clear HC3
  by_cases c9 : t515 = true
  · subst c9
    rw [if_pos rfl] at H
    have H' := Aside0.mk H
    clear H
    go_wp2
    go_meet
    case rel => exact ⟨_, (true), rs_, H', ⟨by first | omega | exact Nat.le_refl _⟩, ⟨ba_ BK512⟩, ⟨by (with_reducible repeat (first | refine blk_drewN ?_ _ | refine blk_drew ?_ | refine blk_alloc ?_ _)); refine blk_put (cs := #[.int .i64 t513, .int .i64 0]) ?_ 1 _ rfl; (with_reducible repeat (first | refine blk_drewN ?_ _ | refine blk_drew ?_ | refine blk_alloc ?_ _)); refine blk_put (cs := #[.int .i64 0, .int .i64 0]) ?_ 0 _ rfl; (with_reducible repeat (first | refine blk_drewN ?_ _ | refine blk_drew ?_ | refine blk_alloc ?_ _)); exact BK516.out⟩, ⟨bq_ HB⟩⟩
  replace c9 := Bool.eq_false_iff.mpr c9
  subst c9
  rw [if_neg (show ¬ (false = true) by decide)] at H
  obtain ⟨t517, A10, H⟩ := ob_ H
  have H' := Aside0.mk H
  clear H
  go_wp2_with (first | (go_at_call 88; (with_reducible refine (impl_gapList.calls k _ _ l0 t517 _ ?side1 ?side2 A10.out).mono ?_); (case side1 => exact Kd.C_below HR0.out (bq_ HB)); (case side2 => exact HC0.out); rintro e w' ⟨rfl, ⟨nd, rfl⟩⟩))
  go_meet
  case rel => exact ⟨_, (!t517), rs_, H', ⟨by first | omega | exact Nat.le_refl _⟩, ⟨ba_ BK512⟩, ⟨by (with_reducible repeat (first | refine blk_drewN ?_ _ | refine blk_drew ?_ | refine blk_alloc ?_ _)); refine blk_put (cs := #[.int .i64 t513, .int .i64 0]) ?_ 1 _ rfl; (with_reducible repeat (first | refine blk_drewN ?_ _ | refine blk_drew ?_ | refine blk_alloc ?_ _)); refine blk_put (cs := #[.int .i64 0, .int .i64 0]) ?_ 0 _ rfl; (with_reducible repeat (first | refine blk_drewN ?_ _ | refine blk_drew ?_ | refine blk_alloc ?_ _)); exact BK516.out⟩, ⟨bq_ HB⟩⟩
 case rest =>
  clear HC3
  try clear hcz8_0
  try clear hcz8_1
  try clear hfz8_0
  try clear hfz8_1
  obtain ⟨kq, x23_2, rfl, HA, HJ2, BK512, BK516, HB⟩ := hcut
  cases kq with
  | zero => exact absurd HA.out (by simp [impl_FromGaps.j0])
  | succ kj2 =>
   have H := HA.out
   clear HA
   simp only [impl_FromGaps.j0] at H
   by_cases c11 : x23_2 = true
   · subst c11
     rw [if_pos rfl] at H
     simp only [Option.some.injEq, Prod.mk.injEq] at H
     obtain ⟨rfl, rfl⟩ := H
     have hnb12 := NB512_516.out
     have hnc12 := NB516_512.out
     have hcz13_0 := cz_ BK512
     have hfz13_0 := blk_frozen BK512.out 0
     go_wp2
     refine bodyPost_ret (results_ct rfl _ _ gb512 26 #[.slice none 0 0] (0, 0) _ rfl (bz_ BK512) Try.underlying26 rfl (by kernel_rfl)) rfl ?_
     exact ⟨_, rf_, by first | exact Kd.R_nil _ _ _ _ _ | exact Kd.N_nil _ _ _ _ _ | exact Kd.V_nil _ _ _ _ _ | exact Kd.Q_nil _ _ _ _ _ | exact Kd.S_nil _ _ _ _ _, bq_ HB⟩
   replace c11 := Bool.eq_false_iff.mpr c11
   subst c11
   rw [if_neg (show ¬ (false = true) by decide)] at H
   obtain ⟨c14, H⟩ := ip_ H
   have c14b0 := eq_true c14
   have c14b1 : decide (401 ≤ 281474976710656) = true := decide_eq_true c14
   clear c14
   obtain ⟨y518, hy518⟩ : ∃ y_ : List Bool, y_ = (List.replicate 401 false) := ⟨_, rfl⟩
   replace H : (impl_FromGaps.l0 kj2 l0 y518 l0 (l0.length : Int) 0) = some (r1, r2) := by subst hy518; exact H
   have Ny518 := Aside0.mk hy518
   clear hy518
   have H' := Aside0.mk H
   clear H
   go_wp2_with (first | ((with_reducible refine gate_dst (N := 25) rfl ?_); refine Kd.R_make Kd.bool _ 4 rfl (N := 25) rfl 67 _ _ rfl 401 rfl rfl Try.underlying67 (.bool false) 1 info4 rfl (by decide) (by omega) false (ok := fun _ => True) (okp := fun _ => True) rfl (fun _ hk => hk) trivial (by omega) (by omega) (Below.refl _ _) (Nat.le_refl _) ?_; intro v519 w15 ho16 hb hg_ hnew_; clear hg_ hnew_; (first | rw [← Ny518.out] at ho16 | (simp only [Int.reduceToNat] at ho16; rw [← Ny518.out] at ho16)); have HO520 := Aside0.mk (Kd.R_lower ho16 (below_size (bq_ HB))); replace BK512 := bk_ BK512 hb; replace BK516 := bk_ BK516 hb; replace HB := bp_ HB hb; clear hb ho16))
   go_loopg [28] kj2 (fun kq v28 w' => ∃ (x6_2 : List Bool) (x28_2 : Int), v28 = .int .i64 x28_2 ∧ Aside0 (impl_FromGaps.l0 kq l0 x6_2 l0 (l0.length : Int) x28_2 = some (r1, r2)) ∧ Aside0 (kq ≤ kj2) ∧ Aside0 (Kd.R Kd.bool 4 w' w.heap.size (fun _ => True) v519 x6_2) ∧ Aside0 (w'.heap[gb512]? = some (.cells #[(.slice none 0 0)] 26 (0, 0))) ∧ Aside0 (w'.heap[gb516]? = some (.cells #[.int .i64 t513, .int .i64 t514] 70 (0, 0))) ∧ Aside0 (Below w.heap.size w w'))
   case atStart => exact ⟨(y518), (0), rs_, H', ⟨Nat.le_refl _⟩, ⟨re_ HO520.out⟩, ⟨be_ BK512.out⟩, ⟨be_ BK516.out⟩, ⟨bq_ HB⟩⟩
   case round =>
    clear H'
    try clear c14b0
    try clear c14b1
    obtain ⟨x6_2, x28_2, rfl, HA, HK2, HO_6, BK512, BK516, HB⟩ := hrel
    cases gk with
    | zero => exact absurd HA.out (by simp [impl_FromGaps.l0])
    | succ k2 =>
     have H := HA.out
     clear HA
     simp only [impl_FromGaps.l0] at H
     by_cases c17 : x28_2 < (l0.length : Int)
     · rw [if_pos c17] at H
       have c17b0 : decide (x28_2 < (l0.length : Int)) = true := decide_eq_true c17
       clear c17
       obtain ⟨c18b0, H⟩ := ipd_ H
       obtain ⟨c19b0, H⟩ := ipd_ H
       obtain ⟨c20b0, H⟩ := ipd_ H
       obtain ⟨c21b0, H⟩ := ipd_ H
       obtain ⟨y522, hy522⟩ : ∃ y_ : List Bool, y_ = (x6_2.set ((rd l0 x28_2) : Int).toNat true) := ⟨_, rfl⟩
       replace H : (impl_FromGaps.l0 k2 l0 y522 l0 (l0.length : Int) (wrap64 (x28_2 + 1))) = some (r1, r2) := by subst hy522; exact H
       have Ny522 := Aside0.mk hy522
       clear hy522
       have H' := Aside0.mk H
       clear H
       have p521 : 0 ≤ (x28_2 : Int) := od_
       have q521 : x28_2 < (l0.length : Int) := od_
       obtain ⟨ad521, e521, hx521_0⟩ := Kd.at_int HR0.out x28_2 p521 q521
       cases e521
       (try replace hx521_0 := (HB.out.cell (World.block_lt_of_cell? w _ hx521_0)).trans hx521_0)
       replace p521 := eq_true p521
       replace q521 := eq_true q521
       have p22 : 0 ≤ ((rd l0 x28_2) : Int) := od_
       have q22 : ((rd l0 x28_2) : Int) < ((x6_2.length : Int) : Int) := od_
       obtain ⟨go22, co22, eo22, gb22, gl22, cl22, HG22⟩ := Kd.R_form HO_6.out (by omega)
       (first | cases eo22 | (injection eo22 with ea_ en_ ec_; (first | subst ea_ | (injection ea_ with ea_; subst ea_)); subst ec_; clear en_))
       have GB22 := Aside0.mk gb22
       have GG22 := Aside0.mk HG22
       clear gb22 gl22 HG22
       obtain ⟨hx22_0, hf22_0⟩ := Kd.R_celln false HO_6.out ((rd l0 x28_2) : Int) p22 q22
       replace p22 := eq_true p22
       replace q22 := eq_true q22
       have HP23 := Kd.R_putg HO_6.out ((rd l0 x28_2) : Int) true
       go_wp2_with (first | ((with_reducible refine gate_store (t := 4) (p := 34) rfl ?_); refine store_event (t := 4) (p := 34) (v := ?vo_w24) (w1 := (wr.setCell ⟨go22, ((rd l0 x28_2) : Int).toNat, none⟩ (.bool true))) ?hg ?ho ?hn ?hr ?_; (case ho => rfl); (case hg => rfl); (case hn => rfl); (case hr => first | (go_simp; done) | (go_simp; rfl)); intro w24 hw; have hg : wr.grownBy w24 (some go22) := (by rw [hw]; exact HP23.2); have hp_ : Kd.R Kd.bool 4 w24 w.heap.size (fun _ => True) (.slice (some ⟨go22, 0, none⟩) x6_2.length co22) y522 := (by rw [hw, Ny522.out]; exact HP23.1); clear HP23; replace BK512 := Aside0.mk (blk_grown (be_ BK512.out) hg (Kd.R_ne HO_6.out BK512.out (by decide))); replace BK516 := Aside0.mk (blk_grown (be_ BK516.out) hg (Kd.R_ne HO_6.out BK516.out (by decide))); replace HO_6 := Aside0.mk (hp_); replace HB := Aside0.mk ((by rw [hw]; exact below_set (HB.out) GB22.out : Below w.heap.size w w24)); clear hg hw hp_))
       go_roundg k2
       case measure => have := HJ2.out; have := HK2.out; omega
       case rel => exact ⟨(y522), (wrap64 (x28_2 + 1)), rs_, H', ⟨by have := HJ2.out; have := HK2.out; omega⟩, ⟨re_ HO_6.out⟩, ⟨be_ BK512.out⟩, ⟨be_ BK516.out⟩, ⟨bq_ HB⟩⟩
     rw [if_neg c17] at H
     have c17b0 : decide (x28_2 < (l0.length : Int)) = false := decide_eq_false c17
     clear c17
     have H' := Aside0.mk H
     clear H
     go_wp2_with (first | ((with_reducible refine gate_dst (N := 9) rfl ?_); refine bx_ 9 #[.slice none 0 0] 26 ?_; intro gb523 hg w25 hbox hb; replace HO_6 := Aside0.mk (Kd.R_below (re_ HO_6.out) hb); have BK523 := Aside0.mk (hbox); have GW523 := gq_ hg (bq_ HB); have GE523 := gq_ hg (bq_ HB); replace HB := bp_ HB hb; have NB512_523 := nl_ hg BK512; have NB523_512 := ng_ hg BK512; replace BK512 := bk_ BK512 hb; have NB516_523 := nl_ hg BK516; have NB523_516 := ng_ hg BK516; replace BK516 := bk_ BK516 hb; clear hb hbox hg; have hnb26 := NB523_512.out; have hnc26 := NB512_523.out; have hnb27 := NB523_516.out; have hnc27 := NB516_523.out; have hcz28_0 := cz_ BK523; have hfz28_0 := blk_frozen BK523.out 0))
     go_loopg [10] k2 (fun kq v10 w' => ∃ (x10_3 : Int) (x524000_3 : List Int) (u524000 : Value), v10 = .int .i64 x10_3 ∧ Aside0 (impl_FromGaps.l1 kq l0 x6_2 x10_3 x524000_3 = some (r1, r2)) ∧ Aside0 (kq ≤ k2) ∧ Aside0 (Kd.R Kd.bool 4 w' w.heap.size (fun _ => True) v519 x6_2) ∧ Aside0 (Kd.R (Kd.int .i64) 3 w' w.heap.size (fun _ => True) u524000 x524000_3) ∧ Aside0 (w'.heap[gb512]? = some (.cells #[(.slice none 0 0)] 26 (0, 0))) ∧ Aside0 (w'.heap[gb516]? = some (.cells #[.int .i64 t513, .int .i64 t514] 70 (0, 0))) ∧ Aside0 (w'.heap[gb523]? = some (.cells #[u524000] 26 (0, 0))) ∧ Aside0 (Below w.heap.size w w'))
     case atStart => exact ⟨(1), (([] : List Int)), (.slice none 0 0), rs_, H', ⟨Nat.le_refl _⟩, ⟨by (with_reducible repeat (first | apply Kd.R_alloc | apply Kd.R_drewN | apply Kd.R_drew)); exact Kd.R_mono (Kd.R_far (p := ⟨gb523, 0, none⟩) (Kd.R_types HO_6.out BK523.out (by decide)) (fun _ hk => hk.2) (.slice none 0 0)) (fun _ hk => trivial)⟩, ⟨by first | exact Kd.R_nil _ _ _ _ _ | exact Kd.N_nil _ _ _ _ _ | exact Kd.V_nil _ _ _ _ _ | exact Kd.Q_nil _ _ _ _ _ | exact Kd.S_nil _ _ _ _ _⟩, ⟨ba_ BK512⟩, ⟨ba_ BK516⟩, ⟨bz_ BK523⟩, ⟨bq_ HB⟩⟩
     case round =>
      clear H'
      try clear c17b0
      try clear hcz28_0
      try clear hfz28_0
      obtain ⟨x10_3, x524000_3, u524000, rfl, HA, HK3, HO_6, HO_524000, BK512, BK516, BK523, HB⟩ := hrel
      cases gk with
      | zero => exact absurd HA.out (by simp [impl_FromGaps.l1])
      | succ k3 =>
       have H := HA.out
       clear HA
       simp only [impl_FromGaps.l1] at H
       by_cases c29 : x10_3 < (x6_2.length : Int)
       rotate_left
       · rw [if_neg c29] at H
         have c29b0 : decide (x10_3 < (x6_2.length : Int)) = false := decide_eq_false c29
         clear c29
         obtain ⟨t530, A49, H⟩ := ob_ H
         by_cases c50 : t530 = true
         rotate_left
         · replace c50 := Bool.eq_false_iff.mpr c50
           subst c50
           rw [if_neg (show ¬ (false = true) by decide)] at H
           simp only [Option.some.injEq, Prod.mk.injEq] at H
           obtain ⟨rfl, rfl⟩ := H
           obtain ⟨Ao77, co77, eo77⟩ := Kd.R_slice HO_6.out
           subst eo77
           have hnb78 := NB523_512.out
           have hnc78 := NB512_523.out
           have hnb79 := NB523_516.out
           have hnc79 := NB516_523.out
           have hcz80_0 := cz_ BK523
           have hfz80_0 := blk_frozen BK523.out 0
           obtain ⟨Ao81, co81, eo81⟩ := Kd.R_slice HO_524000.out
           subst eo81
           go_wp2_with (first | ((with_reducible refine gate_callee (f := 28) rfl ?_); refine gL_ (some 80) Try.func28 #[.agg #[.slice Ao81 x524000_3.length co81]] ?_; (with_reducible refine (impl_IsSemigroup.calls k3 _ _ x524000_3 false _ ?side1 ?side2 A49.out).mono ?_); (case side1 => exact ce_ ((Kd.R_reads' HO_524000.out).2.2)); (case side2 => exact (Kd.R_reads' HO_524000.out).2.1); rintro e w82 ⟨rfl, hb⟩; refine ⟨_, rfl, ?_⟩; replace HO_6 := Aside0.mk (Kd.R_below (re_ HO_6.out) hb); replace HO_524000 := Aside0.mk (Kd.R_below (re_ HO_524000.out) hb); replace BK512 := bk_ BK512 hb; replace BK516 := bk_ BK516 hb; replace BK523 := bk_ BK523 hb; replace HB := bp_ HB hb; (try clear hb); have hnb83 := NB512_516.out; have hnc83 := NB516_512.out; have hcz84_0 := cz_ BK512; have hfz84_0 := blk_frozen BK512.out 0))
           refine bodyPost_ret (results_ct rfl _ _ gb512 26 #[.slice none 0 0] (0, 0) _ rfl (bz_ BK512) Try.underlying26 rfl (by kernel_rfl)) rfl ?_
           exact ⟨_, rf_, by first | exact Kd.R_nil _ _ _ _ _ | exact Kd.N_nil _ _ _ _ _ | exact Kd.V_nil _ _ _ _ _ | exact Kd.Q_nil _ _ _ _ _ | exact Kd.S_nil _ _ _ _ _, bq_ HB⟩
         subst c50
         rw [if_pos rfl] at H
         obtain ⟨t531, A51, H⟩ := ob_ H
         obtain ⟨t534, A52, H⟩ := ob_ H
         by_cases c53 : t534 = true
         · subst c53
           rw [if_pos rfl] at H
           simp only [Option.some.injEq, Prod.mk.injEq] at H
           obtain ⟨rfl, rfl⟩ := H
           obtain ⟨Ao54, co54, eo54⟩ := Kd.R_slice HO_6.out
           subst eo54
           have hnb55 := NB523_512.out
           have hnc55 := NB512_523.out
           have hnb56 := NB523_516.out
           have hnc56 := NB516_523.out
           have hcz57_0 := cz_ BK523
           have hfz57_0 := blk_frozen BK523.out 0
           obtain ⟨Ao58, co58, eo58⟩ := Kd.R_slice HO_524000.out
           subst eo58
           go_wp2_with (first | ((with_reducible refine gate_callee (f := 28) rfl ?_); refine gL_ (some 80) Try.func28 #[.agg #[.slice Ao58 x524000_3.length co58]] ?_; (with_reducible refine (impl_IsSemigroup.calls k3 _ _ x524000_3 true _ ?side1 ?side2 A49.out).mono ?_); (case side1 => exact ce_ ((Kd.R_reads' HO_524000.out).2.2)); (case side2 => exact (Kd.R_reads' HO_524000.out).2.1); rintro e w59 ⟨rfl, hb⟩; refine ⟨_, rfl, ?_⟩; replace HO_6 := Aside0.mk (Kd.R_below (re_ HO_6.out) hb); replace HO_524000 := Aside0.mk (Kd.R_below (re_ HO_524000.out) hb); replace BK512 := bk_ BK512 hb; replace BK516 := bk_ BK516 hb; replace BK523 := bk_ BK523 hb; replace HB := bp_ HB hb; (try clear hb); have hcz60_0 := cz_ BK523; have hfz60_0 := blk_frozen BK523.out 0) | (go_at_call 62; (with_reducible refine (impl_Gaps.calls k3 _ _ x524000_3 t531 _ ?side1 ?side2 A51.out).mono ?_); (case side1 => exact ce_ ((Kd.R_reads' HO_524000.out).2.2)); (case side2 => exact (Kd.R_reads' HO_524000.out).2.1); rintro e w61 ⟨v532, rfl, ho0, hb⟩; replace HO_6 := Aside0.mk (Kd.R_below (re_ HO_6.out) hb); have HO533 := Aside0.mk (Kd.R_lower (Kd.R_new' ho0 (Kd.R_lt (re_ HO_524000.out))) (below_size (bq_ HB))); replace HO_524000 := Aside0.mk (Kd.R_elder' (re_ HO_524000.out) (Kd.R_base ho0) hb); replace BK512 := bk_ BK512 hb; replace BK516 := bk_ BK516 hb; replace BK523 := bk_ BK523 hb; replace HB := bp_ HB hb; (try clear hb); (try clear ho0); obtain ⟨Ao62, co62, eo62⟩ := Kd.R_slice HO533.out; subst eo62) | (go_at_call 89; (with_reducible refine (slices_Equal_int_int.calls k3 _ _ t531 _ _ l0 true _ ?side1 ?side2 ?side3 ?side4 A52.out).mono ?_); (case side1 => exact ce_ ((Kd.R_reads' HO533.out).2.2)); (case side2 => exact (Kd.R_reads' HO533.out).2.1); (case side3 => exact ch_ HR0 HB); (case side4 => exact HC0.out); rintro e w' ⟨rfl, ⟨nd, rfl⟩⟩; (try (rw [drewN_self w61]; generalize hq_ : World.drewN w61 _ = w61; have n0_ : Aside0 (Kd.R (Kd.int .i64) 3 w61 w.heap.size (fun k_ => some k_ ≠ (.slice Ao58 x524000_3.length co58 : Value).ownBlock) (.slice Ao62 t531.length co62) t531) := ⟨by rw [← hq_]; exact (by (with_reducible repeat (first | apply Kd.R_alloc | apply Kd.R_drewN | apply Kd.R_drew)); exact Kd.R_mono HO533.out (fun _ hk => hk.2))⟩; have n1_ : Aside0 (Kd.R (Kd.int .i64) 3 w61 w.heap.size (fun k_ => some k_ ≠ (.slice Ao62 t531.length co62 : Value).ownBlock) (.slice Ao58 x524000_3.length co58) x524000_3) := ⟨by rw [← hq_]; exact (by (with_reducible repeat (first | apply Kd.R_alloc | apply Kd.R_drewN | apply Kd.R_drew)); exact Kd.R_mono HO_524000.out (fun _ hk => hk.2))⟩; have n2_ : Aside0 (Kd.R Kd.bool 4 w61 w.heap.size (fun _ => True) (.slice Ao54 x6_2.length co54) x6_2) := ⟨by rw [← hq_]; exact (re_ HO_6.out)⟩; have n3_ : Aside0 (w61.heap[gb512]? = some (.cells #[.slice none 0 0] 26 (0, 0))) := ⟨by rw [← hq_]; exact (be_ BK512.out)⟩; have n4_ : Aside0 (w61.heap[gb516]? = some (.cells #[.int .i64 t513, .int .i64 t514] 70 (0, 0))) := ⟨by rw [← hq_]; exact (be_ BK516.out)⟩; have n5_ : Aside0 (w61.heap[gb523]? = some (.cells #[.slice Ao58 x524000_3.length co58] 26 (0, 0))) := ⟨by rw [← hq_]; exact (be_ BK523.out)⟩; have n6_ : Aside0 (Below w.heap.size w w61) := ⟨by rw [← hq_]; exact (bq_ HB)⟩; clear HO533 HO_524000 HO_6 BK512 BK516 BK523 HB hq_; have HO533 := n0_; have HO_524000 := n1_; have HO_6 := n2_; have BK512 := n3_; have BK516 := n4_; have BK523 := n5_; have HB := n6_; clear n0_ n1_ n2_ n3_ n4_ n5_ n6_)); have hcz63_0 := cz_ BK523; have hfz63_0 := blk_frozen BK523.out 0; have hnb64 := NB512_516.out; have hnc64 := NB516_512.out; have hcz65_0 := cz_ BK512; have hfz65_0 := blk_frozen BK512.out 0))
           refine bodyPost_ret (results_ct rfl _ _ gb512 26 #[.slice Ao58 x524000_3.length co58] (0, 0) _ rfl (bz_ BK512) Try.underlying26 rfl (by kernel_rfl)) rfl ?_
           exact ⟨_, rf_, by (with_reducible repeat (first | apply Kd.R_alloc | apply Kd.R_drewN | apply Kd.R_drew)); exact Kd.R_mono (Kd.R_far (p := ⟨gb512, 0, none⟩) (Kd.R_types HO_524000.out BK512.out (by decide)) (fun _ hk => hk.2) (.slice Ao58 x524000_3.length co58)) (fun _ hk => trivial), bq_ HB⟩
         replace c53 := Bool.eq_false_iff.mpr c53
         subst c53
         rw [if_neg (show ¬ (false = true) by decide)] at H
         simp only [Option.some.injEq, Prod.mk.injEq] at H
         obtain ⟨rfl, rfl⟩ := H
         obtain ⟨Ao66, co66, eo66⟩ := Kd.R_slice HO_6.out
         subst eo66
         have hnb67 := NB523_512.out
         have hnc67 := NB512_523.out
         have hnb68 := NB523_516.out
         have hnc68 := NB516_523.out
         have hcz69_0 := cz_ BK523
         have hfz69_0 := blk_frozen BK523.out 0
         obtain ⟨Ao70, co70, eo70⟩ := Kd.R_slice HO_524000.out
         subst eo70
         go_wp2_with (first | ((with_reducible refine gate_callee (f := 28) rfl ?_); refine gL_ (some 80) Try.func28 #[.agg #[.slice Ao70 x524000_3.length co70]] ?_; (with_reducible refine (impl_IsSemigroup.calls k3 _ _ x524000_3 true _ ?side1 ?side2 A49.out).mono ?_); (case side1 => exact ce_ ((Kd.R_reads' HO_524000.out).2.2)); (case side2 => exact (Kd.R_reads' HO_524000.out).2.1); rintro e w71 ⟨rfl, hb⟩; refine ⟨_, rfl, ?_⟩; replace HO_6 := Aside0.mk (Kd.R_below (re_ HO_6.out) hb); replace HO_524000 := Aside0.mk (Kd.R_below (re_ HO_524000.out) hb); replace BK512 := bk_ BK512 hb; replace BK516 := bk_ BK516 hb; replace BK523 := bk_ BK523 hb; replace HB := bp_ HB hb; (try clear hb); have hcz72_0 := cz_ BK523; have hfz72_0 := blk_frozen BK523.out 0) | (go_at_call 62; (with_reducible refine (impl_Gaps.calls k3 _ _ x524000_3 t531 _ ?side1 ?side2 A51.out).mono ?_); (case side1 => exact ce_ ((Kd.R_reads' HO_524000.out).2.2)); (case side2 => exact (Kd.R_reads' HO_524000.out).2.1); rintro e w73 ⟨v532, rfl, ho0, hb⟩; replace HO_6 := Aside0.mk (Kd.R_below (re_ HO_6.out) hb); have HO533 := Aside0.mk (Kd.R_lower (Kd.R_new' ho0 (Kd.R_lt (re_ HO_524000.out))) (below_size (bq_ HB))); replace HO_524000 := Aside0.mk (Kd.R_elder' (re_ HO_524000.out) (Kd.R_base ho0) hb); replace BK512 := bk_ BK512 hb; replace BK516 := bk_ BK516 hb; replace BK523 := bk_ BK523 hb; replace HB := bp_ HB hb; (try clear hb); (try clear ho0); obtain ⟨Ao74, co74, eo74⟩ := Kd.R_slice HO533.out; subst eo74) | (go_at_call 89; (with_reducible refine (slices_Equal_int_int.calls k3 _ _ t531 _ _ l0 false _ ?side1 ?side2 ?side3 ?side4 A52.out).mono ?_); (case side1 => exact ce_ ((Kd.R_reads' HO533.out).2.2)); (case side2 => exact (Kd.R_reads' HO533.out).2.1); (case side3 => exact ch_ HR0 HB); (case side4 => exact HC0.out); rintro e w' ⟨rfl, ⟨nd, rfl⟩⟩; (try (rw [drewN_self w73]; generalize hq_ : World.drewN w73 _ = w73; have n0_ : Aside0 (Kd.R (Kd.int .i64) 3 w73 w.heap.size (fun k_ => some k_ ≠ (.slice Ao70 x524000_3.length co70 : Value).ownBlock) (.slice Ao74 t531.length co74) t531) := ⟨by rw [← hq_]; exact (by (with_reducible repeat (first | apply Kd.R_alloc | apply Kd.R_drewN | apply Kd.R_drew)); exact Kd.R_mono HO533.out (fun _ hk => hk.2))⟩; have n1_ : Aside0 (Kd.R (Kd.int .i64) 3 w73 w.heap.size (fun k_ => some k_ ≠ (.slice Ao74 t531.length co74 : Value).ownBlock) (.slice Ao70 x524000_3.length co70) x524000_3) := ⟨by rw [← hq_]; exact (by (with_reducible repeat (first | apply Kd.R_alloc | apply Kd.R_drewN | apply Kd.R_drew)); exact Kd.R_mono HO_524000.out (fun _ hk => hk.2))⟩; have n2_ : Aside0 (Kd.R Kd.bool 4 w73 w.heap.size (fun _ => True) (.slice Ao66 x6_2.length co66) x6_2) := ⟨by rw [← hq_]; exact (re_ HO_6.out)⟩; have n3_ : Aside0 (w73.heap[gb512]? = some (.cells #[.slice none 0 0] 26 (0, 0))) := ⟨by rw [← hq_]; exact (be_ BK512.out)⟩; have n4_ : Aside0 (w73.heap[gb516]? = some (.cells #[.int .i64 t513, .int .i64 t514] 70 (0, 0))) := ⟨by rw [← hq_]; exact (be_ BK516.out)⟩; have n5_ : Aside0 (w73.heap[gb523]? = some (.cells #[.slice Ao70 x524000_3.length co70] 26 (0, 0))) := ⟨by rw [← hq_]; exact (be_ BK523.out)⟩; have n6_ : Aside0 (Below w.heap.size w w73) := ⟨by rw [← hq_]; exact (bq_ HB)⟩; clear HO533 HO_524000 HO_6 BK512 BK516 BK523 HB hq_; have HO533 := n0_; have HO_524000 := n1_; have HO_6 := n2_; have BK512 := n3_; have BK516 := n4_; have BK523 := n5_; have HB := n6_; clear n0_ n1_ n2_ n3_ n4_ n5_ n6_)); have hnb75 := NB512_516.out; have hnc75 := NB516_512.out; have hcz76_0 := cz_ BK512; have hfz76_0 := blk_frozen BK512.out 0))
         refine bodyPost_ret (results_ct rfl _ _ gb512 26 #[.slice none 0 0] (0, 0) _ rfl (bz_ BK512) Try.underlying26 rfl (by kernel_rfl)) rfl ?_
         exact ⟨_, rf_, by first | exact Kd.R_nil _ _ _ _ _ | exact Kd.N_nil _ _ _ _ _ | exact Kd.V_nil _ _ _ _ _ | exact Kd.Q_nil _ _ _ _ _ | exact Kd.S_nil _ _ _ _ _, bq_ HB⟩
       rw [if_pos c29] at H
       have c29b0 : decide (x10_3 < (x6_2.length : Int)) = true := decide_eq_true c29
       clear c29
       obtain ⟨c30b0, H⟩ := ipd_ H
       have H' := Aside0.mk H
       clear H
       obtain ⟨Ao31, co31, eo31⟩ := Kd.R_slice HO_6.out
       subst eo31
       have p524 : 0 ≤ (x10_3 : Int) := od_
       have q524 : x10_3 < (x6_2.length : Int) := od_
       obtain ⟨ad524, e524, hx524_0⟩ := Kd.at_bool (Kd.R_reads' HO_6.out).2.2 x10_3 p524 q524
       cases e524
       replace p524 := eq_true p524
       replace q524 := eq_true q524
       go_wp2
       go_loopg [11, 12] k3 (fun kq v11 v12 w' => ∃ (x11_4 : Bool) (x12_4 : Int), v11 = .bool x11_4 ∧ v12 = .int .i64 x12_4 ∧ Aside0 (impl_FromGaps.l2 kq l0 x6_2 x10_3 x11_4 x12_4 x524000_3 = some (r1, r2)) ∧ Aside0 (kq ≤ k3) ∧ Aside0 (Kd.R Kd.bool 4 w' w.heap.size (fun _ => True) (.slice (some ad524) x6_2.length co31) x6_2) ∧ Aside0 (Kd.R (Kd.int .i64) 3 w' w.heap.size (fun _ => True) u524000 x524000_3) ∧ Aside0 (w'.heap[gb512]? = some (.cells #[(.slice none 0 0)] 26 (0, 0))) ∧ Aside0 (w'.heap[gb516]? = some (.cells #[.int .i64 t513, .int .i64 t514] 70 (0, 0))) ∧ Aside0 (w'.heap[gb523]? = some (.cells #[u524000] 26 (0, 0))) ∧ Aside0 (Below w.heap.size w w'))
       case atStart => exact ⟨(rdOf false x6_2 x10_3), (1), rs_, rs_, H', ⟨Nat.le_refl _⟩, ⟨re_ HO_6.out⟩, ⟨re_ HO_524000.out⟩, ⟨be_ BK512.out⟩, ⟨be_ BK516.out⟩, ⟨be_ BK523.out⟩, ⟨bq_ HB⟩⟩
       case round =>
        clear H'
        try clear c29b0
        try clear c30b0
        try clear hx524_0
        try clear p524
        try clear q524
        obtain ⟨x11_4, x12_4, rfl, rfl, HA, HK4, HO_6, HO_524000, BK512, BK516, BK523, HB⟩ := hrel
        cases gk with
        | zero => exact absurd HA.out (by simp [impl_FromGaps.l2])
        | succ k4 =>
         have H := HA.out
         clear HA
         simp only [impl_FromGaps.l2] at H
         by_cases c32 : (wrap64 (2 * x12_4)) ≤ x10_3
         rotate_left
         · rw [if_neg c32] at H
           have c32b0 : decide ((wrap64 (2 * x12_4)) ≤ x10_3) = false := decide_eq_false c32
           clear c32
           by_cases c41 : x11_4 = true
           · subst c41
             rw [if_pos rfl] at H
             have H' := Aside0.mk H
             clear H
             go_wp2
             go_roundg k4
             case measure => have := HJ2.out; have := HK2.out; have := HK3.out; have := HK4.out; omega
             case rel => exact ⟨(wrap64 (x10_3 + 1)), (x524000_3), (u524000), rs_, H', ⟨by have := HJ2.out; have := HK2.out; have := HK3.out; have := HK4.out; omega⟩, ⟨re_ HO_6.out⟩, ⟨re_ HO_524000.out⟩, ⟨be_ BK512.out⟩, ⟨be_ BK516.out⟩, ⟨be_ BK523.out⟩, ⟨bq_ HB⟩⟩
           replace c41 := Bool.eq_false_iff.mpr c41
           subst c41
           rw [if_neg (show ¬ (false = true) by decide)] at H
           obtain ⟨c42, H⟩ := ip_ H
           have LMc42 := Aside0.mk c42
           clear c42
           obtain ⟨y527, hy527⟩ : ∃ y_ : List Int, y_ = (x524000_3 ++ [x10_3]) := ⟨_, rfl⟩
           replace H : (impl_FromGaps.l1 k4 l0 x6_2 (wrap64 (x10_3 + 1)) y527) = some (r1, r2) := by subst hy527; exact H
           have Ny527 := Aside0.mk hy527
           clear hy527
           have H' := Aside0.mk H
           clear H
           have hnb43 := NB523_512.out
           have hnc43 := NB512_523.out
           have hnb44 := NB523_516.out
           have hnc44 := NB516_523.out
           have hcz45_0 := cz_ BK523
           have hfz45_0 := blk_frozen BK523.out 0
           go_wp2_with (first | ((with_reducible refine gate_builtin (b := .append) (xs := #[.tmp 74, .tmp 76]) rfl ?_); at_builtin; refine Kd.R_append (Kd.int .i64) (w0 := w) w.heap.size rfl (.tmp 74) (.tmp 76) 24 3 (.int .i64 0) 8 rfl Try.underlying24 info3 rfl (by decide) (by omega) u524000 x524000_3 x10_3 [.int .i64 x10_3] (fun _ => True) (fun _ => False) rfl rfl ?aP (fun _ hk => hk.elim) ?aF ?aO ?aB ?aS ?aL ?_; (case aP => exact rfl); (case aB => exact (bq_ HB)); (case aF => exact (fun _ _ => trivial)); (case aO => exact (re_ HO_524000.out)); (case aS => exact (below_size (bq_ HB))); (case aL => have := LMc42.out; omega); intro v528 w46 ho hb hg hat; rw [← Ny527.out] at ho; replace HO_6 := Aside0.mk (Kd.R_over' (re_ HO_6.out) (Kd.R_typed (re_ HO_524000.out)) (by decide) hg); replace BK512 := Aside0.mk (blk_grown (be_ BK512.out) hg (Kd.R_ne HO_524000.out BK512.out (by decide))); replace BK516 := Aside0.mk (blk_grown (be_ BK516.out) hg (Kd.R_ne HO_524000.out BK516.out (by decide))); replace BK523 := Aside0.mk (blk_grown (be_ BK523.out) hg (Kd.R_ne HO_524000.out BK523.out (by decide))); replace HB := Aside0.mk (hb); have HO529 := Aside0.mk (ho); clear HO_524000; clear ho hb hg hat; obtain ⟨Ao47, co47, eo47⟩ := Kd.R_slice HO529.out; subst eo47; have hcz48_0 := cz_ BK523; have hfz48_0 := blk_frozen BK523.out 0))
           go_roundg k4
           case measure => have := HJ2.out; have := HK2.out; have := HK3.out; have := HK4.out; omega
           case rel => exact ⟨(wrap64 (x10_3 + 1)), (y527), (.slice Ao47 y527.length co47), rs_, H', ⟨by have := HJ2.out; have := HK2.out; have := HK3.out; have := HK4.out; omega⟩, ⟨by (with_reducible repeat (first | apply Kd.R_alloc | apply Kd.R_drewN | apply Kd.R_drew)); exact Kd.R_mono (Kd.R_far (p := ⟨gb523, 0, none⟩) (Kd.R_types HO_6.out BK523.out (by decide)) (fun _ hk => hk.2) (.slice Ao47 y527.length co47)) (fun _ hk => trivial)⟩, ⟨by (with_reducible repeat (first | apply Kd.R_alloc | apply Kd.R_drewN | apply Kd.R_drew)); exact Kd.R_mono (Kd.R_far (p := ⟨gb523, 0, none⟩) (Kd.R_types HO529.out BK523.out (by decide)) (fun _ hk => hk.2) (.slice Ao47 y527.length co47)) (fun _ hk => trivial)⟩, ⟨ba_ BK512⟩, ⟨ba_ BK516⟩, ⟨bz_ BK523⟩, ⟨bq_ HB⟩⟩
         rw [if_pos c32] at H
         have c32b0 : decide ((wrap64 (2 * x12_4)) ≤ x10_3) = true := decide_eq_true c32
         clear c32
         by_cases c33 : x11_4 = true
         · subst c33
           rw [if_pos rfl] at H
           have H' := Aside0.mk H
           clear H
           go_wp2
           go_roundg k4
           case measure => have := HJ2.out; have := HK2.out; have := HK3.out; have := HK4.out; omega
           case rel => exact ⟨(wrap64 (x10_3 + 1)), (x524000_3), (u524000), rs_, H', ⟨by have := HJ2.out; have := HK2.out; have := HK3.out; have := HK4.out; omega⟩, ⟨re_ HO_6.out⟩, ⟨re_ HO_524000.out⟩, ⟨be_ BK512.out⟩, ⟨be_ BK516.out⟩, ⟨be_ BK523.out⟩, ⟨bq_ HB⟩⟩
         replace c33 := Bool.eq_false_iff.mpr c33
         subst c33
         rw [if_neg (show ¬ (false = true) by decide)] at H
         obtain ⟨c34b0, H⟩ := ipd_ H
         obtain ⟨c35b0, H⟩ := ipd_ H
         obtain ⟨bq36, hbq36⟩ : ∃ b_ : Bool, b_ = (rdOf false x6_2 x12_4) := ⟨_, rfl⟩
         replace H : (if bq36 = true then (impl_FromGaps.l2 k4 l0 x6_2 x10_3 false (wrap64 (x12_4 + 1)) x524000_3) else (if 0 ≤ (wrap64 (x10_3 - x12_4)) then (if (wrap64 (x10_3 - x12_4)) < (x6_2.length : Int) then (impl_FromGaps.l2 k4 l0 x6_2 x10_3 (!(rdOf false x6_2 (wrap64 (x10_3 - x12_4)))) (wrap64 (x12_4 + 1)) x524000_3) else (none)) else (none))) = some (r1, r2) := by rw [← hbq36] at H; exact H
         have Nbq36 := Aside0.mk hbq36
         clear hbq36
         by_cases c37 : bq36 = true
         · subst c37
           rw [if_pos rfl] at H
           have H' := Aside0.mk H
           clear H
           have p525 : 0 ≤ (x12_4 : Int) := od_
           have q525 : x12_4 < (x6_2.length : Int) := od_
           obtain ⟨ad525, e525, hx525_0⟩ := Kd.at_bool (Kd.R_reads' HO_6.out).2.2 x12_4 p525 q525
           (try rw [← Nbq36.out] at hx525_0)
           obtain rfl : ad524 = ad525 := (by injection e525)
           replace p525 := eq_true p525
           replace q525 := eq_true q525
           go_wp2
           go_roundg k4
           case measure => have := HJ2.out; have := HK2.out; have := HK3.out; have := HK4.out; omega
           case rel => exact ⟨(false), (wrap64 (x12_4 + 1)), rs_, rs_, H', ⟨by have := HJ2.out; have := HK2.out; have := HK3.out; have := HK4.out; omega⟩, ⟨re_ HO_6.out⟩, ⟨re_ HO_524000.out⟩, ⟨be_ BK512.out⟩, ⟨be_ BK516.out⟩, ⟨be_ BK523.out⟩, ⟨bq_ HB⟩⟩
         replace c37 := Bool.eq_false_iff.mpr c37
         subst c37
         rw [if_neg (show ¬ (false = true) by decide)] at H
         obtain ⟨ji38, hji38⟩ : ∃ j_ : Int, (wrap64 (x10_3 - x12_4)) = j_ := ⟨_, rfl⟩
         replace H : (if 0 ≤ (ji38) then (if (ji38) < (x6_2.length : Int) then (impl_FromGaps.l2 k4 l0 x6_2 x10_3 (!(rdOf false x6_2 (ji38))) (wrap64 (x12_4 + 1)) x524000_3) else (none)) else (none)) = some (r1, r2) := by first | (rw [hji38] at H; exact H) | (simp only [hji38] at H ⊢; exact H)
         have hji38w : (IntKind.i64.wrap (x10_3 - x12_4)) = ji38 := (i64_w _).trans hji38
         obtain ⟨c39b0, H⟩ := ipd_ H
         obtain ⟨c40b0, H⟩ := ipd_ H
         have H' := Aside0.mk H
         clear H
         have p525 : 0 ≤ (x12_4 : Int) := od_
         have q525 : x12_4 < (x6_2.length : Int) := od_
         obtain ⟨ad525, e525, hx525_0⟩ := Kd.at_bool (Kd.R_reads' HO_6.out).2.2 x12_4 p525 q525
         (try rw [← Nbq36.out] at hx525_0)
         obtain rfl : ad524 = ad525 := (by injection e525)
         replace p525 := eq_true p525
         replace q525 := eq_true q525
         have p526 : 0 ≤ ((ji38) : Int) := od_
         have q526 : (ji38) < (x6_2.length : Int) := od_
         obtain ⟨ad526, e526, hx526_0⟩ := Kd.at_bool (Kd.R_reads' HO_6.out).2.2 (ji38) p526 q526
         (try rw [← Nbq36.out] at hx526_0)
         obtain rfl : ad524 = ad526 := (by injection e526)
         replace p526 := eq_true p526
         replace q526 := eq_true q526
         go_wp2
         go_roundg k4
         case measure => have := HJ2.out; have := HK2.out; have := HK3.out; have := HK4.out; omega
         case rel => exact ⟨(!(rdOf false x6_2 (ji38))), (wrap64 (x12_4 + 1)), (by first | rfl | (simp; done) | (simp only [← hji38] <;> (first | rfl | simp)) | (simp [*]; done)), rs_, H', ⟨by have := HJ2.out; have := HK2.out; have := HK3.out; have := HK4.out; omega⟩, ⟨re_ HO_6.out⟩, ⟨re_ HO_524000.out⟩, ⟨be_ BK512.out⟩, ⟨be_ BK516.out⟩, ⟨be_ BK523.out⟩, ⟨bq_ HB⟩⟩
end Go.Proofs.Ytonknpgfbkgbjaa.PC
end
section
namespace Go.Proofs
open Go.Shelf
def Try.lays189_ren : Go.Shelf.Ren := ⟨fun | 189 => 90 | 125 => 101 | 257 => 105 | 128 => 115 | 129 => 116 | 294 => 118 | 295 => 119 | 296 => 120 | 297 => 121 | 298 => 122 | 299 => 123 | 216 => 124 | 300 => 125 | 301 => 126 | 328 => 132 | 329 => 128 | 330 => 129 | 331 => 133 | 332 => 134 | 215 => 117 | 343 => 136 | n => n, fun | 28 => 24 | 3 => 3 | 46 => 79 | 0 => 0 | 51 => 90 | 53 => 92 | 4 => 4 | 183 => 83 | 182 => 82 | 131 => 87 | 5 => 5 | 9 => 9 | 218 => 98 | 222 => 102 | 228 => 106 | 229 => 107 | n => n, fun | n => n⟩
theorem Try.lays189 : Go.Proofs.Lays.n189 Try.prog Try.lays189_ren := {
 mixed := by kernel_rfl
 f125 := Try.func101.trans (congrArg some (by kernel_rfl))
 f128 := Try.func115.trans (congrArg some (by kernel_rfl))
 f129 := Try.func116.trans (congrArg some (by kernel_rfl))
 f189 := Try.func90.trans (congrArg some (by kernel_rfl))
 f215 := Try.func117.trans (congrArg some (by kernel_rfl))
 f216 := Try.func124.trans (congrArg some (by kernel_rfl))
 f257 := Try.func105.trans (congrArg some (by kernel_rfl))
 f294 := Try.func118.trans (congrArg some (by kernel_rfl))
 f295 := Try.func119.trans (congrArg some (by kernel_rfl))
 f296 := Try.func120.trans (congrArg some (by kernel_rfl))
 f297 := Try.func121.trans (congrArg some (by kernel_rfl))
 f298 := Try.func122.trans (congrArg some (by kernel_rfl))
 f299 := Try.func123.trans (congrArg some (by kernel_rfl))
 f300 := Try.func125.trans (congrArg some (by kernel_rfl))
 f301 := Try.func126.trans (congrArg some (by kernel_rfl))
 f328 := Try.func132.trans (congrArg some (by kernel_rfl))
 f329 := Try.func128.trans (congrArg some (by kernel_rfl))
 f330 := Try.func129.trans (congrArg some (by kernel_rfl))
 f331 := Try.func133.trans (congrArg some (by kernel_rfl))
 f332 := Try.func134.trans (congrArg some (by kernel_rfl))
 f343 := Try.func136.trans (congrArg some (by kernel_rfl))
 t0 := Try.underlying0
 a0 := Try.isAgg0
 z0 := Try.sizeOf0
 v0 := Try.zeroValue0
 t3 := Try.underlying3
 a3 := Try.isAgg3
 z3 := Try.sizeOf3
 v3 := Try.zeroValue3
 t4 := Try.underlying4
 a4 := Try.isAgg4
 z4 := Try.sizeOf4
 v4 := Try.zeroValue4
 t5 := Try.underlying5
 a5 := Try.isAgg5
 z5 := Try.sizeOf5
 v5 := Try.zeroValue5
 t9 := Try.underlying9
 a9 := Try.isAgg9
 z9 := Try.sizeOf9
 v9 := Try.zeroValue9
 t28 := Try.underlying24
 a28 := Try.isAgg24
 z28 := Try.sizeOf24
 v28 := Try.zeroValue24
 t46 := Try.underlying79
 a46 := Try.isAgg79
 z46 := Try.sizeOf79
 v46 := Try.zeroValue79
 t51 := Try.underlying90
 a51 := Try.isAgg90
 z51 := Try.sizeOf90
 v51 := Try.zeroValue90
 t53 := Try.underlying92
 a53 := Try.isAgg92
 z53 := Try.sizeOf92
 v53 := Try.zeroValue92
 t131 := Try.underlying87
 a131 := Try.isAgg87
 z131 := Try.sizeOf87
 v131 := Try.zeroValue87
 t182 := Try.underlying82
 a182 := Try.isAgg82
 z182 := Try.sizeOf82
 v182 := Try.zeroValue82
 t183 := Try.underlying83
 a183 := Try.isAgg83
 z183 := Try.sizeOf83
 v183 := Try.zeroValue83
 t218 := Try.underlying98
 a218 := Try.isAgg98
 z218 := Try.sizeOf98
 v218 := Try.zeroValue98
 t222 := Try.underlying102
 a222 := Try.isAgg102
 z222 := Try.sizeOf102
 v222 := Try.zeroValue102
 t228 := Try.underlying106
 a228 := Try.isAgg106
 z228 := Try.sizeOf106
 v228 := Try.zeroValue106
 t229 := Try.underlying107
 a229 := Try.isAgg107
 z229 := Try.sizeOf107
 v229 := Try.zeroValue107 }
def Try.lays20_ren : Go.Shelf.Ren := ⟨fun | 20 => 91 | n => n, fun | 22 => 24 | 3 => 3 | 4 => 4 | 0 => 0 | n => n, fun | n => n⟩
theorem Try.lays20 : Go.Proofs.Lays2.n20 Try.prog Try.lays20_ren := {
 mixed := by kernel_rfl
 f20 := Try.func91.trans (congrArg some (by kernel_rfl))
 t0 := Try.underlying0
 a0 := Try.isAgg0
 z0 := Try.sizeOf0
 v0 := Try.zeroValue0
 t3 := Try.underlying3
 a3 := Try.isAgg3
 z3 := Try.sizeOf3
 v3 := Try.zeroValue3
 t4 := Try.underlying4
 a4 := Try.isAgg4
 z4 := Try.sizeOf4
 v4 := Try.zeroValue4
 t22 := Try.underlying24
 a22 := Try.isAgg24
 z22 := Try.sizeOf24
 v22 := Try.zeroValue24
 i3 := by kernel_rfl }
end Go.Proofs
end
section
namespace Go.Proofs.Ytonknpgfbkgbjaa.PC
open Go.RowKit Go.Proofs.YtonknpgfbkgbjaaW.PrintWords Go.Proofs.YtonknpgfbkgbjaaW.PrintLast Go.Proofs.YtonknpgfbkgbjaaW.PrintMore
attribute [local go_sem] max2_int min2_int max_two min_two max_three min_three max_four min_four
set_option linter.unusedVariables false
set_option linter.unusedSimpArgs false
set_option maxHeartbeats 8000000
set_option maxRecDepth 100000
theorem grow_empty_ (w : World) : Go.Sort.grow w #[] = w := by unfold Go.Sort.grow; simp
theorem slices_Sort_.calls (base : Nat) (ok : Nat → Prop) (v : Value) (xs : List Int) (w : World) (h : Kd.R (Kd.int .i64) 3 w base ok v xs) (hs : xs.length < 4611686018427387904) :
 Calls Try.prog 90 #[v] w fun e w' => e = .returned (.tuple #[]) ∧ Kd.R (Kd.int .i64) 3 w' base ok v (xs.mergeSort fun x y => decide (x ≤ y)) ∧ ∀ w0 : World, base ≤ w.heap.size → Below base w0 w → Below base w0 w' := by
 have ho : w.ownsRow base 3 1 v xs.length (encs (Value.int .i64) xs) := Kd.own_of_R h
 have hok := h.1
 rcases ho.2 with ⟨rfl, h0⟩ | ⟨g, cap, cur, rfl, hg, hb, h1, h2, h3, h4⟩
 · obtain rfl := List.eq_nil_of_length_eq_zero h0
   refine (Any.slices_Sort_int_none Try.lays189 none 0 w).mono ?_
   rintro e w' ⟨rfl, rfl⟩
   exact ⟨rfl, by simpa using h, fun _ _ hb => hb⟩
 · have hH := holds_of_blockI (ss := xs) hb (by simpa [encs] using h4)
   have hlt : g < w.heap.size := (Array.getElem?_eq_some_iff.1 hb).1
   refine (Any.slices_Sort_int Try.lays189 g 0 cap xs w hH hlt hs).mono ?_
   rintro e w' ⟨rfl, n, os, rfl⟩
   have hl : (xs.mergeSort fun x y => decide (x ≤ y)).length = xs.length := List.length_mergeSort ..
   refine ⟨rfl, Kd.R_of_own ?_ hok, fun w0 hw hb0 => hb0.grown (grownBy_sortedI _) hw (fun k hk => by injection hk with hk; omega)⟩
   have := ownsRow_sortedI (base := base) (n := n) (os := os) (ts := xs.mergeSort fun x y => decide (x ≤ y)) hl hg hb h1 h2 h3
   rw [hl]
   exact this
theorem compact_len (xs : List Int) : (Lib.compact xs).length ≤ xs.length := by
 unfold Lib.compact Lib.compactUpTo
 rw [List.length_map]
 exact Nat.le_trans (List.length_filter_le ..) (by simp)
theorem slices_Compact_.calls (base : Nat) (ok : Nat → Prop) (v : Value) (xs : List Int) (w : World) (h : Kd.R (Kd.int .i64) 3 w base ok v xs) :
 Calls Try.prog 91 #[v] w fun e w' => ∃ u, e = .returned u ∧ Kd.R (Kd.int .i64) 3 w' base ok u (Lib.compact xs) ∧ ∀ w0 : World, base ≤ w.heap.size → Below base w0 w → Below base w0 w' := by
 have ho : w.ownsRow base 3 1 v xs.length (encs (Value.int .i64) xs) := Kd.own_of_R h
 have hok := h.1
 have cl := compact_len xs
 rcases ho.2 with ⟨rfl, h0⟩ | ⟨g, cap, cur, rfl, hg, hb, h1, h2, h3, h4⟩
 · obtain rfl := List.eq_nil_of_length_eq_zero h0
   refine (Any.slices_Compact_int_empty Try.lays20 none 0 w).mono ?_
   rintro e w' ⟨rfl, rfl⟩
   exact ⟨_, rfl, h, fun _ _ hb => hb⟩
 · have hH := holds_of_blockI (ss := xs) hb (by simpa [encs] using h4)
   refine (Any.slices_Compact_int Try.lays20 g 0 cap xs w hH (by simp only [maxLen] at h2; omega) h1).mono ?_
   rintro e w' ⟨rfl, q, rfl⟩
   have hl : (Lib.compact xs ++ List.replicate (xs.length - (Lib.compact xs).length) 0).length = xs.length := by rw [List.length_append, List.length_replicate]; omega
   have hg0 := grow_empty_ (Go.Sort.putRow (Value.int .i64) (Go.Sort.ahead w q) g 0 (Lib.compact xs ++ List.replicate (xs.length - (Lib.compact xs).length) 0).toArray)
   have own := ownsRow_sortedI (base := base) (n := q) (os := #[]) (ts := Lib.compact xs ++ List.replicate (xs.length - (Lib.compact xs).length) 0) hl hg hb h1 h2 h3
   have gb := grownBy_sortedI (w := w) (g := g) (n := q) (os := #[]) (Lib.compact xs ++ List.replicate (xs.length - (Lib.compact xs).length) 0).toArray
   rw [hg0] at own gb
   refine ⟨_, rfl, Kd.R_of_own ?_ (fun k hk => hok k (by simpa [Value.ownBlock] using hk)), fun w0 hw hb0 => hb0.grown gb hw (fun k hk => by injection hk with hk; omega)⟩
   rcases own.2 with ⟨hv, _⟩ | ⟨g', cap', cur', hv, hg', hb', _, _, h3', h4'⟩
   · cases hv
   · injection hv with hv1 hv2 hv3
     injection hv1 with hv1
     injection hv1 with hv1
     subst hv1 hv3
     refine ⟨by rw [encs_length]; omega, .inr ⟨g, cap, cur', rfl, hg, hb', by omega, h2, h3', ?_⟩⟩
     have := congrArg (List.take (Lib.compact xs).length) h4'
     rw [List.take_take, Nat.mul_one, Nat.min_eq_left cl] at this
     rw [Nat.mul_one, this, List.map_append, List.take_left' (by simp)]
     rfl
def impl_SortList.f (k : Nat) (l : List Int) : Option (List Int) := if l.length < 17592186044416 then some (Lib.compact (l.mergeSort fun x y => decide (x ≤ y))) else none
theorem impl_SortList.calls (k : Nat) (A0 : Option Addr) (c0 : Nat) (l0 : List Int) (r : List Int) (w : World) (hr0 : Kd.C (Kd.int .i64) w A0 l0.length l0) (hc0 : l0.length ≤ c0) (h : impl_SortList.f k l0 = some r) :
 Calls Try.prog 61 #[.slice A0 l0.length c0] w fun e w' => ∃ v0_, e = .returned v0_ ∧ Kd.R (Kd.int .i64) 3 w' w.heap.size (fun _ => True) v0_ r ∧ Below w.heap.size w w' := by
 unfold impl_SortList.f at h
 by_cases c : l0.length < 17592186044416
 rotate_left
 · rw [if_neg c] at h; cases h
 rw [if_pos c] at h
 obtain rfl := Option.some.inj h
 clear h
 have hl := Aside0.mk c
 clear c
 have HR0 := Aside0.mk hr0
 clear hr0
 have huT_ := Try.underlying24
 go_enter Try.func61, Try.ntmps61
 go_wp2_with (first
  | ((with_reducible refine gate_dst (N := 4) rfl ?_); refine Kd.R_lit (Kd.int .i64) _ 3 ?hg (N := 4) ?hd (xs := ([] : List Int)) (inner := []) (ok := fun _ => True) (okp := fun _ => True) ?hr ?hp (fun _ hk => hk) trivial (Below.refl _ _) (Nat.le_refl _) (by simp) ?_; (case hd => rfl); (case hg => rfl); (case hr => first | (go_simp; done) | (go_simp; rfl)); (case hp => exact (Reps.none _ _)); intro v1 w1 ho hb hg_ hnew_; clear hg_ hnew_; have HO1 := Aside0.mk ho; have HB1 := Aside0.mk hb; clear ho hb)
  | ((with_reducible refine gate_builtin (b := .append) (xs := #[.tmp 4, .tmp 5]) rfl ?_); at_builtin; refine Kd.R_append_rows (Kd.int .i64) (w0 := w) w.heap.size rfl (.tmp 4) (.tmp 5) 24 3 (.int .i64 0) 8 rfl Try.underlying24 info3 rfl (by decide) (by omega) v1 [] l0 _ _ _ (fun _ => True) (fun _ => False) rfl rfl ?aO ?aR (fun _ _ h => h) (fun _ h => h.elim) (fun _ _ => trivial) ?aB ?aS ?aL ?_; (case aO => exact HO1.out); (case aR => exact Kd.C_below HR0.out HB1.out); (case aB => exact HB1.out); (case aS => exact below_size HB1.out); (case aL => have := hl.out; simp only [List.length_nil]; omega); intro v2 w2 ho hb hg hat; clear hg hat; have HO2 := Aside0.mk ho; have HB2 := Aside0.mk hb; clear ho hb)
  | (go_at_call 90; refine (slices_Sort_.calls w.heap.size (fun _ => True) v2 l0 _ HO2.out (by have := hl.out; omega)).mono ?_; rintro e w3 ⟨rfl, ho, hb⟩; have HO3 := Aside0.mk ho; have HB3 := Aside0.mk (hb w (below_size HB2.out) HB2.out); clear ho hb)
  | (go_at_call 91; refine (slices_Compact_.calls w.heap.size (fun _ => True) v2 _ _ HO3.out).mono ?_; rintro e w4 ⟨v4, rfl, ho, hb⟩; have HO4 := Aside0.mk ho; have HB4 := Aside0.mk (hb w (below_size HB3.out) HB3.out); clear ho hb))
 go_ret
 exact ⟨_, rfl, HO4.out, HB4.out⟩
def slices_Index_int_int.l0 : Nat → List Int → Int → Int → Int → Option (Int)
 | 0, _, _, _, _ => none
 | k + 1, x0, x1, x7, x8 => if x8 < x7 then (if 0 ≤ x8 then (if x8 < (x0.length : Int) then (if x1 = (rd x0 x8) then (some x8) else (slices_Index_int_int.l0 k x0 x1 x7 (wrap64 (x8 + 1)))) else (none)) else (none)) else (some (-1))
def slices_Index_int_int.f (k : Nat) (l0 : List Int) (a1 : Int) : Option (Int) := slices_Index_int_int.l0 k l0 a1 (l0.length : Int) 0
theorem slices_Index_int_int.calls (k : Nat) (A0 : Option Addr) (c0 : Nat) (l0 : List Int) (a1 : Int) (r : Int) (w : World) (hr0 : Kd.C (Kd.int .i64) w A0 l0.length l0) (hc0 : l0.length ≤ c0) (h : slices_Index_int_int.f k l0 a1 = some r) :
 Calls Try.prog 106 #[.slice A0 l0.length c0, .int .i64 a1] w fun e w' => e = .returned (.int .i64 r) ∧ Drawn0 w w' := by
 have HR0 := Aside0.mk hr0
 have HC0 := Aside0.mk hc0
 clear hr0 hc0
 have H := h
 clear h
 unfold slices_Index_int_int.f at H
 have H' := Aside0.mk H
 clear H
 go_enter Try.func106, Try.ntmps106
 go_wp2
 go_loopg [8] k (fun kq v8 w' => ∃ (x8_1 : Int), v8 = .int .i64 x8_1 ∧ Aside0 (slices_Index_int_int.l0 kq l0 a1 (l0.length : Int) x8_1 = some r) ∧ Aside0 (kq ≤ k) ∧ Drawn0 w w')
 case atStart => exact ⟨(0), rs_, H', ⟨Nat.le_refl _⟩, by repeat (first | exact Drawn0.refl _ | apply Drawn0.step)⟩
 case round =>
  clear H'
  obtain ⟨x8_1, rfl, HA, HK1, ⟨m1, rfl⟩⟩ := hrel
  cases gk with
  | zero => exact absurd HA.out (by simp [slices_Index_int_int.l0])
  | succ k1 =>
   have H := HA.out
   clear HA
   simp only [slices_Index_int_int.l0] at H
   by_cases c3 : x8_1 < (l0.length : Int)
   rotate_left
   · rw [if_neg c3] at H
     have c3b0 : decide (x8_1 < (l0.length : Int)) = false := decide_eq_false c3
     clear c3
     obtain rfl := Option.some.inj H
     go_wp2
     go_ret
     exact ⟨by first | rfl | (simp; done) | (simp [*]; done), by repeat (first | exact Drawn0.refl _ | apply Drawn0.step)⟩
   rw [if_pos c3] at H
   have c3b0 : decide (x8_1 < (l0.length : Int)) = true := decide_eq_true c3
   clear c3
   obtain ⟨c4b0, H⟩ := ipd_ H
   obtain ⟨c5b0, H⟩ := ipd_ H
   by_cases c6 : a1 = (rd l0 x8_1)
   · rw [if_pos c6] at H
     have c6b0 : (a1 == (rd l0 x8_1)) = true := beq_iff_eq.mpr c6
     have c6b1 : (a1 != (rd l0 x8_1)) = false := bne_eq_false_iff_eq.mpr c6
     clear c6
     obtain rfl := Option.some.inj H
     have p716 : 0 ≤ (x8_1 : Int) := od_
     have q716 : x8_1 < (l0.length : Int) := od_
     obtain ⟨ad716, e716, hx716_0⟩ := Kd.at_int HR0.out x8_1 p716 q716
     cases e716
     replace p716 := eq_true p716
     replace q716 := eq_true q716
     go_wp2
     go_ret
     exact ⟨by first | rfl | (simp; done) | (simp [*]; done), by repeat (first | exact Drawn0.refl _ | apply Drawn0.step)⟩
   rw [if_neg c6] at H
   have c6b0 : (a1 == (rd l0 x8_1)) = false := beq_eq_false_iff_ne.mpr c6
   have c6b1 : (a1 != (rd l0 x8_1)) = true := bne_iff_ne.mpr c6
   have H' := Aside0.mk H
   clear H
   have p716 : 0 ≤ (x8_1 : Int) := od_
   have q716 : x8_1 < (l0.length : Int) := od_
   obtain ⟨ad716, e716, hx716_0⟩ := Kd.at_int HR0.out x8_1 p716 q716
   cases e716
   replace p716 := eq_true p716
   replace q716 := eq_true q716
   go_wp2
   go_roundg k1
   case measure => have := HK1.out; omega
   case rel => exact ⟨(wrap64 (x8_1 + 1)), rs_, H', ⟨by have := HK1.out; omega⟩, by repeat (first | exact Drawn0.refl _ | apply Drawn0.step)⟩
def slices_Contains_int_int.f (k : Nat) (l0 : List Int) (a1 : Int) : Option (Bool) := (slices_Index_int_int.f k l0 a1).bind fun t717 => (some (decide (t717 ≥ 0)))
theorem slices_Contains_int_int.calls (k : Nat) (A0 : Option Addr) (c0 : Nat) (l0 : List Int) (a1 : Int) (r : Bool) (w : World) (hr0 : Kd.C (Kd.int .i64) w A0 l0.length l0) (hc0 : l0.length ≤ c0) (h : slices_Contains_int_int.f k l0 a1 = some r) :
 Calls Try.prog 99 #[.slice A0 l0.length c0, .int .i64 a1] w fun e w' => e = .returned (.bool r) ∧ Drawn0 w w' := by
 have HR0 := Aside0.mk hr0
 have HC0 := Aside0.mk hc0
 clear hr0 hc0
 have H := h
 clear h
 unfold slices_Contains_int_int.f at H
 obtain ⟨t717, A3, H⟩ := ob_ H
 obtain rfl := Option.some.inj H
 go_enter Try.func99, Try.ntmps99
 go_wp2_with (first | ((with_reducible refine gate_callee (f := 106) rfl ?_); refine gL_ (some 7) Try.func106 #[.slice A0 l0.length c0, .int .i64 a1] ?_; (with_reducible refine (slices_Index_int_int.calls k _ _ l0 a1 t717 _ ?side1 ?side2 A3.out).mono ?_); (case side1 => exact ce_ (HR0.out)); (case side2 => exact HC0.out); rintro e w' ⟨rfl, ⟨nd, rfl⟩⟩; refine ⟨_, rfl, ?_⟩))
 go_ret
 exact ⟨by first | rfl | (simp; done) | (simp [*]; done), by repeat (first | exact Drawn0.refl _ | apply Drawn0.step)⟩
def impl_RemoveGenerator.j0 : Nat → Int → Bool → List Int → Option (List Int × Bool)
 | 0, _, _, _ => none
 | k + 1, x1, x15, x719000 => if x15 = true then (some (([] : List Int), false)) else ((impl_Gaps.f k x719000).bind fun t722 => (if t722.length < 17592186044416 then ((impl_SortList.f k (t722 ++ [x1])).bind fun t728 => ((impl_FromGaps.f k t728).bind fun bt731 => (some (bt731.1, bt731.2)))) else (none)))
def impl_RemoveGenerator.f (k : Nat) (l0_0 : List Int) (a1 : Int) : Option (List Int × Bool) := (impl_IsSemigroup.f k l0_0).bind fun t720 => (if t720 = true then ((slices_Contains_int_int.f k l0_0 a1).bind fun t721 => (impl_RemoveGenerator.j0 k a1 (!t721) l0_0)) else (impl_RemoveGenerator.j0 k a1 true l0_0))
theorem impl_RemoveGenerator.calls (k : Nat) (A0_0 : Option Addr) (c0_0 : Nat) (l0_0 : List Int) (a1 : Int) (r1 : List Int) (r2 : Bool) (w : World) (hr0_0 : Kd.C (Kd.int .i64) w A0_0 l0_0.length l0_0) (hc0_0 : l0_0.length ≤ c0_0) (h : impl_RemoveGenerator.f k l0_0 a1 = some (r1, r2)) :
 Calls Try.prog 76 #[.agg #[.slice A0_0 l0_0.length c0_0], .int .i64 a1] w fun e w' => ∃ v0_ : Value, e = .returned (.tuple #[.agg #[v0_], .bool r2]) ∧ Kd.R (Kd.int .i64) 3 w' w.heap.size (fun _ => True) v0_ r1 ∧ Below w.heap.size w w' := by
 have hu26 := Try.underlying26
 have HR0_0 := Aside0.mk hr0_0
 have HC0_0 := Aside0.mk hc0_0
 clear hr0_0 hc0_0
 have HB := Aside0.mk (Below.refl w.heap.size w)
 have H := h
 clear h
 unfold impl_RemoveGenerator.f at H
 have HC3 := Aside0.mk H
 clear H
 go_enter Try.func76, Try.ntmps76
 go_upto_region 1 with (first | ((with_reducible refine gate_dst (N := 2) rfl ?_); refine bx_ 2 #[.slice A0_0 l0_0.length c0_0] 26 ?_; intro gb718 hg w4 hbox hb; have BK718 := Aside0.mk (hbox); have GW718 := gw_ hg HB; have GE718 := gw_ hg HB; replace HB := bo_ HB hb; clear hb hbox hg) | ((with_reducible refine gate_dst (N := 4) rfl ?_); refine bx_ 4 #[.slice none 0 0] 26 ?_; intro gb719 hg w5 hbox hb; have BK719 := Aside0.mk (hbox); have GW719 := gq_ hg (bq_ HB); have GE719 := gq_ hg (bq_ HB); replace HB := bp_ HB hb; have NB718_719 := nl_ hg BK718; have NB719_718 := ng_ hg BK718; replace BK718 := bk_ BK718 hb; clear hb hbox hg))
 (try simp only [Act.put, z1_, z2_, z3_])
 go_cut [15] (fun v15 wc => ∃ (kq : Nat) (x15_2 : Bool), v15 = .bool x15_2 ∧ Aside0 (impl_RemoveGenerator.j0 kq a1 x15_2 l0_0 = some (r1, r2)) ∧ Aside0 (kq ≤ k) ∧ Aside0 (wc.heap[gb718]? = some (.cells #[(.slice A0_0 l0_0.length c0_0)] 26 (0, 0))) ∧ Aside0 (wc.heap[gb719]? = some (.cells #[(.slice none 0 0)] 26 (0, 0))) ∧ Aside0 (Below w.heap.size w wc))
 case first =>
  have H := HC3.out
  clear HC3
  obtain ⟨t720, A6, H⟩ := ob_ H
  by_cases c7 : t720 = true
  rotate_left
  · replace c7 := Bool.eq_false_iff.mpr c7
    subst c7
    rw [if_neg (show ¬ (false = true) by decide)] at H
    have H' := Aside0.mk H
    clear H
    have hnb13 := NB718_719.out
    have hnc13 := NB719_718.out
    have hcz14_0 := cz_ BK718
    have hfz14_0 := blk_frozen BK718.out 0
    go_wp2_with (first | ((with_reducible refine gate_callee (f := 28) rfl ?_); refine gL_ (some 7) Try.func28 #[.agg #[.slice A0_0 l0_0.length c0_0]] ?_; (with_reducible refine (impl_IsSemigroup.calls k _ _ l0_0 false _ ?side1 ?side2 A6.out).mono ?_); (case side1 => exact ch_ HR0_0 HB); (case side2 => exact HC0_0.out); rintro e w15 ⟨rfl, hb⟩; refine ⟨_, rfl, ?_⟩; replace BK718 := bk_ BK718 hb; replace BK719 := bk_ BK719 hb; replace HB := bp_ HB hb; (try clear hb)))
    go_meet
    case rel => exact ⟨_, (true), rs_, H', ⟨by first | omega | exact Nat.le_refl _⟩, ⟨be_ BK718.out⟩, ⟨be_ BK719.out⟩, ⟨bq_ HB⟩⟩
  subst c7
  rw [if_pos rfl] at H
  obtain ⟨t721, A8, H⟩ := ob_ H
  have H' := Aside0.mk H
  clear H
  have hnb9 := NB718_719.out
  have hnc9 := NB719_718.out
  have hcz10_0 := cz_ BK718
  have hfz10_0 := blk_frozen BK718.out 0
  go_wp2_with (first | ((with_reducible refine gate_callee (f := 28) rfl ?_); refine gL_ (some 7) Try.func28 #[.agg #[.slice A0_0 l0_0.length c0_0]] ?_; (with_reducible refine (impl_IsSemigroup.calls k _ _ l0_0 true _ ?side1 ?side2 A6.out).mono ?_); (case side1 => exact ch_ HR0_0 HB); (case side2 => exact HC0_0.out); rintro e w11 ⟨rfl, hb⟩; refine ⟨_, rfl, ?_⟩; replace BK718 := bk_ BK718 hb; replace BK719 := bk_ BK719 hb; replace HB := bp_ HB hb; (try clear hb); have hcz12_0 := cz_ BK718; have hfz12_0 := blk_frozen BK718.out 0) | (go_at_call 99; (with_reducible refine (slices_Contains_int_int.calls k _ _ l0_0 a1 t721 _ ?side1 ?side2 A8.out).mono ?_); (case side1 => exact ch_ HR0_0 HB); (case side2 => exact HC0_0.out); rintro e w' ⟨rfl, ⟨nd, rfl⟩⟩))
  go_meet
  case rel => exact ⟨_, (!t721), rs_, H', ⟨by first | omega | exact Nat.le_refl _⟩, ⟨be_ BK718.out⟩, ⟨be_ BK719.out⟩, ⟨bq_ HB⟩⟩
 case rest =>
  clear HC3
  obtain ⟨kq, x15_2, rfl, HA, HJ2, BK718, BK719, HB⟩ := hcut
  cases kq with
  | zero => exact absurd HA.out (by simp [impl_RemoveGenerator.j0])
  | succ kj2 =>
   have H := HA.out
   clear HA
   simp only [impl_RemoveGenerator.j0] at H
   by_cases c16 : x15_2 = true
   · subst c16
     rw [if_pos rfl] at H
     simp only [Option.some.injEq, Prod.mk.injEq] at H
     obtain ⟨rfl, rfl⟩ := H
     have hnb17 := NB719_718.out
     have hnc17 := NB718_719.out
     have hcz18_0 := cz_ BK719
     have hfz18_0 := blk_frozen BK719.out 0
     go_wp2
     refine bodyPost_ret (results_ct rfl _ _ gb719 26 #[.slice none 0 0] (0, 0) _ rfl (bz_ BK719) Try.underlying26 rfl (by kernel_rfl)) rfl ?_
     exact ⟨_, rf_, by first | exact Kd.R_nil _ _ _ _ _ | exact Kd.N_nil _ _ _ _ _ | exact Kd.V_nil _ _ _ _ _ | exact Kd.Q_nil _ _ _ _ _ | exact Kd.S_nil _ _ _ _ _, bq_ HB⟩
   replace c16 := Bool.eq_false_iff.mpr c16
   subst c16
   rw [if_neg (show ¬ (false = true) by decide)] at H
   obtain ⟨t722, A19, H⟩ := ob_ H
   obtain ⟨c20, H⟩ := ip_ H
   have LMc20 := Aside0.mk c20
   clear c20
   obtain ⟨y725, hy725⟩ : ∃ y_ : List Int, y_ = (t722 ++ [a1]) := ⟨_, rfl⟩
   replace H : ((impl_SortList.f kj2 y725).bind fun t728 => ((impl_FromGaps.f kj2 t728).bind fun bt731 => (some (bt731.1, bt731.2)))) = some (r1, r2) := by subst hy725; exact H
   have Ny725 := Aside0.mk hy725
   clear hy725
   obtain ⟨t728, A21, H⟩ := ob_ H
   obtain ⟨⟨t731, t734⟩, A22, H⟩ := ob_ H
   (try dsimp only at H)
   simp only [Option.some.injEq, Prod.mk.injEq] at H
   obtain ⟨rfl, rfl⟩ := H
   have hnb23 := NB718_719.out
   have hnc23 := NB719_718.out
   have hcz24_0 := cz_ BK718
   have hfz24_0 := blk_frozen BK718.out 0
   go_wp2_with (first | ((with_reducible refine gate_callee (f := 62) rfl ?_); refine gL_ (some 18) Try.func62 #[.agg #[.slice A0_0 l0_0.length c0_0]] ?_; (with_reducible refine (impl_Gaps.calls kj2 _ _ l0_0 t722 _ ?side1 ?side2 A19.out).mono ?_); (case side1 => exact ch_ HR0_0 HB); (case side2 => exact HC0_0.out); rintro e w25 ⟨v723, rfl, ho0, hb⟩; refine ⟨_, rfl, ?_⟩; have HO724 := Aside0.mk (Kd.R_lower ho0 (below_size (bq_ HB))); replace BK718 := bk_ BK718 hb; replace BK719 := bk_ BK719 hb; replace HB := bp_ HB hb; (try clear hb); (try clear ho0)) | ((with_reducible refine gate_builtin (b := .append) (xs := #[.tmp 18, .tmp 20]) rfl ?_); at_builtin; refine Kd.R_append (Kd.int .i64) (w0 := w) w.heap.size rfl (.tmp 18) (.tmp 20) 24 3 (.int .i64 0) 8 rfl Try.underlying24 info3 rfl (by decide) (by omega) v723 t722 a1 [.int .i64 a1] (fun _ => True) (fun _ => False) rfl rfl ?aP (fun _ hk => hk.elim) ?aF ?aO ?aB ?aS ?aL ?_; (case aP => exact rfl); (case aB => exact (bq_ HB)); (case aF => exact (fun _ _ => trivial)); (case aO => exact (re_ HO724.out)); (case aS => exact (below_size (bq_ HB))); (case aL => have := LMc20.out; omega); intro v726 w26 ho hb hg hat; rw [← Ny725.out] at ho; replace BK718 := Aside0.mk (blk_grown (be_ BK718.out) hg (Kd.R_ne HO724.out BK718.out (by decide))); replace BK719 := Aside0.mk (blk_grown (be_ BK719.out) hg (Kd.R_ne HO724.out BK719.out (by decide))); replace HB := Aside0.mk (hb); have HO727 := Aside0.mk (ho); clear HO724; clear ho hb hg hat; obtain ⟨Ao27, co27, eo27⟩ := Kd.R_slice HO727.out; subst eo27) | ((with_reducible refine gate_callee (f := 61) rfl ?_); refine gL_ (some 22) Try.func61 #[.slice Ao27 y725.length co27] ?_; (with_reducible refine (impl_SortList.calls kj2 _ _ y725 t728 _ ?side1 ?side2 A21.out).mono ?_); (case side1 => exact ce_ ((Kd.R_reads' HO727.out).2.2)); (case side2 => exact (Kd.R_reads' HO727.out).2.1); rintro e w28 ⟨v729, rfl, ho0, hb⟩; refine ⟨_, rfl, ?_⟩; have HO730 := Aside0.mk (Kd.R_lower (Kd.R_new' ho0 (Kd.R_lt (re_ HO727.out))) (below_size (bq_ HB))); replace HO727 := Aside0.mk (Kd.R_elder' (re_ HO727.out) (Kd.R_base ho0) hb); replace BK718 := bk_ BK718 hb; replace BK719 := bk_ BK719 hb; replace HB := bp_ HB hb; (try clear hb); (try clear ho0); obtain ⟨Ao29, co29, eo29⟩ := Kd.R_slice HO730.out; subst eo29) | ((with_reducible refine gate_callee (f := 60) rfl ?_); refine gL_ (some 23) Try.func60 #[.slice Ao29 t728.length co29] ?_; (with_reducible refine (impl_FromGaps.calls kj2 _ _ t728 t731 t734 _ ?side1 ?side2 A22.out).mono ?_); (case side1 => exact ce_ ((Kd.R_reads' HO730.out).2.2)); (case side2 => exact (Kd.R_reads' HO730.out).2.1); rintro e w30 ⟨v732, rfl, ho0, hb⟩; refine ⟨_, rfl, ?_⟩; have HO733 := Aside0.mk (Kd.R_lower (Kd.R_new' (Kd.R_new' ho0 (Kd.R_lt (re_ HO727.out))) (Kd.R_lt (re_ HO730.out))) (below_size (bq_ HB))); replace HO727 := Aside0.mk (Kd.R_elder' (re_ HO727.out) (Kd.R_base ho0) hb); replace HO730 := Aside0.mk (Kd.R_elder' (re_ HO730.out) (Kd.R_base ho0) hb); replace BK718 := bk_ BK718 hb; replace BK719 := bk_ BK719 hb; replace HB := bp_ HB hb; (try clear hb); (try clear ho0); obtain ⟨Ao31, co31, eo31⟩ := Kd.R_slice HO733.out; subst eo31; have hcz32_0 := cz_ BK719; have hfz32_0 := blk_frozen BK719.out 0))
   refine bodyPost_ret (results_ct rfl _ _ gb719 26 #[.slice Ao31 t731.length co31] (0, 0) _ rfl (bz_ BK719) Try.underlying26 rfl (by kernel_rfl)) rfl ?_
   exact ⟨_, rf_, by (with_reducible repeat (first | apply Kd.R_alloc | apply Kd.R_drewN | apply Kd.R_drew)); exact Kd.R_mono (Kd.R_far (p := ⟨gb719, 0, none⟩) (Kd.R_types HO733.out BK719.out (by decide)) (fun _ hk => hk.2) (.slice Ao31 t731.length co31)) (fun _ hk => trivial), bq_ HB⟩
def impl_ChildrenOf.l0 : Nat → Int → List (S26) → List Int → Int → Int → List Int → Option ((List (S26)) × Bool)
 | 0, _, _, _, _, _, _ => none
 | k + 1, x4, x5, x17, x18, x19, x736000 => if x19 < x18 then (if 0 ≤ x19 then (if x19 < (x17.length : Int) then (if (rd x17 x19) ≤ x4 then (impl_ChildrenOf.l0 k x4 x5 x17 x18 (wrap64 (x19 + 1)) x736000) else ((impl_RemoveGenerator.f k x736000 (rd x17 x19)).bind fun bt742 => (if bt742.2 = true then (if x5.length < 5864062014805 then (impl_ChildrenOf.l0 k x4 (x5 ++ [(⟨bt742.1⟩ : S26)]) x17 x18 (wrap64 (x19 + 1)) x736000) else (none)) else (some (([] : List (S26)), false))))) else (none)) else (none)) else (some (x5, true))
def impl_ChildrenOf.f (k : Nat) (l0_0 : List Int) : Option ((List (S26)) × Bool) := (impl_IsSemigroup.f k l0_0).bind fun t736 => (if t736 = true then ((impl_FrobeniusOf.f k l0_0).bind fun t737 => (impl_ChildrenOf.l0 k t737 (([] : List (S26))) l0_0 (l0_0.length : Int) 0 l0_0)) else (some (([] : List (S26)), false)))
theorem impl_ChildrenOf.calls (k : Nat) (A0_0 : Option Addr) (c0_0 : Nat) (l0_0 : List Int) (r1 : List (S26)) (r2 : Bool) (w : World) (hr0_0 : Kd.C (Kd.int .i64) w A0_0 l0_0.length l0_0) (hc0_0 : l0_0.length ≤ c0_0) (h : impl_ChildrenOf.f k l0_0 = some (r1, r2)) :
 Calls Try.prog 44 #[.agg #[.slice A0_0 l0_0.length c0_0]] w fun e w' => ∃ v0_ : Value, e = .returned (.tuple #[v0_, .bool r2]) ∧ Kd.S k26 26 w' w.heap.size (fun _ => True) v0_ r1 ∧ Below w.heap.size w w' := by
 have hu26 := Try.underlying26
 have HR0_0 := Aside0.mk hr0_0
 have HC0_0 := Aside0.mk hc0_0
 clear hr0_0 hc0_0
 have HB := Aside0.mk (Below.refl w.heap.size w)
 have H := h
 clear h
 unfold impl_ChildrenOf.f at H
 obtain ⟨t736, A2, H⟩ := ob_ H
 by_cases c3 : t736 = true
 rotate_left
 · replace c3 := Bool.eq_false_iff.mpr c3
   subst c3
   rw [if_neg (show ¬ (false = true) by decide)] at H
   simp only [Option.some.injEq, Prod.mk.injEq] at H
   obtain ⟨rfl, rfl⟩ := H
   go_enter Try.func44, Try.ntmps44
   go_wp2_with (first | ((with_reducible refine gate_dst (N := 1) rfl ?_); refine bx_ 1 #[.slice A0_0 l0_0.length c0_0] 26 ?_; intro gb735 hg w35 hbox hb; have BK735 := Aside0.mk (hbox); have GW735 := gw_ hg HB; have GE735 := gw_ hg HB; replace HB := bo_ HB hb; clear hb hbox hg; have hcz36_0 := cz_ BK735; have hfz36_0 := blk_frozen BK735.out 0) | ((with_reducible refine gate_callee (f := 28) rfl ?_); refine gL_ (some 11) Try.func28 #[.agg #[.slice A0_0 l0_0.length c0_0]] ?_; (with_reducible refine (impl_IsSemigroup.calls k _ _ l0_0 false _ ?side1 ?side2 A2.out).mono ?_); (case side1 => exact ch_ HR0_0 HB); (case side2 => exact HC0_0.out); rintro e w37 ⟨rfl, hb⟩; refine ⟨_, rfl, ?_⟩; replace BK735 := bk_ BK735 hb; replace HB := bp_ HB hb; (try clear hb)))
   go_ret2
   exact ⟨_, rf_, by first | exact Kd.S_nil _ _ _ _ _ | exact Kd.N_nil _ _ _ _ _ | exact Kd.V_nil _ _ _ _ _ | exact Kd.Q_nil _ _ _ _ _ | exact Kd.R_nil _ _ _ _ _, bq_ HB⟩
 subst c3
 rw [if_pos rfl] at H
 obtain ⟨t737, A4, H⟩ := ob_ H
 obtain ⟨y738, hy738⟩ : ∃ y_ : List (S26), y_ = (([] : List (S26))) := ⟨_, rfl⟩
 replace H : (impl_ChildrenOf.l0 k t737 y738 l0_0 (l0_0.length : Int) 0 l0_0) = some (r1, r2) := by subst hy738; exact H
 have Ny738 := Aside0.mk hy738
 clear hy738
 have H' := Aside0.mk H
 clear H
 go_enter Try.func44, Try.ntmps44
 go_wp2_with (first | ((with_reducible refine gate_dst (N := 1) rfl ?_); refine bx_ 1 #[.slice A0_0 l0_0.length c0_0] 26 ?_; intro gb735 hg w5 hbox hb; have BK735 := Aside0.mk (hbox); have GW735 := gw_ hg HB; have GE735 := gw_ hg HB; replace HB := bo_ HB hb; clear hb hbox hg; have hcz6_0 := cz_ BK735; have hfz6_0 := blk_frozen BK735.out 0) | ((with_reducible refine gate_callee (f := 28) rfl ?_); refine gL_ (some 11) Try.func28 #[.agg #[.slice A0_0 l0_0.length c0_0]] ?_; (with_reducible refine (impl_IsSemigroup.calls k _ _ l0_0 true _ ?side1 ?side2 A2.out).mono ?_); (case side1 => exact ch_ HR0_0 HB); (case side2 => exact HC0_0.out); rintro e w7 ⟨rfl, hb⟩; refine ⟨_, rfl, ?_⟩; replace BK735 := bk_ BK735 hb; replace HB := bp_ HB hb; (try clear hb); have hcz8_0 := cz_ BK735; have hfz8_0 := blk_frozen BK735.out 0) | ((with_reducible refine gate_callee (f := 75) rfl ?_); refine gL_ (some 14) Try.func75 #[.agg #[.slice A0_0 l0_0.length c0_0]] ?_; (with_reducible refine (impl_FrobeniusOf.calls k _ _ l0_0 t737 _ ?side1 ?side2 A4.out).mono ?_); (case side1 => exact ch_ HR0_0 HB); (case side2 => exact HC0_0.out); rintro e w9 ⟨rfl, hb⟩; refine ⟨_, rfl, ?_⟩; replace BK735 := bk_ BK735 hb; replace HB := bp_ HB hb; (try clear hb)) | ((with_reducible refine gate_dst (N := 15) rfl ?_); refine Kd.S_lit k26 _ 26 ?hg (N := 15) ?hd (xs := ([] : List (S26))) (inner := []) (ok := fun _ => True) (okp := fun _ => True) ?hr ?hp (fun _ hk => hk) trivial (Below.refl _ _) (Nat.le_refl _) (by simp) ?_; (case hd => rfl); (case hg => rfl); (case hr => first | (go_simp; done) | (go_simp; rfl)); (case hp => exact (Reps.none _ _)); intro v739 w10 ho11 hb hg_ hnew_; clear hg_ hnew_; (first | rw [← Ny738.out] at ho11 | (simp only [Int.reduceToNat] at ho11; rw [← Ny738.out] at ho11)); have HO740 := Aside0.mk (Kd.S_lower (Kd.S_newB ho11 (g := gb735) (o := .cells #[.slice A0_0 l0_0.length c0_0] 26 (0, 0)) (be_ BK735.out)) (below_size (bq_ HB))); replace BK735 := bk_ BK735 hb; replace HB := bp_ HB hb; clear hb ho11; have hcz12_0 := cz_ BK735; have hfz12_0 := blk_frozen BK735.out 0))
 go_loopg [5, 19] k (fun kq v5 v19 w' => ∃ (x5_1 : List (S26)) (x19_1 : Int), v19 = .int .i64 x19_1 ∧ Aside0 (impl_ChildrenOf.l0 kq t737 x5_1 l0_0 (l0_0.length : Int) x19_1 l0_0 = some (r1, r2)) ∧ Aside0 (kq ≤ k) ∧ Aside0 (Kd.S k26 26 w' w.heap.size (fun k_ => k_ ≠ gb735) v5 x5_1) ∧ Aside0 (w'.heap[gb735]? = some (.cells #[(.slice A0_0 l0_0.length c0_0)] 26 (0, 0))) ∧ Aside0 (Below w.heap.size w w'))
 case atStart => exact ⟨(y738), (0), rs_, H', ⟨Nat.le_refl _⟩, ⟨by (with_reducible repeat (first | apply Kd.S_alloc | apply Kd.S_drewN | apply Kd.S_drew)); exact Kd.S_mono HO740.out (fun _ hk => hk.2)⟩, ⟨be_ BK735.out⟩, ⟨bq_ HB⟩⟩
 case round =>
  clear H'
  try clear hcz12_0
  try clear hcz6_0
  try clear hcz8_0
  try clear hfz12_0
  try clear hfz6_0
  try clear hfz8_0
  obtain ⟨x5_1, x19_1, rfl, HA, HK1, HO_5, BK735, HB⟩ := hrel
  cases gk with
  | zero => exact absurd HA.out (by simp [impl_ChildrenOf.l0])
  | succ k1 =>
   have H := HA.out
   clear HA
   simp only [impl_ChildrenOf.l0] at H
   by_cases c13 : x19_1 < (l0_0.length : Int)
   rotate_left
   · rw [if_neg c13] at H
     have c13b0 : decide (x19_1 < (l0_0.length : Int)) = false := decide_eq_false c13
     clear c13
     simp only [Option.some.injEq, Prod.mk.injEq] at H
     obtain ⟨rfl, rfl⟩ := H
     go_wp2
     go_ret2
     exact ⟨_, rf_, by (with_reducible repeat (first | apply Kd.S_alloc | apply Kd.S_drewN | apply Kd.S_drew)); exact Kd.S_mono HO_5.out (fun _ hk => trivial), bq_ HB⟩
   rw [if_pos c13] at H
   have c13b0 : decide (x19_1 < (l0_0.length : Int)) = true := decide_eq_true c13
   clear c13
   obtain ⟨c14b0, H⟩ := ipd_ H
   obtain ⟨c15b0, H⟩ := ipd_ H
   by_cases c16 : (rd l0_0 x19_1) ≤ t737
   · rw [if_pos c16] at H
     have c16b0 : decide ((rd l0_0 x19_1) ≤ t737) = true := decide_eq_true c16
     clear c16
     have H' := Aside0.mk H
     clear H
     have p741 : 0 ≤ (x19_1 : Int) := od_
     have q741 : x19_1 < (l0_0.length : Int) := od_
     obtain ⟨ad741, e741, hx741_0⟩ := Kd.at_int HR0_0.out x19_1 p741 q741
     cases e741
     (try replace hx741_0 := (HB.out.cell (World.block_lt_of_cell? w _ hx741_0)).trans hx741_0)
     replace p741 := eq_true p741
     replace q741 := eq_true q741
     go_wp2
     go_roundg k1
     case measure => have := HK1.out; omega
     case rel => exact ⟨(x5_1), (wrap64 (x19_1 + 1)), rs_, H', ⟨by have := HK1.out; omega⟩, ⟨by (with_reducible repeat (first | apply Kd.S_alloc | apply Kd.S_drewN | apply Kd.S_drew)); exact HO_5.out⟩, ⟨be_ BK735.out⟩, ⟨bq_ HB⟩⟩
   rw [if_neg c16] at H
   have c16b0 : decide ((rd l0_0 x19_1) ≤ t737) = false := decide_eq_false c16
   clear c16
   obtain ⟨⟨t742, t745⟩, A17, H⟩ := ob_ H
   (try dsimp only at H)
   by_cases c18 : t745 = true
   rotate_left
   · replace c18 := Bool.eq_false_iff.mpr c18
     subst c18
     rw [if_neg (show ¬ (false = true) by decide)] at H
     simp only [Option.some.injEq, Prod.mk.injEq] at H
     obtain ⟨rfl, rfl⟩ := H
     have p741 : 0 ≤ (x19_1 : Int) := od_
     have q741 : x19_1 < (l0_0.length : Int) := od_
     obtain ⟨ad741, e741, hx741_0⟩ := Kd.at_int HR0_0.out x19_1 p741 q741
     cases e741
     (try replace hx741_0 := (HB.out.cell (World.block_lt_of_cell? w _ hx741_0)).trans hx741_0)
     replace p741 := eq_true p741
     replace q741 := eq_true q741
     have hcz29_0 := cz_ BK735
     have hfz29_0 := blk_frozen BK735.out 0
     go_wp2_with (first | ((with_reducible refine gate_callee (f := 76) rfl ?_); refine gL_ (some 29) Try.func76 #[.agg #[.slice (some ad741) l0_0.length c0_0], .int .i64 (rd l0_0 x19_1)] ?_; (with_reducible refine (impl_RemoveGenerator.calls k1 _ _ l0_0 (rd l0_0 x19_1) t742 false _ ?side1 ?side2 A17.out).mono ?_); (case side1 => exact ch_ HR0_0 HB); (case side2 => exact HC0_0.out); rintro e w30 ⟨v743, rfl, ho0, hb⟩; refine ⟨_, rfl, ?_⟩; replace HO_5 := Aside0.mk (Kd.S_elder' (by (with_reducible repeat (first | apply Kd.S_alloc | apply Kd.S_drewN | apply Kd.S_drew)); exact HO_5.out) (Kd.R_base ho0) hb); have HO744 := Aside0.mk (Kd.R_lower ho0 (below_size (bq_ HB))); replace BK735 := bk_ BK735 hb; replace HB := bp_ HB hb; (try clear hb); (try clear ho0)) | ((with_reducible refine gate_dst (N := 8) rfl ?_); refine bx_ 8 #[.slice none 0 0] 26 ?_; intro gb746 hg w31 hbox hb; replace HO_5 := Aside0.mk (Kd.S_below (Kd.S_elderB (by (with_reducible repeat (first | apply Kd.S_alloc | apply Kd.S_drewN | apply Kd.S_drew)); exact HO_5.out) gb746 (Nat.le_of_eq hg.symm)) hb); replace HO744 := Aside0.mk (Kd.R_below (re_ HO744.out) hb); have BK746 := Aside0.mk (hbox); have GW746 := gq_ hg (bq_ HB); have GE746 := gq_ hg (bq_ HB); replace HB := bp_ HB hb; have NB735_746 := nl_ hg BK735; have NB746_735 := ng_ hg BK735; replace BK735 := bk_ BK735 hb; clear hb hbox hg; obtain ⟨Ao32, co32, eo32⟩ := Kd.R_slice HO744.out; subst eo32; have hnb33 := NB746_735.out; have hnc33 := NB735_746.out; have hcz34_0 := cz_ BK746; have hfz34_0 := blk_frozen BK746.out 0))
     go_ret2
     exact ⟨_, rf_, by first | exact Kd.S_nil _ _ _ _ _ | exact Kd.N_nil _ _ _ _ _ | exact Kd.V_nil _ _ _ _ _ | exact Kd.Q_nil _ _ _ _ _ | exact Kd.R_nil _ _ _ _ _, bq_ HB⟩
   subst c18
   rw [if_pos rfl] at H
   obtain ⟨c19, H⟩ := ip_ H
   have LMc19 := Aside0.mk c19
   clear c19
   obtain ⟨y747, hy747⟩ : ∃ y_ : List (S26), y_ = (x5_1 ++ [(⟨t742⟩ : S26)]) := ⟨_, rfl⟩
   replace H : (impl_ChildrenOf.l0 k1 t737 y747 l0_0 (l0_0.length : Int) (wrap64 (x19_1 + 1)) l0_0) = some (r1, r2) := by subst hy747; exact H
   have Ny747 := Aside0.mk hy747
   clear hy747
   have H' := Aside0.mk H
   clear H
   have p741 : 0 ≤ (x19_1 : Int) := od_
   have q741 : x19_1 < (l0_0.length : Int) := od_
   obtain ⟨ad741, e741, hx741_0⟩ := Kd.at_int HR0_0.out x19_1 p741 q741
   cases e741
   (try replace hx741_0 := (HB.out.cell (World.block_lt_of_cell? w _ hx741_0)).trans hx741_0)
   replace p741 := eq_true p741
   replace q741 := eq_true q741
   have hcz20_0 := cz_ BK735
   have hfz20_0 := blk_frozen BK735.out 0
   go_wp2_with (first | ((with_reducible refine gate_callee (f := 76) rfl ?_); refine gL_ (some 29) Try.func76 #[.agg #[.slice (some ad741) l0_0.length c0_0], .int .i64 (rd l0_0 x19_1)] ?_; (with_reducible refine (impl_RemoveGenerator.calls k1 _ _ l0_0 (rd l0_0 x19_1) t742 true _ ?side1 ?side2 A17.out).mono ?_); (case side1 => exact ch_ HR0_0 HB); (case side2 => exact HC0_0.out); rintro e w21 ⟨v743, rfl, ho0, hb⟩; refine ⟨_, rfl, ?_⟩; replace HO_5 := Aside0.mk (Kd.S_elder' (by (with_reducible repeat (first | apply Kd.S_alloc | apply Kd.S_drewN | apply Kd.S_drew)); exact HO_5.out) (Kd.R_base ho0) hb); have HO744 := Aside0.mk (Kd.R_lower ho0 (below_size (bq_ HB))); replace BK735 := bk_ BK735 hb; replace HB := bp_ HB hb; (try clear hb); (try clear ho0)) | ((with_reducible refine gate_dst (N := 8) rfl ?_); refine bx_ 8 #[.slice none 0 0] 26 ?_; intro gb746 hg w22 hbox hb; replace HO_5 := Aside0.mk (Kd.S_below (Kd.S_elderB (by (with_reducible repeat (first | apply Kd.S_alloc | apply Kd.S_drewN | apply Kd.S_drew)); exact HO_5.out) gb746 (Nat.le_of_eq hg.symm)) hb); replace HO744 := Aside0.mk (Kd.R_below (re_ HO744.out) hb); have BK746 := Aside0.mk (hbox); have GW746 := gq_ hg (bq_ HB); have GE746 := gq_ hg (bq_ HB); replace HB := bp_ HB hb; have NB735_746 := nl_ hg BK735; have NB746_735 := ng_ hg BK735; replace BK735 := bk_ BK735 hb; clear hb hbox hg; obtain ⟨Ao23, co23, eo23⟩ := Kd.R_slice HO744.out; subst eo23; have hnb24 := NB746_735.out; have hnc24 := NB735_746.out; have hcz25_0 := cz_ BK746; have hfz25_0 := blk_frozen BK746.out 0) | ((with_reducible refine gate_store (t := 26) (p := 8) rfl ?_); refine store_event (t := 26) (p := 8) (v := ?vo_w26) (w1 := (w22.setCell ⟨gb746, 0, none⟩ (.slice Ao23 t742.length co23))) ?hg ?ho ?hn ?hr ?_; (case ho => rfl); (case hg => rfl); (case hn => rfl); (case hr => first | (go_simp; done) | (go_simp; rfl)); intro w26 hw; have n0_ : Aside0 (Kd.S k26 26 w26 w.heap.size (fun k_ => some k_ ≠ (.slice Ao23 t742.length co23 : Value).ownBlock ∧ k_ ≠ gb735 ∧ k_ ≠ gb746) u5 x5_1) := ⟨(by rw [hw]; exact (by (with_reducible repeat (first | apply Kd.S_alloc | apply Kd.S_drewN | apply Kd.S_drew)); exact Kd.S_mono (Kd.S_far (p := ⟨gb746, 0, none⟩) (Kd.S_mono HO_5.out (fun k_ hk => (⟨hk, hk.2⟩ : _ ∧ k_ ≠ gb746))) (fun _ hk => hk.2) (.slice Ao23 t742.length co23)) (fun _ hk => ⟨hk.1.1.2, ⟨hk.1.1.1, hk.1.2⟩⟩)))⟩; have n1_ : Aside0 (Kd.R (Kd.int .i64) 3 w26 w.heap.size (fun _ => True) (.slice Ao23 t742.length co23) t742) := ⟨(by rw [hw]; exact (by (with_reducible repeat (first | apply Kd.R_alloc | apply Kd.R_drewN | apply Kd.R_drew)); exact Kd.R_mono (Kd.R_far (p := ⟨gb746, 0, none⟩) (Kd.R_types HO744.out BK746.out (by decide)) (fun _ hk => hk.2) (.slice Ao23 t742.length co23)) (fun _ hk => trivial)))⟩; have n2_ : Aside0 (w26.heap[gb735]? = some (.cells #[.slice (some ad741) l0_0.length c0_0] 26 (0, 0))) := ⟨(by rw [hw]; exact (ba_ BK735))⟩; have n3_ : Aside0 (w26.heap[gb746]? = some (.cells #[.slice Ao23 t742.length co23] 26 (0, 0))) := ⟨(by rw [hw]; exact (bz_ BK746))⟩; have n4_ : Aside0 (Below w.heap.size w w26) := ⟨(by rw [hw]; exact (bq_ HB))⟩; clear hw; clear HO_5; clear HO744; clear BK735; clear BK746; clear HB; have HO_5 := n0_; have HO744 := n1_; have BK735 := n2_; have BK746 := n3_; have HB := n4_; clear n0_ n1_ n2_ n3_ n4_; have hcz27_0 := cz_ BK746; have hfz27_0 := blk_frozen BK746.out 0) | ((with_reducible refine gate_builtin (b := .append) (xs := #[.tmp 34, .tmp 36]) rfl ?_); at_builtin; refine Kd.S_append k26 (w0 := w) w.heap.size rfl (.tmp 34) (.tmp 36) 29 26 (.agg #[(.slice none 0 0)]) 24 rfl Try.underlying29 info26 rfl (by decide) (by omega) u5 x5_1 (⟨t742⟩ : S26) [.slice Ao23 t742.length co23] (fun k_ => k_ ≠ gb735 ∧ k_ ≠ gb746) (fun k_ => some k_ = (.slice Ao23 t742.length co23 : Value).ownBlock) rfl rfl ?aP (fun k_ hk_ => ((Kd.R_mono (ok' := fun k_ => ((fun k_ => k_ ≠ gb735 ∧ k_ ≠ gb746)) k_ ∧ some k_ ≠ (u5 : Value).ownBlock) (Kd.R_types (Kd.R_types (Kd.R_apart' (HO744.out) (Kd.S_typed HO_5.out) (by decide)) BK735.out (by decide)) BK746.out (by decide)) (fun k_ hk => ⟨⟨hk.1.2, hk.2⟩, hk.1.1.2⟩))).1 k_ hk_.symm) ?aF ?aO ?aB ?aS ?aL ?_; (case aP => exact k26_mkM _ _ _ (⟨t742⟩ : S26) (Kd.R_mono (Kd.R_tight rfl (Kd.R_mono (ok' := fun k_ => ((fun k_ => k_ ≠ gb735 ∧ k_ ≠ gb746)) k_ ∧ some k_ ≠ (u5 : Value).ownBlock) (Kd.R_types (Kd.R_types (Kd.R_apart' (HO744.out) (Kd.S_typed HO_5.out) (by decide)) BK735.out (by decide)) BK746.out (by decide)) (fun k_ hk => ⟨⟨hk.1.2, hk.2⟩, hk.1.1.2⟩))) (fun _ h_ => h_))); (case aB => exact (bq_ HB)); (case aF => exact (fun k_ hk => ⟨Kd.freshB (g := gb735) (o := .cells #[.slice (some ad741) l0_0.length c0_0] 26 (0, 0)) (be_ BK735.out) k_ hk, Kd.freshB (g := gb746) (o := .cells #[.slice Ao23 t742.length co23] 26 (0, 0)) (be_ BK746.out) k_ hk⟩)); (case aO => exact (by (with_reducible repeat (first | apply Kd.S_alloc | apply Kd.S_drewN | apply Kd.S_drew)); exact Kd.S_mono HO_5.out (fun k_ hk => ⟨⟨hk.2.1, hk.2.2⟩, fun e_ => hk.1 e_⟩))); (case aS => exact (below_size (bq_ HB))); (case aL => have := LMc19.out; omega); intro v748 w28 ho hb hg hat; rw [← Ny747.out] at ho; replace BK735 := Aside0.mk (blk_grown (be_ BK735.out) hg (Kd.S_away HO_5.out (fun _ hk => hk.2.1))); replace BK746 := Aside0.mk (blk_grown (be_ BK746.out) hg (Kd.S_away HO_5.out (fun _ hk => hk.2.2))); replace HB := Aside0.mk (hb); have HO749 := Aside0.mk (ho); clear HO_5 HO744; clear ho hb hg hat))
   go_roundg k1
   case measure => have := HK1.out; omega
   case rel => exact ⟨(y747), (wrap64 (x19_1 + 1)), rs_, H', ⟨by have := HK1.out; omega⟩, ⟨by (with_reducible repeat (first | apply Kd.S_alloc | apply Kd.S_drewN | apply Kd.S_drew)); exact Kd.S_mono HO749.out (fun _ hk => hk.1)⟩, ⟨be_ BK735.out⟩, ⟨bq_ HB⟩⟩
def InOrd (l0 : List S26) : Prop := l0.length < 4611686018427387904 ∧ ∃ cf : List Int → List Int → Int, Go.Sort.SWO (Go.Proofs.ltOf cf) ∧ (∀ a ∈ ([] : List Int) :: l0.map (·.f0), ∀ b ∈ ([] : List Int) :: l0.map (·.f0), ∃ k, impl_inOrderCmp.f k a b = some (cf a b)) ∧ l0.Pairwise (fun a b => cf a.f0 b.f0 < 0)
noncomputable def impl_inOrder.f (l0 : List S26) : Option Unit := @ite _ (InOrd l0) (Classical.propDecidable _) (some ()) none
theorem impl_inOrder.yes {l0 : List S26} (h : InOrd l0) : impl_inOrder.f l0 = some () := by unfold impl_inOrder.f; exact if_pos h
theorem inOrder_id {n : Nat} {lt : Nat → Nat → Bool} (hlt : ∀ i j, i < j → j < n → lt i j = true) {d' : Array Nat} (hp : Go.Sort.PermIn 0 n (Array.range n) d') (hs : Go.Sort.SortedIn lt 0 n d') : d' = Array.range n := by
 obtain ⟨h1, _, h2⟩ := hp
 rw [Array.size_range] at h1
 have e1 : d'.extract 0 n = d' := by rw [← h1]; exact Array.extract_size
 have e2 : (Array.range n).extract 0 n = Array.range n := by
  have := Array.extract_size (xs := Array.range n); rwa [Array.size_range] at this
 rw [e1, e2] at h2
 apply Array.toList_inj.1
 refine List.Perm.eq_of_pairwise (le := fun a b => a ≤ b) (fun a b _ _ h k => Nat.le_antisymm h k) ?_ ?_ h2
 · rw [List.pairwise_iff_getElem]
   intro i j hi hj hij
   have hi' : i < d'.size := hi
   have hj' : j < d'.size := hj
   have mi : d'.toList[i] < n := by
    have : d'.toList[i] ∈ (Array.range n).toList := h2.mem_iff.1 (List.getElem_mem hi)
    simpa using this
   have hf := hs i j (Nat.zero_le _) hij (by omega)
   rw [getElem!_pos d' j hj', getElem!_pos d' i hi'] at hf
   show d'.toList[i] ≤ d'.toList[j]
   refine Nat.le_of_not_lt fun hl => ?_
   have := hlt _ _ hl mi
   rw [Array.getElem_toList, Array.getElem_toList] at this
   rw [this] at hf
   cases hf
 · rw [Array.toList_range]
   exact List.pairwise_le_range
theorem sortW_old {enc : Nat → List Value} {w : World} {g m : Nat} {dk : Array Nat} {os : Array Obj} {k : Nat} (hk : k ≠ g) (hlt : k < w.heap.size) : (Go.Proofs.sortWorldK enc 1 w g 0 m dk os).heap[k]? = w.heap[k]? := by
 unfold Go.Proofs.sortWorldK Go.Sort.grow Go.Sort.putRowK Go.Sort.putRow Go.Sort.mapBlock Go.Sort.ahead
 simp only
 rw [Array.getElem?_append, if_pos (by simpa using hlt), Array.getElem?_modify, if_neg (fun e => hk e.symm)]
theorem sorts_ (A0 : Option Addr) (c0 : Nat) (l0 : List S26) (w : World) (hN : ∃ base ok, Kd.N k26 26 w base ok (.slice A0 l0.length c0) l0) (hI : InOrd l0) :
 Calls Try.prog 77 #[.slice A0 l0.length c0, .func (.func 78) #[] #[]] w fun e w' => e = .returned (.tuple #[]) ∧ Below w.heap.size w w' := by
 obtain ⟨base, ok, hN⟩ := hN
 obtain ⟨hsz, cf, hO, hcall, hord⟩ := hI
 rcases Nat.eq_zero_or_pos l0.length with h0 | hp
 · have hc := Go.Proofs.AnyF.slices_SortFunc_none Try.laysF A0 c0 (.func (.func 78) #[] #[]) w
   change Calls Try.prog 77 _ _ _ at hc
   rw [h0]
   exact hc.mono fun e w' ⟨he, hw⟩ => ⟨he, by rw [hw]; exact Below.refl _ _⟩
 · obtain ⟨g, cap, hv, hbase, hg, cells, hblk⟩ := Kd.N_form hN hp
   injection hv with e1 e2 e3
   subst e1 e3
   obtain ⟨n, hn⟩ : ∃ n, n = l0.length := ⟨_, rfl⟩
   obtain ⟨lst, hlst⟩ : ∃ lst : Nat → List Int, lst = fun i => (l0.getD i ⟨[]⟩).f0 := ⟨_, rfl⟩
   have hx : ∀ i : Nat, ∃ h : Option Addr × Nat, (lst i).length ≤ h.2 ∧ Kd.F (Kd.int .i64) w (fun k => ok k ∧ k ≠ g) h.1 (lst i).length (lst i) ∧ (i < n → w.cell? ⟨g, i, none⟩ = some (.slice h.1 (lst i).length h.2) ∧ w.frozen? ⟨g, i, none⟩ = false) := fun i => by
    by_cases hi : i < n
    · obtain ⟨c, hcl, hF, hcc, hfr⟩ := Kd.N_elem hN (⟨[]⟩ : S26) (i : Int) (by omega) (by omega)
      obtain ⟨A, c', rfl, hle, hR⟩ := k26_openF hF
      have k1 : k26.sz = 1 := rfl
      rw [Int.toNat_natCast] at hle hR hcc hfr
      refine ⟨(A, c'), by rw [hlst]; exact hle, by rw [hlst]; exact hR, fun _ => ⟨?_, ?_⟩⟩
      · have := hcc 0 _ rfl
        rw [k1, Nat.mul_one, Nat.add_zero] at this
        rw [hlst]; exact this
      · have := hfr 0
        rw [k1, Nat.mul_one, Nat.add_zero] at this
        exact this
    · have hl : lst i = [] := by
       rw [hlst]
       show (l0.getD i ⟨[]⟩).f0 = []
       rw [List.getD_eq_getElem?_getD, List.getElem?_eq_none (by omega)]; rfl
      rw [hl]
      exact ⟨(none, 0), Nat.le_refl _, Kd.F_nil _ _ _, fun h => absurd h hi⟩
   obtain ⟨hd, hH⟩ := Classical.axiomOfChoice hx
   have hmem : ∀ i, lst i ∈ ([] : List Int) :: l0.map (·.f0) := fun i => by
    rw [hlst]
    show (l0.getD i ⟨[]⟩).f0 ∈ _
    rw [List.getD_eq_getElem?_getD]
    cases e : l0[i]? with
    | none => exact List.mem_cons_self
    | some x => exact List.mem_cons_of_mem _ (List.mem_map.2 ⟨x, List.mem_of_getElem? e, rfl⟩)
   obtain ⟨enc, henc⟩ : ∃ enc : Nat → List Value, enc = fun i => [.slice (hd i).1 (lst i).length (hd i).2] := ⟨_, rfl⟩
   have hk1 : ∀ x, (enc x).length = 1 := fun x => by rw [henc]; rfl
   have h1 : ∀ x, ∀ v ∈ enc x, v.oneCell' = true := fun x v hv => by
    rw [henc] at hv
    rw [List.mem_singleton.1 hv]; rfl
   have hO' : Go.Sort.SWO (Go.Proofs.ltOf fun i j : Nat => cf (lst i) (lst j)) := ⟨fun x => hO.irrefl (lst x), fun x y z => hO.trans (lst x) (lst y) (lst z), fun x y z => hO.ntrans (lst x) (lst y) (lst z)⟩
   have eg : ∀ args w, (callFunc 78 args).run Try.prog w = .ok (.enter 78 args) w := enters_of Try.func78 (by kernel_rfl) rfl
   have hcmp : Go.Proofs.CmpLays Try.prog 78 #[] enc 1 (fun i j : Nat => cf (lst i) (lst j)) g 0 (Array.range n).size w := by
    unfold Go.Proofs.CmpLays
    intro m os dk hs x y
    obtain ⟨k, hk⟩ := hcall (lst x) (hmem x) (lst y) (hmem y)
    have rd_ : ∀ i, Kd.C (Kd.int .i64) (Go.Proofs.sortWorldK enc 1 w g 0 m dk os) (hd i).1 (lst i).length (lst i) := fun i => Kd.F_now (Kd.F_step (hH i).2.1 (fun k hk hlt => sortW_old hk.2 hlt))
    have hc := E.calls_drawn (impl_inOrderCmp.calls k _ _ (lst x) _ _ (lst y) _ _ (rd_ x) (hH x).1 (rd_ y) (hH y).1 hk)
    have e1 : ∀ z, (enc z).toArray = #[.slice (hd z).1 (lst z).length (hd z).2] := fun z => by rw [henc]
    rw [e1, e1, Array.append_empty]
    dsimp only
    refine hc.mono ?_
    intro e w' h
    exact ⟨h.1.1, E.grow_of_below h.1.2 (h.2 ⟨_, h.1.1⟩)⟩
   have hHold : Go.Sort.HoldsK enc 1 w g 0 (Array.range n) := fun j hj => by
    rw [Go.Sort.size_flatK, Array.size_range, Nat.mul_one] at hj
    rw [Go.Sort.get_flatK enc 1 _ j (by rw [Array.size_range]; omega), Nat.div_one, Nat.mod_one, getElem!_pos (Array.range n) j (by simpa using hj), Nat.zero_add, Array.getElem_range, henc]
    exact (hH j).2.2 hj
   have hs := Go.Proofs.AnyQ.slices_SortFunc (P := Try.prog) Try.laysF 1 Try.isAgg26 Try.sizeOf26 enc hk1 h1 (fun i j : Nat => cf (lst i) (lst j)) hO' 78 #[] g 0 c0 (Array.range n) w eg hcmp hHold hg (by rw [Array.size_range]; omega)
   change Calls Try.prog 77 _ _ _ at hs
   rw [Array.size_range, hn] at hs
   refine hs.mono ?_
   rintro e w' ⟨he, d', q, os, hpm, hst, rfl⟩
   refine ⟨he, ?_⟩
   have hd' : d' = Array.range n := by
    rw [← hn] at hpm hst
    refine inOrder_id (fun i j hij hj => ?_) hpm hst
    have := (List.pairwise_iff_getElem.1 hord) i j (by omega) (by omega) hij
    unfold Go.Proofs.ltOf
    rw [decide_eq_true_iff, hlst]
    show cf (l0.getD i ⟨[]⟩).f0 (l0.getD j ⟨[]⟩).f0 < 0
    rw [List.getD_eq_getElem?_getD, List.getElem?_eq_getElem (show i < l0.length by omega), List.getD_eq_getElem?_getD, List.getElem?_eq_getElem (show j < l0.length by omega)]
    exact this
   rw [hd']
   unfold Go.Proofs.sortWorldK
   rw [Go.Sort.putRowK_self enc 1 _ g 0 _ (Go.Sort.holdsK_ahead enc 1 w q g 0 _ hHold)]
   refine ⟨rfl, rfl, rfl, by rw [Go.Sort.size_grow]; exact Nat.le_add_right _ _, fun k hk => ?_⟩
   show (w.heap ++ os)[k]? = _
   rw [Array.getElem?_append, if_pos hk]
theorem impl_inOrder.calls (A0 : Option Addr) (c0 : Nat) (l0 : List S26) (w : World) (hN : ∃ base ok, Kd.N k26 26 w base ok (.slice A0 l0.length c0) l0) (hc0 : l0.length ≤ c0) (h : impl_inOrder.f l0 = some ()) :
 Calls Try.prog 45 #[.slice A0 l0.length c0] w fun e w' => e = .returned (.tuple #[]) ∧ Below w.heap.size w w' := by
 have hI : InOrd l0 := by
  unfold impl_inOrder.f at h
  refine Classical.byContradiction fun c => ?_
  rw [if_neg c] at h
  cases h
 have hcon := sorts_ A0 c0 l0 w hN hI
 clear hN hI h
 go_enter Try.func45, Try.ntmps45
 go_wp2_with (go_at_call 77; refine hcon.mono ?_; rintro e w' ⟨rfl, hb⟩)
 go_end0
 exact ⟨rfl, hb⟩
mutual
noncomputable def impl_AllOfGenus.l0 : Nat → List (S26) → Int → Int → Option ((List (S26)))
 | 0, _, _, _ => none
 | k + 1, x3, x15, x16 => if x16 < x15 then (impl_AllOfGenus.l1 k (([] : List (S26))) x15 x16 x3 (x3.length : Int) 0) else ((impl_inOrder.f x3).bind fun _ => (some x3))
noncomputable def impl_AllOfGenus.l1 : Nat → List (S26) → Int → Int → List (S26) → Int → Int → Option ((List (S26)))
 | 0, _, _, _, _, _, _ => none
 | k + 1, x4, x15, x16, x19, x20, x21 => if x21 < x20 then (if 0 ≤ x21 then (if x21 < (x19.length : Int) then ((impl_ChildrenOf.f k ((rd_T26 x19 x21).f0)).bind fun bt765 => (if x4.length + bt765.1.length < 5864062014805 then (impl_AllOfGenus.l1 k (x4 ++ bt765.1) x15 x16 x19 x20 (wrap64 (x21 + 1))) else (none))) else (none)) else (none)) else (impl_AllOfGenus.l0 k x4 x15 (wrap64 (x16 + 1)))
end
noncomputable def impl_AllOfGenus.f (k : Nat) (a0 : Int) : Option ((List (S26))) := (impl_within.f a0 0 8).bind fun t753 => (if t753 = true then (impl_AllOfGenus.l0 k (([(⟨(([1] : List Int))⟩ : S26)] : List (S26))) a0 0) else (some ([] : List (S26))))
theorem S_afterv_ {α : Type} {d : Kd α} {e base : Nat} {ok : Nat → Prop} {W w1 : World} {v u v1 : Value} {xs : List α} (h : Kd.S d e W base (fun k => ok k ∧ some k ≠ v.ownBlock) u xs) (hg : W.grownBy w1 v.ownBlock) (hat : v1.ownBlock = v.ownBlock ∨ ∃ b, v1.ownBlock = some b ∧ W.heap.size ≤ b) : Kd.S d e w1 base (fun k => ok k ∧ some k ≠ v1.ownBlock) u xs := Kd.S_after h hg hat
theorem S_one_ {α : Type} {d : Kd α} {e base : Nat} {ok : Nat → Prop} {w : World} {v : Value} {x : α} (h : d.R e w base ok v [x]) : Kd.S d e w base ok v [x] := by
 obtain ⟨h0, inner, ho, hl, hr⟩ := h
 refine ⟨fun _ => 0, h0, inner, ho, hl, fun j p hj => ?_⟩
 match j, hj with
 | 0, hj =>
  obtain rfl : (x, 0) = p := by simpa using hj
  exact d.M_mono (fun k hk => ⟨hk, rfl⟩) (hr 0 x rfl)
 | j + 1, hj => simp at hj
theorem S_append_rows_ {P : Program} {ops : Array Oper} {rest : List Oper} {o : Oper} {a : Act} {Q : Exit → Act → World → Prop} {α : Type} (d : Kd α) {w0 W : World} (base : Nat) (hgd : o.guard = none) (s x : Operand) (t e : TypeId) (z : Value) (bytes : Nat)
 (ho : o.op = .call { callee := .builtin .append, args := #[s, x], argTypes := #[t, t] })
 (ht : P.underlying t = some (.slice e)) (hinfo : (P.info? e).map (fun i => (i.zero, i.size, i.bytes)) = some (some z, d.sz, bytes)) (hz : z.cells.size = d.sz) (hs0 : 0 < d.sz) (hb0 : 0 < bytes)
 (v vl : Value) (xs ys : List α) (ok okl : Nat → Prop) (B : Nat) (hs : a.eval s = v) (hx : a.eval x = vl)
 (HO : Kd.S d e W base (fun k => ok k ∧ k < B) v xs) (HL : Kd.S d e W base (fun k => okl k ∧ B ≤ k) vl ys) (hokl : ∀ k, okl k → ok k ∧ some k ≠ v.ownBlock) (hfresh : ∀ k, W.heap.size ≤ k → ok k)
 (HB : Below base w0 W) (hbase : base ≤ W.heap.size) (hl : (xs.length + ys.length) * bytes ≤ 140737488355328)
 (h : ∀ v1 w1, Kd.S d e w1 base ok v1 (xs ++ ys) → Below base w0 w1 → W.grownBy w1 v.ownBlock → (v1.ownBlock = v.ownBlock ∨ ∃ b, v1.ownBlock = some b ∧ W.heap.size ≤ b) → wpList P ops Q rest (a.put o.dst v1) w1) :
 wpList P ops Q (o :: rest) a W := by
 obtain ⟨f, hf⟩ := HO
 obtain ⟨g, _, inner, how, hr⟩ := HL
 obtain ⟨F, hF⟩ : ∃ F : Nat → Nat, F = fun k => if k < B then f k else xs.length + g k := ⟨_, rfl⟩
 have h1 : (Kd.tag F d).R e W base (fun k => ok k ∧ k < B) v xs.zipIdx := Kd.R_tag hf (fun k hk _ => by rw [hF]; exact if_pos hk.2)
 rw [List.length_zipIdx] at how
 obtain ⟨A, c, rfl, hrr⟩ := own_reads_row how hr (by rw [List.length_zipIdx])
 have hrr2 : ReadsRow (fun p cs => (Kd.tag F d).M W base okl p cs) d.sz W A ys.length (ys.zipIdx xs.length) := by
  obtain ⟨q1, q2, q3⟩ := hrr
  refine ⟨by rw [List.length_zipIdx], q2, fun hp => ?_⟩
  obtain ⟨ad, hA, hc⟩ := q3 hp
  refine ⟨ad, hA, fun j p hj => ?_⟩
  rw [List.getElem?_zipIdx] at hj
  obtain ⟨y, hy, rfl⟩ := Option.map_eq_some_iff.1 hj
  obtain ⟨cs, hcl, hM, hcc⟩ := hc j (y, j) (Kd.zip_at hy)
  refine ⟨cs, hcl, ?_, hcc⟩
  refine d.M_mono (fun k hk => ⟨hk.1.1.1, ?_⟩) hM
  have hB : ¬ k < B := Nat.not_lt.2 hk.1.1.2
  rw [hF]
  show (if k < B then f k else xs.length + g k) = xs.length + j
  rw [if_neg hB, show g k = j from hk.2]
 refine Kd.R_append_rows (Kd.tag F d) base hgd s x t e z bytes ho ht hinfo hz hs0 hb0 v xs.zipIdx (ys.zipIdx xs.length) A ys.length c ok okl hs hx (Kd.R_mono h1 (fun _ hk => hk.1)) hrr2 (fun _ _ h => h) hokl hfresh HB hbase (by rw [List.length_zipIdx]; exact hl) ?_
 intro v1 w1 hr2
 have e : xs.zipIdx ++ ys.zipIdx xs.length = (xs ++ ys).zipIdx := by rw [List.zipIdx_append, Nat.zero_add]
 rw [e] at hr2
 exact h v1 w1 ⟨F, hr2⟩
theorem impl_AllOfGenus.calls (k : Nat) (a0 : Int) (r : List (S26)) (w : World) (h : impl_AllOfGenus.f k a0 = some r) :
 Calls Try.prog 24 #[.int .i64 a0] w fun e w' => ∃ v0_ : Value, e = .returned (v0_) ∧ Kd.S k26 26 w' w.heap.size (fun k_ => (w.heap.size ≤ k_)) v0_ r ∧ Below w.heap.size w w' := by
 have hu26 := Try.underlying26
 have HB := Aside0.mk (Below.refl w.heap.size w)
 have H := h
 clear h
 unfold impl_AllOfGenus.f at H
 obtain ⟨t753, A2, H⟩ := ob_ H
 by_cases c3 : t753 = true
 rotate_left
 · replace c3 := Bool.eq_false_iff.mpr c3
   subst c3
   rw [if_neg (show ¬ (false = true) by decide)] at H
   obtain rfl := Option.some.inj H
   go_enter Try.func24, Try.ntmps24
   go_wp2_with (first | ((with_reducible refine gate_callee (f := 40) rfl ?_); refine gL_ (some 10) Try.func40 #[.int .i64 a0, .int .i64 0, .int .i64 8] ?_; (with_reducible refine (impl_within.calls a0 0 8 false _ A2.out).mono ?_); rintro e w' ⟨rfl, ⟨nd, rfl⟩⟩; refine ⟨_, rfl, ?_⟩))
   go_ret
   exact ⟨_, rf_, by first | exact Kd.S_nil _ _ _ _ _ | exact Kd.N_nil _ _ _ _ _ | exact Kd.V_nil _ _ _ _ _ | exact Kd.Q_nil _ _ _ _ _ | exact Kd.R_nil _ _ _ _ _, bl_ HB.out⟩
 subst c3
 rw [if_pos rfl] at H
 obtain ⟨y754, hy754⟩ : ∃ y_ : List Int, y_ = (([1] : List Int)) := ⟨_, rfl⟩
 replace H : (impl_AllOfGenus.l0 k (([(⟨y754⟩ : S26)] : List (S26))) a0 0) = some r := by subst hy754; exact H
 have Ny754 := Aside0.mk hy754
 clear hy754
 obtain ⟨y757, hy757⟩ : ∃ y_ : List (S26), y_ = (([(⟨y754⟩ : S26)] : List (S26))) := ⟨_, rfl⟩
 replace H : (impl_AllOfGenus.l0 k y757 a0 0) = some r := by subst hy757; exact H
 have Ny757 := Aside0.mk hy757
 clear hy757
 have H' := Aside0.mk H
 clear H
 go_enter Try.func24, Try.ntmps24
 go_wp2_with (first | ((with_reducible refine gate_callee (f := 40) rfl ?_); refine gL_ (some 10) Try.func40 #[.int .i64 a0, .int .i64 0, .int .i64 8] ?_; (with_reducible refine (impl_within.calls a0 0 8 true _ A2.out).mono ?_); rintro e w' ⟨rfl, ⟨nd, rfl⟩⟩; refine ⟨_, rfl, ?_⟩) | ((with_reducible refine gate_dst (N := 12) rfl ?_); refine Kd.R_lit (Kd.int .i64) _ 3 ?hg (N := 12) ?hd (xs := ([1] : List Int)) (inner := [.int .i64 1]) (ok := fun _ => True) (okp := fun _ => True) ?hr ?hp (fun _ hk => hk) trivial (Below.refl _ _) (Nat.le_refl _) (by simp) ?_; (case hd => rfl); (case hg => rfl); (case hr => first | (go_simp; done) | (go_simp; rfl)); (case hp => exact (Reps.one (show Kd.M (Kd.int .i64) _ _ _ 1 [.int .i64 1] from rfl) (Reps.none _ _))); intro v755 w4 ho5 hb hg_ hnew_; clear hg_ hnew_; (first | rw [← Ny754.out] at ho5 | (simp only [Int.reduceToNat] at ho5; rw [← Ny754.out] at ho5)); have HO756 := Aside0.mk (Kd.R_lower (Kd.R_newM (M := fun k_ => (w.heap.size ≤ k_)) ho5 (below_size (bl_ HB.out)) (fun k_ h_ => h_)) (below_size (bl_ HB.out))); replace HB := bo_ HB hb; clear hb ho5; obtain ⟨Ao6, co6, eo6⟩ := Kd.R_slice HO756.out; subst eo6) | ((with_reducible refine gate_dst (N := 14) rfl ?_); refine Kd.R_lit k26 w.heap.size 26 ?hg (N := 14) ?hd (xs := ([(⟨y754⟩ : S26)] : List (S26))) (inner := [.slice Ao6 y754.length co6]) (ok := (fun k_ => (w.heap.size ≤ k_))) (okp := (fun k_ => (w.heap.size ≤ k_))) ?hr ?hp (fun _ hk => hk) ((show ∀ k_, w4.heap.size ≤ k_ → (fun k_ => (w.heap.size ≤ k_)) k_ from fun k_ hk => (Nat.le_trans (below_size (bl_ HB.out)) hk)) _ (Nat.le_refl _)) (bl_ HB.out) (below_size (bl_ HB.out)) (by simp) ?_; (case hd => rfl); (case hg => rfl); (case hr => first | (go_simp; done) | (go_simp; rfl)); (case hp => exact (Reps.one (show Kd.M k26 _ _ _ (⟨y754⟩ : S26) [.slice Ao6 y754.length co6] from (k26_mkM _ _ _ (⟨y754⟩ : S26) (Kd.R_mono (ok' := (fun k_ => (w.heap.size ≤ k_))) (HO756.out) (fun k_ hk => hk.1)))) (Reps.none _ _))); intro v758 w7 ho8 hb hg_ hnew_; clear hg_ hnew_; replace ho8 := S_one_ ho8; (first | rw [← Ny757.out] at ho8 | (simp only [Int.reduceToNat] at ho8; rw [← Ny757.out] at ho8)); have HO759 := Aside0.mk ho8; replace HB := Aside0.mk hb; clear HO756; clear hb ho8))
 go_loopg [3, 16] k (fun kq v3 v16 w' => ∃ (x3_1 : List (S26)) (x16_1 : Int), v16 = .int .i64 x16_1 ∧ Aside0 (impl_AllOfGenus.l0 kq x3_1 a0 x16_1 = some r) ∧ Aside0 (kq ≤ k) ∧ Aside0 (Kd.S k26 26 w' w.heap.size (fun k_ => (w.heap.size ≤ k_)) v3 x3_1) ∧ Aside0 (Below w.heap.size w w'))
 case atStart => exact ⟨(y757), (0), rs_, H', ⟨Nat.le_refl _⟩, ⟨by (with_reducible repeat (first | apply Kd.S_alloc | apply Kd.S_drewN | apply Kd.S_drew)); exact HO759.out⟩, ⟨bl_ HB.out⟩⟩
 case round =>
  clear H'
  obtain ⟨x3_1, x16_1, rfl, HA, HK1, HO_3, HB⟩ := hrel
  cases gk with
  | zero => exact absurd HA.out (by simp [impl_AllOfGenus.l0])
  | succ k1 =>
   have H := HA.out
   clear HA
   simp only [impl_AllOfGenus.l0] at H
   by_cases c9 : x16_1 < a0
   rotate_left
   · rw [if_neg c9] at H
     have c9b0 : decide (x16_1 < a0) = false := decide_eq_false c9
     clear c9
     obtain ⟨_, A23, H⟩ := ob_ H
     obtain rfl := Option.some.inj H
     obtain ⟨Ao24, co24, eo24⟩ := Kd.S_slice HO_3.out
     subst eo24
     go_wp2_with (first | ((with_reducible refine gate_callee (f := 45) rfl ?_); refine gL_ (some 37) Try.func45 #[.slice Ao24 x3_1.length co24] ?_; (with_reducible refine (impl_inOrder.calls _ _ x3_1 _ ?side1 ?side2 A23.out).mono ?_); (case side1 => exact ⟨_, _, Kd.S_N HO_3.out⟩); (case side2 => exact (Kd.S_reads' HO_3.out).2.1); rintro e w25 ⟨rfl, hb⟩; refine ⟨_, rfl, ?_⟩; replace HO_3 := Aside0.mk (Kd.S_below (by (with_reducible repeat (first | apply Kd.S_alloc | apply Kd.S_drewN | apply Kd.S_drew)); exact HO_3.out) hb); replace HB := bo_ HB hb; (try clear hb)))
     go_ret
     exact ⟨_, rf_, by (with_reducible repeat (first | apply Kd.S_alloc | apply Kd.S_drewN | apply Kd.S_drew)); exact HO_3.out, bl_ HB.out⟩
   rw [if_pos c9] at H
   have c9b0 : decide (x16_1 < a0) = true := decide_eq_true c9
   clear c9
   obtain ⟨y760, hy760⟩ : ∃ y_ : List (S26), y_ = (([] : List (S26))) := ⟨_, rfl⟩
   replace H : (impl_AllOfGenus.l1 k1 y760 a0 x16_1 x3_1 (x3_1.length : Int) 0) = some r := by subst hy760; exact H
   have Ny760 := Aside0.mk hy760
   clear hy760
   have H' := Aside0.mk H
   clear H
   go_wp2_with (first | ((with_reducible refine gate_dst (N := 18) rfl ?_); refine Kd.S_lit k26 _ 26 ?hg (N := 18) ?hd (xs := ([] : List (S26))) (inner := []) (ok := (fun k_ => (w.heap.size ≤ k_) ∧ some k_ ≠ (u3 : Value).ownBlock)) (okp := (fun k_ => (w.heap.size ≤ k_) ∧ some k_ ≠ (u3 : Value).ownBlock)) ?hr ?hp (fun _ hk => hk) ((show ∀ k_, wr.heap.size ≤ k_ → (fun k_ => (w.heap.size ≤ k_) ∧ some k_ ≠ (u3 : Value).ownBlock) k_ from fun k_ hk => ⟨(Nat.le_trans (below_size (bl_ HB.out)) hk), Kd.fresh' (Kd.S_lt (by (with_reducible repeat (first | apply Kd.S_alloc | apply Kd.S_drewN | apply Kd.S_drew)); exact HO_3.out)) k_ hk⟩) _ (Nat.le_refl _)) (Below.refl _ _) (Nat.le_refl _) (by simp) ?_; (case hd => rfl); (case hg => rfl); (case hr => first | (go_simp; done) | (go_simp; rfl)); (case hp => exact (Reps.none _ _)); intro v761 w10 ho11 hb hg_ hnew_; clear hg_ hnew_; (first | rw [← Ny760.out] at ho11 | (simp only [Int.reduceToNat] at ho11; rw [← Ny760.out] at ho11)); replace HO_3 := Aside0.mk (Kd.S_elder' (by (with_reducible repeat (first | apply Kd.S_alloc | apply Kd.S_drewN | apply Kd.S_drew)); exact HO_3.out) (Kd.S_base ho11) hb); have HO762 := Aside0.mk (Kd.S_lower ho11 (below_size (bl_ HB.out))); replace HB := bo_ HB hb; clear hb ho11; obtain ⟨Ao12, co12, eo12⟩ := Kd.S_slice HO_3.out; subst eo12))
   go_loopg [4, 21] k1 (fun kq v4 v21 w' => ∃ (x4_2 : List (S26)) (x21_2 : Int), v21 = .int .i64 x21_2 ∧ Aside0 (impl_AllOfGenus.l1 kq x4_2 a0 x16_1 x3_1 (x3_1.length : Int) x21_2 = some r) ∧ Aside0 (kq ≤ k1) ∧ Aside0 (Kd.S k26 26 w' w.heap.size (fun k_ => (w.heap.size ≤ k_) ∧ some k_ ≠ ((.slice Ao12 x3_1.length co12) : Value).ownBlock) v4 x4_2) ∧ Aside0 (Kd.S k26 26 w' w.heap.size (fun k_ => (w.heap.size ≤ k_) ∧ some k_ ≠ (v4 : Value).ownBlock) (.slice Ao12 x3_1.length co12) x3_1) ∧ Aside0 (Below w.heap.size w w'))
   case atStart => exact ⟨(y760), (0), rs_, H', ⟨Nat.le_refl _⟩, ⟨by (with_reducible repeat (first | apply Kd.S_alloc | apply Kd.S_drewN | apply Kd.S_drew)); exact HO762.out⟩, ⟨by (with_reducible repeat (first | apply Kd.S_alloc | apply Kd.S_drewN | apply Kd.S_drew)); exact HO_3.out⟩, ⟨bl_ HB.out⟩⟩
   case round =>
    clear H'
    try clear c9b0
    obtain ⟨x4_2, x21_2, rfl, HA, HK2, HO_4, HO_19, HB⟩ := hrel
    cases gk with
    | zero => exact absurd HA.out (by simp [impl_AllOfGenus.l1])
    | succ k2 =>
     have H := HA.out
     clear HA
     simp only [impl_AllOfGenus.l1] at H
     by_cases c13 : x21_2 < (x3_1.length : Int)
     rotate_left
     · rw [if_neg c13] at H
       have c13b0 : decide (x21_2 < (x3_1.length : Int)) = false := decide_eq_false c13
       clear c13
       have H' := Aside0.mk H
       clear H
       go_wp2
       go_roundg k2
       case measure => have := HK1.out; have := HK2.out; omega
       case rel => exact ⟨(x4_2), (wrap64 (x16_1 + 1)), rs_, H', ⟨by have := HK1.out; have := HK2.out; omega⟩, ⟨by (with_reducible repeat (first | apply Kd.S_alloc | apply Kd.S_drewN | apply Kd.S_drew)); exact Kd.S_mono HO_4.out (fun _ hk => hk.1)⟩, ⟨bl_ HB.out⟩⟩
     rw [if_pos c13] at H
     have c13b0 : decide (x21_2 < (x3_1.length : Int)) = true := decide_eq_true c13
     clear c13
     obtain ⟨c14b0, H⟩ := ipd_ H
     obtain ⟨c15b0, H⟩ := ipd_ H
     obtain ⟨⟨t765, t768⟩, A16, H⟩ := ob_ H
     (try dsimp only at H)
     obtain ⟨c17, H⟩ := ip_ H
     have LMc17 := Aside0.mk c17
     clear c17
     obtain ⟨y769, hy769⟩ : ∃ y_ : List (S26), y_ = (x4_2 ++ t765) := ⟨_, rfl⟩
     replace H : (impl_AllOfGenus.l1 k2 y769 a0 x16_1 x3_1 (x3_1.length : Int) (wrap64 (x21_2 + 1))) = some r := by subst hy769; exact H
     have Ny769 := Aside0.mk hy769
     clear hy769
     have H' := Aside0.mk H
     clear H
     have p763 : 0 ≤ (x21_2 : Int) := od_
     have q763 : x21_2 < (x3_1.length : Int) := od_
     obtain ⟨ad763, A763_0, c763_0, e763, hx763_0, hl763_0, hi763_0⟩ := at_T26 (Kd.S_reads' HO_19.out).2.2 x21_2 p763 q763
     cases e763
     obtain ⟨ce763, hce763, hMe763, hcc763⟩ := Kd.N_get (Kd.S_N HO_19.out) z26 x21_2 p763 (by first | exact q763 | exact od_ | (have e_ := (Kd.S_reads' HO_19.out).1; omega))
     obtain ⟨ua763_0, uc763_0, rfl, ul763_0, ge763_0⟩ := k26_openF hMe763
     have hv763_0 := hcc763 0 _ rfl
     rw [Nat.add_zero, show (k26).sz = 1 from rfl, Nat.mul_one] at hv763_0
     replace hv763_0 := Option.some.inj (hv763_0.symm.trans hx763_0)
     injection hv763_0 with hva_ hvn_ hvc_
     rw [hva_] at ge763_0
     rw [hvc_] at ul763_0
     have HL763_0 := Aside0.mk (show Kd.V (Kd.int .i64) 3 _ w.heap.size _ _ ((rd_T26 x3_1 x21_2).f0) from Kd.V_mk ul763_0 ge763_0)
     clear hva_ hvn_ hvc_ ge763_0 ul763_0
     clear hcc763 hce763
     have HR763_0 := Aside0.mk hi763_0
     have HC763_0 := Aside0.mk hl763_0
     clear hi763_0 hl763_0
     replace p763 := eq_true p763
     replace q763 := eq_true q763
     go_wp2_with (first | ((with_reducible refine gate_dst (N := 6) rfl ?_); refine bx_ 6 #[.slice none 0 0] 26 ?_; intro gb764 hg w18 hbox hb; replace HO_4 := Aside0.mk (Kd.S_below (Kd.S_elderB (by (with_reducible repeat (first | apply Kd.S_alloc | apply Kd.S_drewN | apply Kd.S_drew)); exact HO_4.out) gb764 (Nat.le_of_eq hg.symm)) hb); replace HO_19 := Aside0.mk (Kd.S_below (Kd.S_elderB (by (with_reducible repeat (first | apply Kd.S_alloc | apply Kd.S_drewN | apply Kd.S_drew)); exact HO_19.out) gb764 (Nat.le_of_eq hg.symm)) hb); replace HL763_0 := Aside0.mk (Kd.V_below (Kd.V_elderB (by (with_reducible repeat (first | apply Kd.V_alloc | apply Kd.V_drewN | apply Kd.V_drew)); exact HL763_0.out) gb764 (Nat.le_of_eq hg.symm)) hb); replace HR763_0 := Aside0.mk (Kd.C_below (by repeat (first | (with_reducible exact HR763_0.out) | (with_reducible refine Kd.C_alloc ?_ _) | (with_reducible refine Kd.C_drewN ?_ _) | (with_reducible refine Kd.C_drew ?_) | exact HR763_0.out)) hb); have BK764 := Aside0.mk (hbox); have GW764 := gw_ hg HB; have GE764 := gw_ hg HB; replace HB := bo_ HB hb; clear hb hbox hg; have hcz19_0 := cz_ BK764; have hfz19_0 := blk_frozen BK764.out 0) | ((with_reducible refine gate_callee (f := 44) rfl ?_); refine gL_ (some 27) Try.func44 #[.agg #[.slice A763_0 ((rd_T26 x3_1 x21_2).f0).length c763_0]] ?_; (with_reducible refine (impl_ChildrenOf.calls k2 _ _ ((rd_T26 x3_1 x21_2).f0) t765 t768 _ ?side1 ?side2 A16.out).mono ?_); (case side1 => repeat (first | exact ((Kd.V_reads' (by (with_reducible repeat (first | apply Kd.V_alloc | apply Kd.V_drewN | apply Kd.V_drew)); exact (Kd.V_mono (Kd.V_far (p := ⟨gb764, 0, none⟩) (Kd.V_mono HL763_0.out (fun k_ hk => (⟨hk, hk.2⟩ : _ ∧ k_ ≠ gb764))) (fun _ hk => hk.2) (.slice A763_0 ((rd_T26 x3_1 x21_2).f0).length c763_0)) (fun _ h_ => h_.1)))).2.2) | (with_reducible refine Kd.C_alloc ?_ _) | (with_reducible refine Kd.C_drewN ?_ _) | (with_reducible refine Kd.C_drew ?_))); (case side2 => exact HC763_0.out); rintro e w20 ⟨v766, rfl, ho0, hb⟩; refine ⟨_, rfl, ?_⟩; have HO767 := Aside0.mk (Kd.S_lower (Kd.S_mono (ok' := fun k_ => ((w.heap.size ≤ k_) ∧ some k_ ≠ (u4 : Value).ownBlock ∧ some k_ ≠ (.slice (some ad763) x3_1.length co12 : Value).ownBlock ∧ k_ ≠ gb764) ∧ (w18.setCell ⟨gb764, 0, none⟩ (.slice A763_0 ((rd_T26 x3_1 x21_2).f0).length c763_0)).heap.size ≤ k_) (Kd.S_bound ho0) (fun k_ hk_ => ⟨⟨(Nat.le_trans (below_size (bq_ HB)) hk_.2.1), (Kd.fresh' (Kd.S_lt (by (with_reducible repeat (first | apply Kd.S_alloc | apply Kd.S_drewN | apply Kd.S_drew)); exact (Kd.S_mono (Kd.S_far (p := ⟨gb764, 0, none⟩) (Kd.S_mono HO_4.out (fun k_ hk => (⟨hk, hk.2⟩ : _ ∧ k_ ≠ gb764))) (fun _ hk => hk.2) (.slice A763_0 ((rd_T26 x3_1 x21_2).f0).length c763_0)) (fun _ h_ => h_.1)))) k_ hk_.2.1), (Kd.fresh' (Kd.S_lt (by (with_reducible repeat (first | apply Kd.S_alloc | apply Kd.S_drewN | apply Kd.S_drew)); exact (Kd.S_mono (Kd.S_far (p := ⟨gb764, 0, none⟩) (Kd.S_mono HO_19.out (fun k_ hk => (⟨hk, hk.2⟩ : _ ∧ k_ ≠ gb764))) (fun _ hk => hk.2) (.slice A763_0 ((rd_T26 x3_1 x21_2).f0).length c763_0)) (fun _ h_ => h_.1)))) k_ hk_.2.1), (Kd.freshB (g := gb764) (o := .cells #[.slice A763_0 ((rd_T26 x3_1 x21_2).f0).length c763_0] 26 (0, 0)) (bz_ BK764) k_ hk_.2.1)⟩, hk_.2.1⟩)) (below_size (bq_ HB))); replace HO_4 := Aside0.mk (Kd.S_old (by (with_reducible repeat (first | apply Kd.S_alloc | apply Kd.S_drewN | apply Kd.S_drew)); exact (Kd.S_mono (Kd.S_far (p := ⟨gb764, 0, none⟩) (Kd.S_mono HO_4.out (fun k_ hk => (⟨hk, hk.2⟩ : _ ∧ k_ ≠ gb764))) (fun _ hk => hk.2) (.slice A763_0 ((rd_T26 x3_1 x21_2).f0).length c763_0)) (fun _ h_ => h_.1))) hb); replace HO_19 := Aside0.mk (Kd.S_elder' (by (with_reducible repeat (first | apply Kd.S_alloc | apply Kd.S_drewN | apply Kd.S_drew)); exact (Kd.S_mono (Kd.S_far (p := ⟨gb764, 0, none⟩) (Kd.S_mono HO_19.out (fun k_ hk => (⟨hk, hk.2⟩ : _ ∧ k_ ≠ gb764))) (fun _ hk => hk.2) (.slice A763_0 ((rd_T26 x3_1 x21_2).f0).length c763_0)) (fun _ h_ => h_.1))) (Kd.S_base ho0) hb); replace HR763_0 := Aside0.mk (Kd.C_below ((Kd.V_reads' (by (with_reducible repeat (first | apply Kd.V_alloc | apply Kd.V_drewN | apply Kd.V_drew)); exact (Kd.V_mono (Kd.V_far (p := ⟨gb764, 0, none⟩) (Kd.V_mono HL763_0.out (fun k_ hk => (⟨hk, hk.2⟩ : _ ∧ k_ ≠ gb764))) (fun _ hk => hk.2) (.slice A763_0 ((rd_T26 x3_1 x21_2).f0).length c763_0)) (fun _ h_ => h_.1)))).2.2) hb); replace HL763_0 := Aside0.mk (Kd.V_elder' (by (with_reducible repeat (first | apply Kd.V_alloc | apply Kd.V_drewN | apply Kd.V_drew)); exact (Kd.V_mono (Kd.V_far (p := ⟨gb764, 0, none⟩) (Kd.V_mono HL763_0.out (fun k_ hk => (⟨hk, hk.2⟩ : _ ∧ k_ ≠ gb764))) (fun _ hk => hk.2) (.slice A763_0 ((rd_T26 x3_1 x21_2).f0).length c763_0)) (fun _ h_ => h_.1))) (Kd.S_base ho0) hb); replace BK764 := Aside0.mk (blk_below (g := gb764) (o := .cells #[.slice A763_0 ((rd_T26 x3_1 x21_2).f0).length c763_0] 26 (0, 0)) (bz_ BK764) hb); replace HB := bp_ HB hb; (try clear hb); (try clear ho0); obtain ⟨Ao22, co22, eo22⟩ := Kd.S_slice HO767.out; subst eo22) | ((with_reducible refine gate_builtin (b := .append) (xs := #[.tmp 30, .tmp 31]) rfl ?_); at_builtin; refine S_append_rows_ k26 (w0 := w) w.heap.size rfl (.tmp 30) (.tmp 31) 29 26 (.agg #[(.slice none 0 0)]) 24 rfl Try.underlying29 info26 rfl (by decide) (by omega) u4 (.slice Ao22 t765.length co22) x4_2 t765 (fun k_ => (w.heap.size ≤ k_) ∧ some k_ ≠ (.slice (some ad763) x3_1.length co12 : Value).ownBlock ∧ k_ ≠ gb764) (fun k_ => ((fun k_ => (w.heap.size ≤ k_) ∧ some k_ ≠ (.slice (some ad763) x3_1.length co12 : Value).ownBlock ∧ k_ ≠ gb764)) k_ ∧ some k_ ≠ (u4 : Value).ownBlock) (w18.setCell ⟨gb764, 0, none⟩ (.slice A763_0 ((rd_T26 x3_1 x21_2).f0).length c763_0)).heap.size rfl rfl ?aO ?aR (fun _ hk => hk) ?aF ?aB ?aS ?aL ?_; (case aR => exact Kd.S_mono HO767.out (fun k_ hk => ⟨⟨⟨hk.1.1, ⟨hk.1.2.2.1, hk.1.2.2.2⟩⟩, hk.1.2.1⟩, hk.2⟩)); (case aB => exact (bq_ HB)); (case aF => exact (fun k_ hk => ⟨(Nat.le_trans (below_size (bq_ HB)) hk), Kd.fresh' (Kd.S_lt (by (with_reducible repeat (first | apply Kd.S_alloc | apply Kd.S_drewN | apply Kd.S_drew)); exact HO_19.out)) k_ hk, Kd.freshB (g := gb764) (o := .cells #[.slice A763_0 ((rd_T26 x3_1 x21_2).f0).length c763_0] 26 (0, 0)) (be_ BK764.out) k_ hk⟩)); (case aO => exact (by (with_reducible repeat (first | apply Kd.S_alloc | apply Kd.S_drewN | apply Kd.S_drew)); exact Kd.S_mono HO_4.out (fun _ hk => ⟨⟨hk.1.1.1, ⟨hk.1.1.2, hk.1.2⟩⟩, hk.2⟩))); (case aS => exact (below_size (bq_ HB))); (case aL => have := LMc17.out; omega); intro v770 w21 ho hb hg hat; rw [← Ny769.out] at ho; have n0_ := Aside0.mk (S_afterv_ (ok := (fun k_ => (w.heap.size ≤ k_) ∧ some k_ ≠ (.slice Ao22 t765.length co22 : Value).ownBlock ∧ k_ ≠ gb764)) (by (with_reducible repeat (first | apply Kd.S_alloc | apply Kd.S_drewN | apply Kd.S_drew)); exact Kd.S_mono HO_19.out (fun _ hk => ⟨⟨hk.1.1.1, ⟨hk.2, hk.1.2⟩⟩, hk.1.1.2⟩)) hg hat); have n1_ := Aside0.mk (Kd.V_afterv (ok := (fun k_ => (w.heap.size ≤ k_) ∧ some k_ ≠ (.slice (some ad763) x3_1.length co12 : Value).ownBlock ∧ some k_ ≠ (.slice Ao22 t765.length co22 : Value).ownBlock ∧ k_ ≠ gb764)) (by (with_reducible repeat (first | apply Kd.V_alloc | apply Kd.V_drewN | apply Kd.V_drew)); exact Kd.V_mono HL763_0.out (fun _ hk => ⟨⟨hk.1.1.1.1, ⟨hk.1.1.2, ⟨hk.2, hk.1.2⟩⟩⟩, hk.1.1.1.2⟩)) hg hat); have n2_ := Aside0.mk (blk_grown (be_ BK764.out) hg (Kd.S_away HO_4.out (fun _ hk => hk.1.2))); have n4_ := Aside0.mk (hb); have n5_ := Aside0.mk (ho); clear HO_19; clear HL763_0; clear BK764; clear HB; clear HO_4; have HO_19 := n0_; have HL763_0 := n1_; have BK764 := n2_; have HB := n4_; have HO771 := n5_; clear n0_ n1_ n2_ n4_ n5_; clear ho hb hg hat))
     go_roundg k2
     case measure => have := HK1.out; have := HK2.out; omega
     case rel => exact ⟨(y769), (wrap64 (x21_2 + 1)), rs_, H', ⟨by have := HK1.out; have := HK2.out; omega⟩, ⟨by (with_reducible repeat (first | apply Kd.S_alloc | apply Kd.S_drewN | apply Kd.S_drew)); exact Kd.S_mono HO771.out (fun _ hk => ⟨hk.1, hk.2.1⟩)⟩, ⟨by (with_reducible repeat (first | apply Kd.S_alloc | apply Kd.S_drewN | apply Kd.S_drew)); exact Kd.S_mono HO_19.out (fun _ hk => ⟨hk.1.1, hk.2⟩)⟩, ⟨bq_ HB⟩⟩
end Go.Proofs.Ytonknpgfbkgbjaa.PC
end
