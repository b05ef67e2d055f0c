-- Bundled by shake.py from this session's printed and written texts; Lean checks it.
import Derived.Deep.RegionHeld3
import Derived.Ground.Names2Prog
import Derived.Ground.NamesProg
import Derived.KernelRfl
import Derived.Shelf.Abstract
import Derived.Shelf.Slices.CompactI
import Derived.Shelf.Slices.In.SortNone
import Derived.Shelf.Sort.Plain
import Derived.Sort.OwnSortedInts
import Derived.Test.YtonknpgfbkgbjaaProg
import Derived.Test.YtonknpgfbkgbjaaZFnExactCountGenusx1
import Derived.Test.YtonknpgfbkgbjaaZFnExactCountGenusx2
section
namespace Go.Proofs.Ytonknpgfbkgbjaa.PB
open Go.RowKit Go.Proofs.YtonknpgfbkgbjaaW.PrintWords Go.Proofs.YtonknpgfbkgbjaaW.PrintLast Go.Proofs.YtonknpgfbkgbjaaW.PrintMore
attribute [local go_sem] max2_int min2_int max_two min_two max_three min_three max_four min_four
set_option linter.unusedVariables false
set_option linter.unusedSimpArgs false
set_option maxHeartbeats 8000000
set_option maxRecDepth 100000
def impl_gapList.f (k : Nat) (l0 : List Int) : Option (Bool) := (impl_IsAscending.f k l0).bind fun t488 => (if t488 = true then ((impl_allWithin.f k l0 1 199).bind fun t489 => (some t489)) else (some false))
theorem impl_gapList.calls (k : Nat) (A0 : Option Addr) (c0 : Nat) (l0 : List Int) (r : Bool) (w : World) (hr0 : Kd.C (Kd.int .i64) w A0 l0.length l0) (hc0 : l0.length ≤ c0) (h : impl_gapList.f k l0 = some r) :
 Calls Try.prog 88 #[.slice A0 l0.length c0] w fun e w' => e = .returned (.bool r) ∧ Drawn0 w w' := by
 have HR0 := Aside0.mk hr0
 have HC0 := Aside0.mk hc0
 clear hr0 hc0
 have H := h
 clear h
 unfold impl_gapList.f at H
 obtain ⟨t488, A2, H⟩ := ob_ H
 by_cases c3 : t488 = true
 rotate_left
 · replace c3 := Bool.eq_false_iff.mpr c3
   subst c3
   rw [if_neg (show ¬ (false = true) by decide)] at H
   obtain rfl := Option.some.inj H
   go_enter Try.func88, Try.ntmps88
   go_wp2_with (first | ((with_reducible refine gate_callee (f := 56) rfl ?_); refine gL_ (some 4) Try.func56 #[.slice A0 l0.length c0] ?_; (with_reducible refine (impl_IsAscending.calls k _ _ l0 false _ ?side1 ?side2 A2.out).mono ?_); (case side1 => exact ce_ (HR0.out)); (case side2 => exact HC0.out); rintro e w' ⟨rfl, ⟨nd, rfl⟩⟩; refine ⟨_, rfl, ?_⟩))
   go_ret
   exact ⟨by first | rfl | (simp; done) | (simp [*]; done), by repeat (first | exact Drawn0.refl _ | apply Drawn0.step)⟩
 subst c3
 rw [if_pos rfl] at H
 obtain ⟨t489, A4, H⟩ := ob_ H
 obtain rfl := Option.some.inj H
 go_enter Try.func88, Try.ntmps88
 go_wp2_with (first | ((with_reducible refine gate_callee (f := 56) rfl ?_); refine gL_ (some 4) Try.func56 #[.slice A0 l0.length c0] ?_; (with_reducible refine (impl_IsAscending.calls k _ _ l0 true _ ?side1 ?side2 A2.out).mono ?_); (case side1 => exact ce_ (HR0.out)); (case side2 => exact HC0.out); rintro e w' ⟨rfl, ⟨nd, rfl⟩⟩; refine ⟨_, rfl, ?_⟩) | (go_at_call 55; (with_reducible refine (impl_allWithin.calls k _ _ l0 1 199 t489 _ ?side1 ?side2 A4.out).mono ?_); (case side1 => exact ce_ (HR0.out)); (case side2 => exact HC0.out); rintro e w' ⟨rfl, ⟨nd, rfl⟩⟩))
 go_ret
 exact ⟨by first | rfl | (simp; done) | (simp [*]; done), by repeat (first | exact Drawn0.refl _ | apply Drawn0.step)⟩
mutual
def impl_GapClash.j0 : Nat → List Int → Bool → Option (Int × Int × Bool)
 | 0, _, _ => none
 | k + 1, x0, x17 => if x17 = true then (some (0, 0, false)) else (if 201 ≤ 281474976710656 then (impl_GapClash.l0 k x0 (List.replicate 201 false) x0 (x0.length : Int) 0) else (none))
def impl_GapClash.l0 : Nat → List Int → List Bool → List Int → Int → Int → Option (Int × Int × Bool)
 | 0, _, _, _, _, _ => none
 | k + 1, x0, x4, x20, x21, x22 => if x22 < x21 then (if 0 ≤ x22 then (if x22 < (x20.length : Int) then (if 0 ≤ (rd x20 x22) then (if (rd x20 x22) < (x4.length : Int) then (impl_GapClash.l0 k x0 (x4.set ((rd x20 x22) : Int).toNat true) x20 x21 (wrap64 (x22 + 1))) else (none)) else (none)) else (none)) else (none)) else (if 0 ≤ (wrap64 ((x0.length : Int) - 1)) then (if (wrap64 ((x0.length : Int) - 1)) < (x0.length : Int) then (impl_GapClash.l1 k x4 (rd x0 (wrap64 ((x0.length : Int) - 1))) 1) else (none)) else (none))
def impl_GapClash.l1 : Nat → List Bool → Int → Int → Option (Int × Int × Bool)
 | 0, _, _, _ => none
 | k + 1, x4, x7, x8 => if x8 ≤ x7 then (impl_GapClash.l2 k x4 x7 x8 x8) else (some (0, 0, false))
def impl_GapClash.l2 : Nat → List Bool → Int → Int → Int → Option (Int × Int × Bool)
 | 0, _, _, _, _ => none
 | k + 1, x4, x7, x8, x9 => if (wrap64 (x8 + x9)) ≤ x7 then (if 0 ≤ x8 then (if x8 < (x4.length : Int) then (if rdOf false x4 x8 = true then (impl_GapClash.l2 k x4 x7 x8 (wrap64 (x9 + 1))) else (if 0 ≤ x9 then (if x9 < (x4.length : Int) then (if rdOf false x4 x9 = true then (impl_GapClash.l2 k x4 x7 x8 (wrap64 (x9 + 1))) else (if 0 ≤ (wrap64 (x8 + x9)) then (if (wrap64 (x8 + x9)) < (x4.length : Int) then (if rdOf false x4 (wrap64 (x8 + x9)) = true then (some (x8, x9, true)) else (impl_GapClash.l2 k x4 x7 x8 (wrap64 (x9 + 1)))) else (none)) else (none))) else (none)) else (none))) else (none)) else (none)) else (impl_GapClash.l1 k x4 x7 (wrap64 (x8 + 1)))
end
def impl_GapClash.f (k : Nat) (l0 : List Int) : Option (Int × Int × Bool) := (impl_gapList.f k l0).bind fun t491 => (if t491 = true then (impl_GapClash.j0 k l0 ((l0.length : Int) == 0)) else (impl_GapClash.j0 k l0 true))
theorem impl_GapClash.calls (k : Nat) (A0 : Option Addr) (c0 : Nat) (l0 : List Int) (r1 : Int) (r2 : Int) (r3 : Bool) (w : World) (hr0 : Kd.C (Kd.int .i64) w A0 l0.length l0) (hc0 : l0.length ≤ c0) (h : impl_GapClash.f k l0 = some (r1, r2, r3)) :
 Calls Try.prog 87 #[.slice A0 l0.length c0] w fun e w' => e = .returned (.tuple #[.agg #[.int .i64 r1, .int .i64 r2], .bool r3]) ∧ Below w.heap.size w w' := by
 have hu70 := Try.underlying70
 have HR0 := Aside0.mk hr0
 have HC0 := Aside0.mk hc0
 clear hr0 hc0
 have HB := Aside0.mk (Below.refl w.heap.size w)
 have H := h
 clear h
 unfold impl_GapClash.f at H
 have HC2 := Aside0.mk H
 clear H
 go_enter Try.func87, Try.ntmps87
 go_upto_region 1 with (first | ((with_reducible refine gate_dst (N := 2) rfl ?_); (try (refine gate_guard (by rfl) ?_; dsimp only)); refine bx_ 2 #[.int .i64 0, .int .i64 0] 70 ?_; intro gb490 hg w3 hbox hb; have BK490 := Aside0.mk (hbox); have GW490 := gw_ hg HB; have GE490 := gw_ hg HB; replace HB := bo_ HB hb; clear hb hbox hg))
 (try simp only [Act.put, z1_, z2_, z3_])
 go_cut [17] (fun v17 wc => ∃ (kq : Nat) (x17_1 : Bool), v17 = .bool x17_1 ∧ Aside0 (impl_GapClash.j0 kq l0 x17_1 = some (r1, r2, r3)) ∧ Aside0 (kq ≤ k) ∧ Aside0 (wc.heap[gb490]? = some (.cells #[.int .i64 0, .int .i64 0] 70 (0, 0))) ∧ Aside0 (Below w.heap.size w wc))
 case first =>
  have H := HC2.out
  clear HC2
  obtain ⟨t491, A4, H⟩ := ob_ H
  by_cases c5 : t491 = true
  · subst c5
    rw [if_pos rfl] at H
    have H' := Aside0.mk H
    clear H
    go_wp2_with (first | ((with_reducible refine gate_callee (f := 88) rfl ?_); refine gL_ (some 11) Try.func88 #[.slice A0 l0.length c0] ?_; (with_reducible refine (impl_gapList.calls k _ _ l0 true _ ?side1 ?side2 A4.out).mono ?_); (case side1 => exact ch_ HR0 HB); (case side2 => exact HC0.out); rintro e w' ⟨rfl, ⟨nd, rfl⟩⟩; refine ⟨_, rfl, ?_⟩))
    go_meet
    case rel => exact ⟨_, (((l0.length : Int) == 0)), rs_, H', ⟨by first | omega | exact Nat.le_refl _⟩, ⟨be_ BK490.out⟩, ⟨bq_ HB⟩⟩
  replace c5 := Bool.eq_false_iff.mpr c5
  subst c5
  rw [if_neg (show ¬ (false = true) by decide)] at H
  have H' := Aside0.mk H
  clear H
  go_wp2_with (first | ((with_reducible refine gate_callee (f := 88) rfl ?_); refine gL_ (some 11) Try.func88 #[.slice A0 l0.length c0] ?_; (with_reducible refine (impl_gapList.calls k _ _ l0 false _ ?side1 ?side2 A4.out).mono ?_); (case side1 => exact ch_ HR0 HB); (case side2 => exact HC0.out); rintro e w' ⟨rfl, ⟨nd, rfl⟩⟩; refine ⟨_, rfl, ?_⟩))
  go_meet
  case rel => exact ⟨_, (true), rs_, H', ⟨by first | omega | exact Nat.le_refl _⟩, ⟨be_ BK490.out⟩, ⟨bq_ HB⟩⟩
 case rest =>
  clear HC2
  obtain ⟨kq, x17_1, rfl, HA, HJ1, BK490, HB⟩ := hcut
  cases kq with
  | zero => exact absurd HA.out (by simp [impl_GapClash.j0])
  | succ kj1 =>
   have H := HA.out
   clear HA
   simp only [impl_GapClash.j0] at H
   by_cases c6 : x17_1 = true
   · subst c6
     rw [if_pos rfl] at H
     simp only [Option.some.injEq, Prod.mk.injEq] at H
     obtain ⟨rfl, rfl, rfl⟩ := H
     have hcz7_0 : wc.cell? ⟨gb490, 0, none⟩ = some (.int .i64 0) := (blk_cell BK490.out 0).trans rfl
     have hcz7_1 : wc.cell? ⟨gb490, 1, none⟩ = some (.int .i64 0) := (blk_cell BK490.out 1).trans rfl
     have hfz7_0 := blk_frozen BK490.out 0
     have hfz7_1 := blk_frozen BK490.out 1
     go_wp2
     refine bodyPost_ret (results_ct rfl _ _ gb490 70 #[.int .i64 0, .int .i64 0] (0, 0) _ rfl (by (with_reducible repeat (first | refine blk_drewN ?_ _ | refine blk_drew ?_ | refine blk_alloc ?_ _)); refine blk_put (cs := #[.int .i64 0, .int .i64 0]) ?_ 1 _ rfl; (with_reducible repeat (first | refine blk_drewN ?_ _ | refine blk_drew ?_ | refine blk_alloc ?_ _)); refine blk_put (cs := #[.int .i64 0, .int .i64 0]) ?_ 0 _ rfl; (with_reducible repeat (first | refine blk_drewN ?_ _ | refine blk_drew ?_ | refine blk_alloc ?_ _)); exact BK490.out) Try.underlying70 rfl (by kernel_rfl)) rfl ?_
     exact ⟨rf_, bq_ HB⟩
   replace c6 := Bool.eq_false_iff.mpr c6
   subst c6
   rw [if_neg (show ¬ (false = true) by decide)] at H
   obtain ⟨c8, H⟩ := ip_ H
   have c8b0 := eq_true c8
   have c8b1 : decide (201 ≤ 281474976710656) = true := decide_eq_true c8
   clear c8
   obtain ⟨y492, hy492⟩ : ∃ y_ : List Bool, y_ = (List.replicate 201 false) := ⟨_, rfl⟩
   replace H : (impl_GapClash.l0 kj1 l0 y492 l0 (l0.length : Int) 0) = some (r1, r2, r3) := by subst hy492; exact H
   have Ny492 := Aside0.mk hy492
   clear hy492
   have H' := Aside0.mk H
   clear H
   go_wp2_with (first | ((with_reducible refine gate_dst (N := 19) rfl ?_); (try (refine gate_guard (by rfl) ?_; dsimp only)); refine Kd.R_make Kd.bool _ 4 rfl (N := 19) rfl 67 _ _ rfl 201 rfl rfl Try.underlying67 (.bool false) 1 info4 rfl (by decide) (by omega) false (ok := fun _ => True) (okp := fun _ => True) rfl (fun _ hk => hk) trivial (by omega) (by omega) (Below.refl _ _) (Nat.le_refl _) ?_; intro v493 w9 ho10 hb hg_ hnew_; clear hg_ hnew_; (first | rw [← Ny492.out] at ho10 | (simp only [Int.reduceToNat] at ho10; rw [← Ny492.out] at ho10)); have HO494 := Aside0.mk (Kd.R_lower ho10 (below_size (bq_ HB))); replace BK490 := bk_ BK490 hb; replace HB := bp_ HB hb; clear hb ho10))
   go_loopg [22] kj1 (fun kq v22 w' => ∃ (x4_2 : List Bool) (x22_2 : Int), v22 = .int .i64 x22_2 ∧ Aside0 (impl_GapClash.l0 kq l0 x4_2 l0 (l0.length : Int) x22_2 = some (r1, r2, r3)) ∧ Aside0 (kq ≤ kj1) ∧ Aside0 (Kd.R Kd.bool 4 w' w.heap.size (fun _ => True) v493 x4_2) ∧ Aside0 (w'.heap[gb490]? = some (.cells #[.int .i64 0, .int .i64 0] 70 (0, 0))) ∧ Aside0 (Below w.heap.size w w'))
   case atStart => exact ⟨(y492), (0), rs_, H', ⟨Nat.le_refl _⟩, ⟨re_ HO494.out⟩, ⟨be_ BK490.out⟩, ⟨bq_ HB⟩⟩
   case round =>
    clear H'
    try clear c8b0
    try clear c8b1
    obtain ⟨x4_2, x22_2, rfl, HA, HK2, HO_4, BK490, HB⟩ := hrel
    cases gk with
    | zero => exact absurd HA.out (by simp [impl_GapClash.l0])
    | succ k2 =>
     have H := HA.out
     clear HA
     simp only [impl_GapClash.l0] at H
     by_cases c11 : x22_2 < (l0.length : Int)
     · rw [if_pos c11] at H
       have c11b0 : decide (x22_2 < (l0.length : Int)) = true := decide_eq_true c11
       clear c11
       obtain ⟨c12b0, H⟩ := ipd_ H
       obtain ⟨c13b0, H⟩ := ipd_ H
       obtain ⟨c14b0, H⟩ := ipd_ H
       obtain ⟨c15b0, H⟩ := ipd_ H
       obtain ⟨y496, hy496⟩ : ∃ y_ : List Bool, y_ = (x4_2.set ((rd l0 x22_2) : Int).toNat true) := ⟨_, rfl⟩
       replace H : (impl_GapClash.l0 k2 l0 y496 l0 (l0.length : Int) (wrap64 (x22_2 + 1))) = some (r1, r2, r3) := by subst hy496; exact H
       have Ny496 := Aside0.mk hy496
       clear hy496
       have H' := Aside0.mk H
       clear H
       have p495 : 0 ≤ (x22_2 : Int) := od_
       have q495 : x22_2 < (l0.length : Int) := od_
       obtain ⟨ad495, e495, hx495_0⟩ := Kd.at_int HR0.out x22_2 p495 q495
       cases e495
       (try replace hx495_0 := (HB.out.cell (World.block_lt_of_cell? w _ hx495_0)).trans hx495_0)
       replace p495 := eq_true p495
       replace q495 := eq_true q495
       have p16 : 0 ≤ ((rd l0 x22_2) : Int) := od_
       have q16 : ((rd l0 x22_2) : Int) < ((x4_2.length : Int) : Int) := od_
       obtain ⟨go16, co16, eo16, gb16, gl16, cl16, HG16⟩ := Kd.R_form HO_4.out (by omega)
       (first | cases eo16 | (injection eo16 with ea_ en_ ec_; (first | subst ea_ | (injection ea_ with ea_; subst ea_)); subst ec_; clear en_))
       have GB16 := Aside0.mk gb16
       have GG16 := Aside0.mk HG16
       clear gb16 gl16 HG16
       obtain ⟨hx16_0, hf16_0⟩ := Kd.R_celln false HO_4.out ((rd l0 x22_2) : Int) p16 q16
       replace p16 := eq_true p16
       replace q16 := eq_true q16
       have HP17 := Kd.R_putg HO_4.out ((rd l0 x22_2) : Int) true
       go_wp2_with (first | ((with_reducible refine gate_store (t := 4) (p := 28) rfl ?_); refine store_event (t := 4) (p := 28) (v := ?vo_w18) (w1 := (wr.setCell ⟨go16, ((rd l0 x22_2) : Int).toNat, none⟩ (.bool true))) ?hg ?ho ?hn ?hr ?_; (case ho => rfl); (case hg => rfl); (case hn => rfl); (case hr => first | (go_simp; done) | (go_simp; rfl)); intro w18 hw; have hg : wr.grownBy w18 (some go16) := (by rw [hw]; exact HP17.2); have hp_ : Kd.R Kd.bool 4 w18 w.heap.size (fun _ => True) (.slice (some ⟨go16, 0, none⟩) x4_2.length co16) y496 := (by rw [hw, Ny496.out]; exact HP17.1); clear HP17; replace BK490 := Aside0.mk (blk_grown (be_ BK490.out) hg (Kd.R_ne HO_4.out BK490.out (by decide))); replace HO_4 := Aside0.mk (hp_); replace HB := Aside0.mk ((by rw [hw]; exact below_set (HB.out) GB16.out : Below w.heap.size w w18)); clear hg hw hp_))
       go_roundg k2
       case measure => have := HJ1.out; have := HK2.out; omega
       case rel => exact ⟨(y496), (wrap64 (x22_2 + 1)), rs_, H', ⟨by have := HJ1.out; have := HK2.out; omega⟩, ⟨re_ HO_4.out⟩, ⟨be_ BK490.out⟩, ⟨bq_ HB⟩⟩
     rw [if_neg c11] at H
     have c11b0 : decide (x22_2 < (l0.length : Int)) = false := decide_eq_false c11
     clear c11
     obtain ⟨ji19, hji19⟩ : ∃ j_ : Int, (wrap64 ((l0.length : Int) - 1)) = j_ := ⟨_, rfl⟩
     replace H : (if 0 ≤ (ji19) then (if (ji19) < (l0.length : Int) then (impl_GapClash.l1 k2 x4_2 (rd l0 (ji19)) 1) else (none)) else (none)) = some (r1, r2, r3) := by first | (rw [hji19] at H; exact H) | (simp only [hji19] at H ⊢; exact H)
     have hji19w : (IntKind.i64.wrap ((l0.length : Int) - 1)) = ji19 := (i64_w _).trans hji19
     obtain ⟨c20b0, H⟩ := ipd_ H
     obtain ⟨c21b0, H⟩ := ipd_ H
     have H' := Aside0.mk H
     clear H
     have p497 : 0 ≤ ((ji19) : Int) := od_
     have q497 : (ji19) < (l0.length : Int) := od_
     obtain ⟨ad497, e497, hx497_0⟩ := Kd.at_int HR0.out (ji19) p497 q497
     cases e497
     (try replace hx497_0 := (HB.out.cell (World.block_lt_of_cell? w _ hx497_0)).trans hx497_0)
     replace p497 := eq_true p497
     replace q497 := eq_true q497
     go_wp2
     go_loopg [8] k2 (fun kq v8 w' => ∃ (x8_3 : Int) (x491000_3 : Int) (x491001_3 : Int), v8 = .int .i64 x8_3 ∧ Aside0 (impl_GapClash.l1 kq x4_2 (rd l0 (ji19)) x8_3 = some (r1, r2, r3)) ∧ Aside0 (kq ≤ k2) ∧ Aside0 (Kd.R Kd.bool 4 w' w.heap.size (fun _ => True) v493 x4_2) ∧ Aside0 (w'.heap[gb490]? = some (.cells #[.int .i64 x491000_3, .int .i64 x491001_3] 70 (0, 0))) ∧ Aside0 (Below w.heap.size w w'))
     case atStart => exact ⟨(1), (0), (0), rs_, H', ⟨Nat.le_refl _⟩, ⟨re_ HO_4.out⟩, ⟨be_ BK490.out⟩, ⟨bq_ HB⟩⟩
     case round =>
      clear H'
      try clear c11b0
      try clear c20b0
      try clear c21b0
      try clear hx497_0
      try clear p497
      try clear q497
      obtain ⟨x8_3, x491000_3, x491001_3, rfl, HA, HK3, HO_4, BK490, HB⟩ := hrel
      cases gk with
      | zero => exact absurd HA.out (by simp [impl_GapClash.l1])
      | succ k3 =>
       have H := HA.out
       clear HA
       simp only [impl_GapClash.l1] at H
       by_cases c22 : x8_3 ≤ (rd l0 (ji19))
       rotate_left
       · rw [if_neg c22] at H
         have c22b0 : decide (x8_3 ≤ (rd l0 (ji19))) = false := decide_eq_false c22
         clear c22
         simp only [Option.some.injEq, Prod.mk.injEq] at H
         obtain ⟨rfl, rfl, rfl⟩ := H
         have hcz42_0 : wr.cell? ⟨gb490, 0, none⟩ = some (.int .i64 x491000_3) := (blk_cell BK490.out 0).trans rfl
         have hcz42_1 : wr.cell? ⟨gb490, 1, none⟩ = some (.int .i64 x491001_3) := (blk_cell BK490.out 1).trans rfl
         have hfz42_0 := blk_frozen BK490.out 0
         have hfz42_1 := blk_frozen BK490.out 1
         go_wp2
         refine bodyPost_ret (results_ct rfl _ _ gb490 70 #[.int .i64 0, .int .i64 0] (0, 0) _ rfl (by (with_reducible repeat (first | refine blk_drewN ?_ _ | refine blk_drew ?_ | refine blk_alloc ?_ _)); refine blk_put (cs := #[.int .i64 0, .int .i64 x491001_3]) ?_ 1 _ rfl; (with_reducible repeat (first | refine blk_drewN ?_ _ | refine blk_drew ?_ | refine blk_alloc ?_ _)); refine blk_put (cs := #[.int .i64 x491000_3, .int .i64 x491001_3]) ?_ 0 _ rfl; (with_reducible repeat (first | refine blk_drewN ?_ _ | refine blk_drew ?_ | refine blk_alloc ?_ _)); exact BK490.out) Try.underlying70 rfl (by kernel_rfl)) rfl ?_
         exact ⟨by first | rfl | (simp [errW_none, errW_some] <;> rfl) | (simp only [← hji19]; first | rfl | (simp [errW_none, errW_some] <;> rfl)) | (simp [*, errW_none, errW_some] <;> rfl), bq_ HB⟩
       rw [if_pos c22] at H
       have c22b0 : decide (x8_3 ≤ (rd l0 (ji19))) = true := decide_eq_true c22
       clear c22
       have H' := Aside0.mk H
       clear H
       go_wp2
       go_loopg [9] k3 (fun kq v9 w' => ∃ (x9_4 : Int) (x491000_4 : Int) (x491001_4 : Int), v9 = .int .i64 x9_4 ∧ Aside0 (impl_GapClash.l2 kq x4_2 (rd l0 (ji19)) x8_3 x9_4 = some (r1, r2, r3)) ∧ Aside0 (kq ≤ k3) ∧ Aside0 (Kd.R Kd.bool 4 w' w.heap.size (fun _ => True) v493 x4_2) ∧ Aside0 (w'.heap[gb490]? = some (.cells #[.int .i64 x491000_4, .int .i64 x491001_4] 70 (0, 0))) ∧ Aside0 (Below w.heap.size w w'))
       case atStart => exact ⟨(x8_3), (x491000_3), (x491001_3), rs_, H', ⟨Nat.le_refl _⟩, ⟨re_ HO_4.out⟩, ⟨be_ BK490.out⟩, ⟨bq_ HB⟩⟩
       case round =>
        clear H'
        try clear c22b0
        obtain ⟨x9_4, x491000_4, x491001_4, rfl, HA, HK4, HO_4, BK490, HB⟩ := hrel
        cases gk with
        | zero => exact absurd HA.out (by simp [impl_GapClash.l2])
        | succ k4 =>
         have H := HA.out
         clear HA
         simp only [impl_GapClash.l2] at H
         by_cases c23 : (wrap64 (x8_3 + x9_4)) ≤ (rd l0 (ji19))
         rotate_left
         · rw [if_neg c23] at H
           have c23b0 : decide ((wrap64 (x8_3 + x9_4)) ≤ (rd l0 (ji19))) = false := decide_eq_false c23
           clear c23
           have H' := Aside0.mk H
           clear H
           go_wp2
           go_roundg k4
           case measure => have := HJ1.out; have := HK2.out; have := HK3.out; have := HK4.out; omega
           case rel => exact ⟨(wrap64 (x8_3 + 1)), (x491000_4), (x491001_4), rs_, H', ⟨by have := HJ1.out; have := HK2.out; have := HK3.out; have := HK4.out; omega⟩, ⟨re_ HO_4.out⟩, ⟨be_ BK490.out⟩, ⟨bq_ HB⟩⟩
         rw [if_pos c23] at H
         have c23b0 : decide ((wrap64 (x8_3 + x9_4)) ≤ (rd l0 (ji19))) = true := decide_eq_true c23
         clear c23
         obtain ⟨c24b0, H⟩ := ipd_ H
         obtain ⟨c25b0, H⟩ := ipd_ H
         obtain ⟨bq26, hbq26⟩ : ∃ b_ : Bool, b_ = (rdOf false x4_2 x8_3) := ⟨_, rfl⟩
         replace H : (if bq26 = true then (impl_GapClash.l2 k4 x4_2 (rd l0 (ji19)) x8_3 (wrap64 (x9_4 + 1))) else (if 0 ≤ x9_4 then (if x9_4 < (x4_2.length : Int) then (if rdOf false x4_2 x9_4 = true then (impl_GapClash.l2 k4 x4_2 (rd l0 (ji19)) x8_3 (wrap64 (x9_4 + 1))) else (if 0 ≤ (wrap64 (x8_3 + x9_4)) then (if (wrap64 (x8_3 + x9_4)) < (x4_2.length : Int) then (if rdOf false x4_2 (wrap64 (x8_3 + x9_4)) = true then (some (x8_3, x9_4, true)) else (impl_GapClash.l2 k4 x4_2 (rd l0 (ji19)) x8_3 (wrap64 (x9_4 + 1)))) else (none)) else (none))) else (none)) else (none))) = some (r1, r2, r3) := by rw [← hbq26] at H; exact H
         have Nbq26 := Aside0.mk hbq26
         clear hbq26
         by_cases c27 : bq26 = true
         · subst c27
           rw [if_pos rfl] at H
           have H' := Aside0.mk H
           clear H
           obtain ⟨Ao28, co28, eo28⟩ := Kd.R_slice HO_4.out
           subst eo28
           have p498 : 0 ≤ (x8_3 : Int) := od_
           have q498 : x8_3 < (x4_2.length : Int) := od_
           obtain ⟨ad498, e498, hx498_0⟩ := Kd.at_bool (Kd.R_reads' HO_4.out).2.2 x8_3 p498 q498
           (try rw [← Nbq26.out] at hx498_0)
           cases e498
           replace p498 := eq_true p498
           replace q498 := eq_true q498
           go_wp2
           go_roundg k4
           case measure => have := HJ1.out; have := HK2.out; have := HK3.out; have := HK4.out; omega
           case rel => exact ⟨(wrap64 (x9_4 + 1)), (x491000_4), (x491001_4), rs_, H', ⟨by have := HJ1.out; have := HK2.out; have := HK3.out; have := HK4.out; omega⟩, ⟨re_ HO_4.out⟩, ⟨be_ BK490.out⟩, ⟨bq_ HB⟩⟩
         replace c27 := Bool.eq_false_iff.mpr c27
         subst c27
         rw [if_neg (show ¬ (false = true) by decide)] at H
         obtain ⟨c29b0, H⟩ := ipd_ H
         obtain ⟨c30b0, H⟩ := ipd_ H
         obtain ⟨bq31, hbq31⟩ : ∃ b_ : Bool, b_ = (rdOf false x4_2 x9_4) := ⟨_, rfl⟩
         replace H : (if bq31 = true then (impl_GapClash.l2 k4 x4_2 (rd l0 (ji19)) x8_3 (wrap64 (x9_4 + 1))) else (if 0 ≤ (wrap64 (x8_3 + x9_4)) then (if (wrap64 (x8_3 + x9_4)) < (x4_2.length : Int) then (if rdOf false x4_2 (wrap64 (x8_3 + x9_4)) = true then (some (x8_3, x9_4, true)) else (impl_GapClash.l2 k4 x4_2 (rd l0 (ji19)) x8_3 (wrap64 (x9_4 + 1)))) else (none)) else (none))) = some (r1, r2, r3) := by rw [← hbq31] at H; exact H
         have Nbq31 := Aside0.mk hbq31
         clear hbq31
         by_cases c32 : bq31 = true
         · subst c32
           rw [if_pos rfl] at H
           have H' := Aside0.mk H
           clear H
           obtain ⟨Ao33, co33, eo33⟩ := Kd.R_slice HO_4.out
           subst eo33
           have p498 : 0 ≤ (x8_3 : Int) := od_
           have q498 : x8_3 < (x4_2.length : Int) := od_
           obtain ⟨ad498, e498, hx498_0⟩ := Kd.at_bool (Kd.R_reads' HO_4.out).2.2 x8_3 p498 q498
           (try rw [← Nbq26.out] at hx498_0)
           (try rw [← Nbq31.out] at hx498_0)
           cases e498
           replace p498 := eq_true p498
           replace q498 := eq_true q498
           have p499 : 0 ≤ (x9_4 : Int) := od_
           have q499 : x9_4 < (x4_2.length : Int) := od_
           obtain ⟨ad499, e499, hx499_0⟩ := Kd.at_bool (Kd.R_reads' HO_4.out).2.2 x9_4 p499 q499
           (try rw [← Nbq26.out] at hx499_0)
           (try rw [← Nbq31.out] at hx499_0)
           obtain rfl : ad498 = ad499 := (by injection e499)
           replace p499 := eq_true p499
           replace q499 := eq_true q499
           go_wp2
           go_roundg k4
           case measure => have := HJ1.out; have := HK2.out; have := HK3.out; have := HK4.out; omega
           case rel => exact ⟨(wrap64 (x9_4 + 1)), (x491000_4), (x491001_4), rs_, H', ⟨by have := HJ1.out; have := HK2.out; have := HK3.out; have := HK4.out; omega⟩, ⟨re_ HO_4.out⟩, ⟨be_ BK490.out⟩, ⟨bq_ HB⟩⟩
         replace c32 := Bool.eq_false_iff.mpr c32
         subst c32
         rw [if_neg (show ¬ (false = true) by decide)] at H
         obtain ⟨ji34, hji34⟩ : ∃ j_ : Int, (wrap64 (x8_3 + x9_4)) = j_ := ⟨_, rfl⟩
         replace H : (if 0 ≤ (ji34) then (if (ji34) < (x4_2.length : Int) then (if rdOf false x4_2 (ji34) = true then (some (x8_3, x9_4, true)) else (impl_GapClash.l2 k4 x4_2 (rd l0 (ji19)) x8_3 (wrap64 (x9_4 + 1)))) else (none)) else (none)) = some (r1, r2, r3) := by first | (rw [hji34] at H; exact H) | (simp only [hji34] at H ⊢; exact H)
         (try rw [hji34] at c23b0)
         have hji34w : (IntKind.i64.wrap (x8_3 + x9_4)) = ji34 := (i64_w _).trans hji34
         obtain ⟨c35b0, H⟩ := ipd_ H
         obtain ⟨c36b0, H⟩ := ipd_ H
         obtain ⟨bq37, hbq37⟩ : ∃ b_ : Bool, b_ = (rdOf false x4_2 (ji34)) := ⟨_, rfl⟩
         replace H : (if bq37 = true then (some (x8_3, x9_4, true)) else (impl_GapClash.l2 k4 x4_2 (rd l0 (ji19)) x8_3 (wrap64 (x9_4 + 1)))) = some (r1, r2, r3) := by rw [← hbq37] at H; exact H
         have Nbq37 := Aside0.mk hbq37
         clear hbq37
         by_cases c38 : bq37 = true
         rotate_left
         · replace c38 := Bool.eq_false_iff.mpr c38
           subst c38
           rw [if_neg (show ¬ (false = true) by decide)] at H
           have H' := Aside0.mk H
           clear H
           obtain ⟨Ao41, co41, eo41⟩ := Kd.R_slice HO_4.out
           subst eo41
           have p498 : 0 ≤ (x8_3 : Int) := od_
           have q498 : x8_3 < (x4_2.length : Int) := od_
           obtain ⟨ad498, e498, hx498_0⟩ := Kd.at_bool (Kd.R_reads' HO_4.out).2.2 x8_3 p498 q498
           (try rw [← Nbq26.out] at hx498_0)
           (try rw [← Nbq31.out] at hx498_0)
           (try rw [← Nbq37.out] at hx498_0)
           cases e498
           replace p498 := eq_true p498
           replace q498 := eq_true q498
           have p499 : 0 ≤ (x9_4 : Int) := od_
           have q499 : x9_4 < (x4_2.length : Int) := od_
           obtain ⟨ad499, e499, hx499_0⟩ := Kd.at_bool (Kd.R_reads' HO_4.out).2.2 x9_4 p499 q499
           (try rw [← Nbq26.out] at hx499_0)
           (try rw [← Nbq31.out] at hx499_0)
           (try rw [← Nbq37.out] at hx499_0)
           obtain rfl : ad498 = ad499 := (by injection e499)
           replace p499 := eq_true p499
           replace q499 := eq_true q499
           have p500 : 0 ≤ ((ji34) : Int) := od_
           have q500 : (ji34) < (x4_2.length : Int) := od_
           obtain ⟨ad500, e500, hx500_0⟩ := Kd.at_bool (Kd.R_reads' HO_4.out).2.2 (ji34) p500 q500
           (try rw [← Nbq26.out] at hx500_0)
           (try rw [← Nbq31.out] at hx500_0)
           (try rw [← Nbq37.out] at hx500_0)
           obtain rfl : ad498 = ad500 := (by injection e500)
           replace p500 := eq_true p500
           replace q500 := eq_true q500
           go_wp2
           go_roundg k4
           case measure => have := HJ1.out; have := HK2.out; have := HK3.out; have := HK4.out; omega
           case rel => exact ⟨(wrap64 (x9_4 + 1)), (x491000_4), (x491001_4), rs_, H', ⟨by have := HJ1.out; have := HK2.out; have := HK3.out; have := HK4.out; omega⟩, ⟨re_ HO_4.out⟩, ⟨be_ BK490.out⟩, ⟨bq_ HB⟩⟩
         subst c38
         rw [if_pos rfl] at H
         simp only [Option.some.injEq, Prod.mk.injEq] at H
         obtain ⟨rfl, rfl, rfl⟩ := H
         obtain ⟨Ao39, co39, eo39⟩ := Kd.R_slice HO_4.out
         subst eo39
         have p498 : 0 ≤ (x8_3 : Int) := od_
         have q498 : x8_3 < (x4_2.length : Int) := od_
         obtain ⟨ad498, e498, hx498_0⟩ := Kd.at_bool (Kd.R_reads' HO_4.out).2.2 x8_3 p498 q498
         (try rw [← Nbq26.out] at hx498_0)
         (try rw [← Nbq31.out] at hx498_0)
         (try rw [← Nbq37.out] at hx498_0)
         cases e498
         replace p498 := eq_true p498
         replace q498 := eq_true q498
         have p499 : 0 ≤ (x9_4 : Int) := od_
         have q499 : x9_4 < (x4_2.length : Int) := od_
         obtain ⟨ad499, e499, hx499_0⟩ := Kd.at_bool (Kd.R_reads' HO_4.out).2.2 x9_4 p499 q499
         (try rw [← Nbq26.out] at hx499_0)
         (try rw [← Nbq31.out] at hx499_0)
         (try rw [← Nbq37.out] at hx499_0)
         obtain rfl : ad498 = ad499 := (by injection e499)
         replace p499 := eq_true p499
         replace q499 := eq_true q499
         have p500 : 0 ≤ ((ji34) : Int) := od_
         have q500 : (ji34) < (x4_2.length : Int) := od_
         obtain ⟨ad500, e500, hx500_0⟩ := Kd.at_bool (Kd.R_reads' HO_4.out).2.2 (ji34) p500 q500
         (try rw [← Nbq26.out] at hx500_0)
         (try rw [← Nbq31.out] at hx500_0)
         (try rw [← Nbq37.out] at hx500_0)
         obtain rfl : ad498 = ad500 := (by injection e500)
         replace p500 := eq_true p500
         replace q500 := eq_true q500
         have hcz40_0 : wr.cell? ⟨gb490, 0, none⟩ = some (.int .i64 x491000_4) := (blk_cell BK490.out 0).trans rfl
         have hcz40_1 : wr.cell? ⟨gb490, 1, none⟩ = some (.int .i64 x491001_4) := (blk_cell BK490.out 1).trans rfl
         have hfz40_0 := blk_frozen BK490.out 0
         have hfz40_1 := blk_frozen BK490.out 1
         go_wp2
         refine bodyPost_ret (results_ct rfl _ _ gb490 70 #[.int .i64 x8_3, .int .i64 x9_4] (0, 0) _ rfl (by (with_reducible repeat (first | refine blk_drewN ?_ _ | refine blk_drew ?_ | refine blk_alloc ?_ _)); refine blk_put (cs := #[.int .i64 x8_3, .int .i64 x491001_4]) ?_ 1 _ rfl; (with_reducible repeat (first | refine blk_drewN ?_ _ | refine blk_drew ?_ | refine blk_alloc ?_ _)); refine blk_put (cs := #[.int .i64 x491000_4, .int .i64 x491001_4]) ?_ 0 _ rfl; (with_reducible repeat (first | refine blk_drewN ?_ _ | refine blk_drew ?_ | refine blk_alloc ?_ _)); exact BK490.out) Try.underlying70 rfl (by kernel_rfl)) rfl ?_
         exact ⟨by first | rfl | (simp [errW_none, errW_some] <;> rfl) | (simp only [← hji19, ← hji34]; first | rfl | (simp [errW_none, errW_some] <;> rfl)) | (simp [*, errW_none, errW_some] <;> rfl), bq_ HB⟩
def slices_Equal_int_int.l0 : Nat → List Int → List Int → Int → Int → Option (Bool)
 | 0, _, _, _, _ => none
 | k + 1, x0, x1, x12, x13 => if x13 < x12 then (if 0 ≤ x13 then (if x13 < (x0.length : Int) then (if x13 < (x1.length : Int) then (if (rd x0 x13) = (rd x1 x13) then (slices_Equal_int_int.l0 k x0 x1 x12 (wrap64 (x13 + 1))) else (some false)) else (none)) else (none)) else (none)) else (some true)
def slices_Equal_int_int.f (k : Nat) (l0 : List Int) (l1 : List Int) : Option (Bool) := if (l0.length : Int) = (l1.length : Int) then (slices_Equal_int_int.l0 k l0 l1 (l0.length : Int) 0) else (some false)
theorem slices_Equal_int_int.calls (k : Nat) (A0 : Option Addr) (c0 : Nat) (l0 : List Int) (A1 : Option Addr) (c1 : Nat) (l1 : List Int) (r : Bool) (w : World) (hr0 : Kd.C (Kd.int .i64) w A0 l0.length l0) (hc0 : l0.length ≤ c0) (hr1 : Kd.C (Kd.int .i64) w A1 l1.length l1) (hc1 : l1.length ≤ c1) (h : slices_Equal_int_int.f k l0 l1 = some r) :
 Calls Try.prog 89 #[.slice A0 l0.length c0, .slice A1 l1.length c1] w fun e w' => e = .returned (.bool r) ∧ Drawn0 w w' := by
 have HR0 := Aside0.mk hr0
 have HC0 := Aside0.mk hc0
 clear hr0 hc0
 have HR1 := Aside0.mk hr1
 have HC1 := Aside0.mk hc1
 clear hr1 hc1
 have H := h
 clear h
 unfold slices_Equal_int_int.f at H
 by_cases c3 : (l0.length : Int) = (l1.length : Int)
 rotate_left
 · rw [if_neg c3] at H
   have c3b0 : ((l0.length : Int) == (l1.length : Int)) = false := beq_eq_false_iff_ne.mpr c3
   have c3b1 : ((l0.length : Int) != (l1.length : Int)) = true := bne_iff_ne.mpr c3
   have c3b2 : (l0.length == l1.length) = false := by first | simpa using c3 | (simp at c3 ⊢; omega)
   obtain rfl := Option.some.inj H
   go_enter Try.func89, Try.ntmps89
   go_wp2
   repeat (go_quiet (fail); try go_wp2)
   go_ret
   exact ⟨by first | rfl | (simp; done) | (simp [*]; done), by repeat (first | exact Drawn0.refl _ | apply Drawn0.step)⟩
 rw [if_pos c3] at H
 have c3b0 : ((l0.length : Int) == (l1.length : Int)) = true := beq_iff_eq.mpr c3
 have c3b1 : ((l0.length : Int) != (l1.length : Int)) = false := bne_eq_false_iff_eq.mpr c3
 have c3b2 : (l0.length == l1.length) = true := by first | simpa using c3 | (simp at c3 ⊢; omega)
 clear c3
 have H' := Aside0.mk H
 clear H
 go_enter Try.func89, Try.ntmps89
 go_wp2
 repeat (go_quiet (fail); try go_wp2)
 go_loopg [13] k (fun kq v13 w' => ∃ (x13_1 : Int), v13 = .int .i64 x13_1 ∧ Aside0 (slices_Equal_int_int.l0 kq l0 l1 (l0.length : Int) x13_1 = some r) ∧ Aside0 (kq ≤ k) ∧ Drawn0 w w')
 case atStart => exact ⟨(0), rs_, H', ⟨Nat.le_refl _⟩, by repeat (first | exact Drawn0.refl _ | apply Drawn0.step)⟩
 case round =>
  clear H'
  try clear c1
  try clear c3b0
  try clear c3b1
  try clear c3b2
  obtain ⟨x13_1, rfl, HA, HK1, ⟨m1, rfl⟩⟩ := hrel
  cases gk with
  | zero => exact absurd HA.out (by simp [slices_Equal_int_int.l0])
  | succ k1 =>
   have H := HA.out
   clear HA
   simp only [slices_Equal_int_int.l0] at H
   by_cases c4 : x13_1 < (l0.length : Int)
   rotate_left
   · rw [if_neg c4] at H
     have c4b0 : decide (x13_1 < (l0.length : Int)) = false := decide_eq_false c4
     clear c4
     obtain rfl := Option.some.inj H
     go_wp2
     repeat (go_quiet (fail); try go_wp2)
     go_ret
     exact ⟨by first | rfl | (simp; done) | (simp [*]; done), by repeat (first | exact Drawn0.refl _ | apply Drawn0.step)⟩
   rw [if_pos c4] at H
   have c4b0 : decide (x13_1 < (l0.length : Int)) = true := decide_eq_true c4
   clear c4
   obtain ⟨c5b0, H⟩ := ipd_ H
   obtain ⟨c6b0, H⟩ := ipd_ H
   obtain ⟨c7b0, H⟩ := ipd_ H
   by_cases c8 : (rd l0 x13_1) = (rd l1 x13_1)
   rotate_left
   · rw [if_neg c8] at H
     have c8b0 : ((rd l0 x13_1) == (rd l1 x13_1)) = false := beq_eq_false_iff_ne.mpr c8
     have c8b1 : ((rd l0 x13_1) != (rd l1 x13_1)) = true := bne_iff_ne.mpr c8
     obtain rfl := Option.some.inj H
     have p501 : 0 ≤ (x13_1 : Int) := od_
     have q501 : x13_1 < (l0.length : Int) := od_
     obtain ⟨ad501, e501, hx501_0⟩ := Kd.at_int HR0.out x13_1 p501 q501
     cases e501
     replace p501 := eq_true p501
     replace q501 := eq_true q501
     have p502 : 0 ≤ (x13_1 : Int) := od_
     have q502 : x13_1 < (l1.length : Int) := od_
     obtain ⟨ad502, e502, hx502_0⟩ := Kd.at_int HR1.out x13_1 p502 q502
     cases e502
     replace p502 := eq_true p502
     replace q502 := eq_true q502
     go_wp2
     repeat (go_quiet (fail); try go_wp2)
     go_ret
     exact ⟨by first | rfl | (simp; done) | (simp [*]; done), by repeat (first | exact Drawn0.refl _ | apply Drawn0.step)⟩
   rw [if_pos c8] at H
   have c8b0 : ((rd l0 x13_1) == (rd l1 x13_1)) = true := beq_iff_eq.mpr c8
   have c8b1 : ((rd l0 x13_1) != (rd l1 x13_1)) = false := bne_eq_false_iff_eq.mpr c8
   clear c8
   have H' := Aside0.mk H
   clear H
   have p501 : 0 ≤ (x13_1 : Int) := od_
   have q501 : x13_1 < (l0.length : Int) := od_
   obtain ⟨ad501, e501, hx501_0⟩ := Kd.at_int HR0.out x13_1 p501 q501
   cases e501
   replace p501 := eq_true p501
   replace q501 := eq_true q501
   have p502 : 0 ≤ (x13_1 : Int) := od_
   have q502 : x13_1 < (l1.length : Int) := od_
   obtain ⟨ad502, e502, hx502_0⟩ := Kd.at_int HR1.out x13_1 p502 q502
   cases e502
   replace p502 := eq_true p502
   replace q502 := eq_true q502
   go_wp2
   repeat (go_quiet (fail); try go_wp2)
   go_roundg k1
   case measure => have := HK1.out; omega
   case rel => exact ⟨(wrap64 (x13_1 + 1)), rs_, H', ⟨by have := HK1.out; omega⟩, by repeat (first | exact Drawn0.refl _ | apply Drawn0.step)⟩
mutual
def impl_FromGaps.j0 : Nat → List Int → Bool → Option (List Int × Bool)
 | 0, _, _ => none
 | k + 1, x0, x23 => if x23 = true then (some (([] : List Int), false)) else (if 401 ≤ 281474976710656 then (impl_FromGaps.l0 k x0 (List.replicate 401 false) x0 (x0.length : Int) 0) else (none))
def impl_FromGaps.l0 : Nat → List Int → List Bool → List Int → Int → Int → Option (List Int × Bool)
 | 0, _, _, _, _, _ => none
 | k + 1, x0, x6, x26, x27, x28 => if x28 < x27 then (if 0 ≤ x28 then (if x28 < (x26.length : Int) then (if 0 ≤ (rd x26 x28) then (if (rd x26 x28) < (x6.length : Int) then (impl_FromGaps.l0 k x0 (x6.set ((rd x26 x28) : Int).toNat true) x26 x27 (wrap64 (x28 + 1))) else (none)) else (none)) else (none)) else (none)) else (impl_FromGaps.l1 k x0 x6 1 ([] : List Int))
def impl_FromGaps.l1 : Nat → List Int → List Bool → Int → List Int → Option (List Int × Bool)
 | 0, _, _, _, _ => none
 | k + 1, x0, x6, x10, x515000 => if x10 < (x6.length : Int) then (if 0 ≤ x10 then (impl_FromGaps.l2 k x0 x6 x10 (rdOf false x6 x10) 1 x515000) else (none)) else ((impl_IsSemigroup.f k x515000).bind fun t521 => (if t521 = true then ((impl_Gaps.f k x515000).bind fun t522 => ((slices_Equal_int_int.f k t522 x0).bind fun t525 => (if t525 = true then (some (x515000, true)) else (some (([] : List Int), false))))) else (some (([] : List Int), false))))
def impl_FromGaps.l2 : Nat → List Int → List Bool → Int → Bool → Int → List Int → Option (List Int × Bool)
 | 0, _, _, _, _, _, _ => none
 | k + 1, x0, x6, x10, x11, x12, x515000 => if (wrap64 (2 * x12)) ≤ x10 then (if x11 = true then (impl_FromGaps.l1 k x0 x6 (wrap64 (x10 + 1)) x515000) else (if 0 ≤ x12 then (if x12 < (x6.length : Int) then (if rdOf false x6 x12 = true then (impl_FromGaps.l2 k x0 x6 x10 false (wrap64 (x12 + 1)) x515000) else (if 0 ≤ (wrap64 (x10 - x12)) then (if (wrap64 (x10 - x12)) < (x6.length : Int) then (impl_FromGaps.l2 k x0 x6 x10 (!(rdOf false x6 (wrap64 (x10 - x12)))) (wrap64 (x12 + 1)) x515000) else (none)) else (none))) else (none)) else (none))) else (if x11 = true then (impl_FromGaps.l1 k x0 x6 (wrap64 (x10 + 1)) x515000) else (if x515000.length < 17592186044416 then (impl_FromGaps.l1 k x0 x6 (wrap64 (x10 + 1)) (x515000 ++ [x10])) else (none)))
end
def impl_FromGaps.f (k : Nat) (l0 : List Int) : Option (List Int × Bool) := (impl_GapClash.f k l0).bind fun bt504 => (if bt504.2.2 = true then (impl_FromGaps.j0 k l0 true) else ((impl_gapList.f k l0).bind fun t508 => (impl_FromGaps.j0 k l0 (!t508))))
theorem impl_FromGaps.calls (k : Nat) (A0 : Option Addr) (c0 : Nat) (l0 : List Int) (r1 : List Int) (r2 : Bool) (w : World) (hr0 : Kd.C (Kd.int .i64) w A0 l0.length l0) (hc0 : l0.length ≤ c0) (h : impl_FromGaps.f k l0 = some (r1, r2)) :
 Calls Try.prog 60 #[.slice A0 l0.length c0] w fun e w' => ∃ v0_ : Value, e = .returned (.tuple #[.agg #[v0_], .bool r2]) ∧ Kd.R (Kd.int .i64) 3 w' w.heap.size (fun _ => True) v0_ r1 ∧ Below w.heap.size w w' := by
 have hu26 := Try.underlying26
 have hu70 := Try.underlying70
 have HR0 := Aside0.mk hr0
 have HC0 := Aside0.mk hc0
 clear hr0 hc0
 have HB := Aside0.mk (Below.refl w.heap.size w)
 have H := h
 clear h
 unfold impl_FromGaps.f at H
 obtain ⟨⟨t504, t505, t506⟩, A2, H⟩ := ob_ H
 (try dsimp only at H)
 have HC3 := Aside0.mk H
 clear H
 go_enter Try.func60, Try.ntmps60
 go_upto_region 2 with (first | ((with_reducible refine gate_dst (N := 2) rfl ?_); refine bx_ 2 #[.slice none 0 0] 26 ?_; intro gb503 hg w4 hbox hb; have BK503 := Aside0.mk (hbox); have GW503 := gw_ hg HB; have GE503 := gw_ hg HB; replace HB := bo_ HB hb; clear hb hbox hg) | ((with_reducible refine gate_callee (f := 87) rfl ?_); refine gL_ (some 15) Try.func87 #[.slice A0 l0.length c0] ?_; (with_reducible refine (impl_GapClash.calls k _ _ l0 t504 t505 t506 _ ?side1 ?side2 A2.out).mono ?_); (case side1 => exact ch_ HR0 HB); (case side2 => exact HC0.out); rintro e w5 ⟨rfl, hb⟩; refine ⟨_, rfl, ?_⟩; replace BK503 := bk_ BK503 hb; replace HB := bp_ HB hb; (try clear hb)) | ((with_reducible refine gate_dst (N := 4) rfl ?_); refine bx_ 4 #[.int .i64 0, .int .i64 0] 70 ?_; intro gb507 hg w6 hbox hb; have BK507 := Aside0.mk (hbox); have GW507 := gq_ hg (bq_ HB); have GE507 := gq_ hg (bq_ HB); replace HB := bp_ HB hb; have NB503_507 := nl_ hg BK503; have NB507_503 := ng_ hg BK503; replace BK503 := bk_ BK503 hb; clear hb hbox hg; have hnb7 := NB507_503.out; have hnc7 := NB503_507.out; have hcz8_0 : w6.cell? ⟨gb507, 0, none⟩ = some (.int .i64 0) := (blk_cell BK507.out 0).trans rfl; have hcz8_1 : w6.cell? ⟨gb507, 1, none⟩ = some (.int .i64 0) := (blk_cell BK507.out 1).trans rfl; have hfz8_0 := blk_frozen BK507.out 0; have hfz8_1 := blk_frozen BK507.out 1))
 (try simp only [Act.put, z1_, z2_, z3_])
 go_cut [23] (fun v23 wc => ∃ (kq : Nat) (x23_2 : Bool), v23 = .bool x23_2 ∧ Aside0 (impl_FromGaps.j0 kq l0 x23_2 = some (r1, r2)) ∧ Aside0 (kq ≤ k) ∧ Aside0 (wc.heap[gb503]? = some (.cells #[(.slice none 0 0)] 26 (0, 0))) ∧ Aside0 (wc.heap[gb507]? = some (.cells #[.int .i64 t504, .int .i64 t505] 70 (0, 0))) ∧ Aside0 (Below w.heap.size w wc))
 case first =>
  have H := HC3.out
  clear HC3
  by_cases c9 : t506 = true
  · subst c9
    rw [if_pos rfl] at H
    have H' := Aside0.mk H
    clear H
    go_wp2
    go_meet
    case rel => exact ⟨_, (true), rs_, H', ⟨by first | omega | exact Nat.le_refl _⟩, ⟨ba_ BK503⟩, ⟨by (with_reducible repeat (first | refine blk_drewN ?_ _ | refine blk_drew ?_ | refine blk_alloc ?_ _)); refine blk_put (cs := #[.int .i64 t504, .int .i64 0]) ?_ 1 _ rfl; (with_reducible repeat (first | refine blk_drewN ?_ _ | refine blk_drew ?_ | refine blk_alloc ?_ _)); refine blk_put (cs := #[.int .i64 0, .int .i64 0]) ?_ 0 _ rfl; (with_reducible repeat (first | refine blk_drewN ?_ _ | refine blk_drew ?_ | refine blk_alloc ?_ _)); exact BK507.out⟩, ⟨bq_ HB⟩⟩
  replace c9 := Bool.eq_false_iff.mpr c9
  subst c9
  rw [if_neg (show ¬ (false = true) by decide)] at H
  obtain ⟨t508, A10, H⟩ := ob_ H
  have H' := Aside0.mk H
  clear H
  go_wp2_with (first | (go_at_call 88; (with_reducible refine (impl_gapList.calls k _ _ l0 t508 _ ?side1 ?side2 A10.out).mono ?_); (case side1 => exact Kd.C_below HR0.out (bq_ HB)); (case side2 => exact HC0.out); rintro e w' ⟨rfl, ⟨nd, rfl⟩⟩))
  go_meet
  case rel => exact ⟨_, (!t508), rs_, H', ⟨by first | omega | exact Nat.le_refl _⟩, ⟨ba_ BK503⟩, ⟨by (with_reducible repeat (first | refine blk_drewN ?_ _ | refine blk_drew ?_ | refine blk_alloc ?_ _)); refine blk_put (cs := #[.int .i64 t504, .int .i64 0]) ?_ 1 _ rfl; (with_reducible repeat (first | refine blk_drewN ?_ _ | refine blk_drew ?_ | refine blk_alloc ?_ _)); refine blk_put (cs := #[.int .i64 0, .int .i64 0]) ?_ 0 _ rfl; (with_reducible repeat (first | refine blk_drewN ?_ _ | refine blk_drew ?_ | refine blk_alloc ?_ _)); exact BK507.out⟩, ⟨bq_ HB⟩⟩
 case rest =>
  clear HC3
  try clear hcz8_0
  try clear hcz8_1
  try clear hfz8_0
  try clear hfz8_1
  obtain ⟨kq, x23_2, rfl, HA, HJ2, BK503, BK507, HB⟩ := hcut
  cases kq with
  | zero => exact absurd HA.out (by simp [impl_FromGaps.j0])
  | succ kj2 =>
   have H := HA.out
   clear HA
   simp only [impl_FromGaps.j0] at H
   by_cases c11 : x23_2 = true
   · subst c11
     rw [if_pos rfl] at H
     simp only [Option.some.injEq, Prod.mk.injEq] at H
     obtain ⟨rfl, rfl⟩ := H
     have hnb12 := NB503_507.out
     have hnc12 := NB507_503.out
     have hcz13_0 := cz_ BK503
     have hfz13_0 := blk_frozen BK503.out 0
     go_wp2
     refine bodyPost_ret (results_ct rfl _ _ gb503 26 #[.slice none 0 0] (0, 0) _ rfl (bz_ BK503) Try.underlying26 rfl (by kernel_rfl)) rfl ?_
     exact ⟨_, rf_, by first | exact Kd.R_nil _ _ _ _ _ | exact Kd.N_nil _ _ _ _ _ | exact Kd.V_nil _ _ _ _ _ | exact Kd.Q_nil _ _ _ _ _ | exact Kd.S_nil _ _ _ _ _, bq_ HB⟩
   replace c11 := Bool.eq_false_iff.mpr c11
   subst c11
   rw [if_neg (show ¬ (false = true) by decide)] at H
   obtain ⟨c14, H⟩ := ip_ H
   have c14b0 := eq_true c14
   have c14b1 : decide (401 ≤ 281474976710656) = true := decide_eq_true c14
   clear c14
   obtain ⟨y509, hy509⟩ : ∃ y_ : List Bool, y_ = (List.replicate 401 false) := ⟨_, rfl⟩
   replace H : (impl_FromGaps.l0 kj2 l0 y509 l0 (l0.length : Int) 0) = some (r1, r2) := by subst hy509; exact H
   have Ny509 := Aside0.mk hy509
   clear hy509
   have H' := Aside0.mk H
   clear H
   go_wp2_with (first | ((with_reducible refine gate_dst (N := 25) rfl ?_); refine Kd.R_make Kd.bool _ 4 rfl (N := 25) rfl 67 _ _ rfl 401 rfl rfl Try.underlying67 (.bool false) 1 info4 rfl (by decide) (by omega) false (ok := fun _ => True) (okp := fun _ => True) rfl (fun _ hk => hk) trivial (by omega) (by omega) (Below.refl _ _) (Nat.le_refl _) ?_; intro v510 w15 ho16 hb hg_ hnew_; clear hg_ hnew_; (first | rw [← Ny509.out] at ho16 | (simp only [Int.reduceToNat] at ho16; rw [← Ny509.out] at ho16)); have HO511 := Aside0.mk (Kd.R_lower ho16 (below_size (bq_ HB))); replace BK503 := bk_ BK503 hb; replace BK507 := bk_ BK507 hb; replace HB := bp_ HB hb; clear hb ho16))
   go_loopg [28] kj2 (fun kq v28 w' => ∃ (x6_2 : List Bool) (x28_2 : Int), v28 = .int .i64 x28_2 ∧ Aside0 (impl_FromGaps.l0 kq l0 x6_2 l0 (l0.length : Int) x28_2 = some (r1, r2)) ∧ Aside0 (kq ≤ kj2) ∧ Aside0 (Kd.R Kd.bool 4 w' w.heap.size (fun _ => True) v510 x6_2) ∧ Aside0 (w'.heap[gb503]? = some (.cells #[(.slice none 0 0)] 26 (0, 0))) ∧ Aside0 (w'.heap[gb507]? = some (.cells #[.int .i64 t504, .int .i64 t505] 70 (0, 0))) ∧ Aside0 (Below w.heap.size w w'))
   case atStart => exact ⟨(y509), (0), rs_, H', ⟨Nat.le_refl _⟩, ⟨re_ HO511.out⟩, ⟨be_ BK503.out⟩, ⟨be_ BK507.out⟩, ⟨bq_ HB⟩⟩
   case round =>
    clear H'
    try clear c14b0
    try clear c14b1
    obtain ⟨x6_2, x28_2, rfl, HA, HK2, HO_6, BK503, BK507, HB⟩ := hrel
    cases gk with
    | zero => exact absurd HA.out (by simp [impl_FromGaps.l0])
    | succ k2 =>
     have H := HA.out
     clear HA
     simp only [impl_FromGaps.l0] at H
     by_cases c17 : x28_2 < (l0.length : Int)
     · rw [if_pos c17] at H
       have c17b0 : decide (x28_2 < (l0.length : Int)) = true := decide_eq_true c17
       clear c17
       obtain ⟨c18b0, H⟩ := ipd_ H
       obtain ⟨c19b0, H⟩ := ipd_ H
       obtain ⟨c20b0, H⟩ := ipd_ H
       obtain ⟨c21b0, H⟩ := ipd_ H
       obtain ⟨y513, hy513⟩ : ∃ y_ : List Bool, y_ = (x6_2.set ((rd l0 x28_2) : Int).toNat true) := ⟨_, rfl⟩
       replace H : (impl_FromGaps.l0 k2 l0 y513 l0 (l0.length : Int) (wrap64 (x28_2 + 1))) = some (r1, r2) := by subst hy513; exact H
       have Ny513 := Aside0.mk hy513
       clear hy513
       have H' := Aside0.mk H
       clear H
       have p512 : 0 ≤ (x28_2 : Int) := od_
       have q512 : x28_2 < (l0.length : Int) := od_
       obtain ⟨ad512, e512, hx512_0⟩ := Kd.at_int HR0.out x28_2 p512 q512
       cases e512
       (try replace hx512_0 := (HB.out.cell (World.block_lt_of_cell? w _ hx512_0)).trans hx512_0)
       replace p512 := eq_true p512
       replace q512 := eq_true q512
       have p22 : 0 ≤ ((rd l0 x28_2) : Int) := od_
       have q22 : ((rd l0 x28_2) : Int) < ((x6_2.length : Int) : Int) := od_
       obtain ⟨go22, co22, eo22, gb22, gl22, cl22, HG22⟩ := Kd.R_form HO_6.out (by omega)
       (first | cases eo22 | (injection eo22 with ea_ en_ ec_; (first | subst ea_ | (injection ea_ with ea_; subst ea_)); subst ec_; clear en_))
       have GB22 := Aside0.mk gb22
       have GG22 := Aside0.mk HG22
       clear gb22 gl22 HG22
       obtain ⟨hx22_0, hf22_0⟩ := Kd.R_celln false HO_6.out ((rd l0 x28_2) : Int) p22 q22
       replace p22 := eq_true p22
       replace q22 := eq_true q22
       have HP23 := Kd.R_putg HO_6.out ((rd l0 x28_2) : Int) true
       go_wp2_with (first | ((with_reducible refine gate_store (t := 4) (p := 34) rfl ?_); refine store_event (t := 4) (p := 34) (v := ?vo_w24) (w1 := (wr.setCell ⟨go22, ((rd l0 x28_2) : Int).toNat, none⟩ (.bool true))) ?hg ?ho ?hn ?hr ?_; (case ho => rfl); (case hg => rfl); (case hn => rfl); (case hr => first | (go_simp; done) | (go_simp; rfl)); intro w24 hw; have hg : wr.grownBy w24 (some go22) := (by rw [hw]; exact HP23.2); have hp_ : Kd.R Kd.bool 4 w24 w.heap.size (fun _ => True) (.slice (some ⟨go22, 0, none⟩) x6_2.length co22) y513 := (by rw [hw, Ny513.out]; exact HP23.1); clear HP23; replace BK503 := Aside0.mk (blk_grown (be_ BK503.out) hg (Kd.R_ne HO_6.out BK503.out (by decide))); replace BK507 := Aside0.mk (blk_grown (be_ BK507.out) hg (Kd.R_ne HO_6.out BK507.out (by decide))); replace HO_6 := Aside0.mk (hp_); replace HB := Aside0.mk ((by rw [hw]; exact below_set (HB.out) GB22.out : Below w.heap.size w w24)); clear hg hw hp_))
       go_roundg k2
       case measure => have := HJ2.out; have := HK2.out; omega
       case rel => exact ⟨(y513), (wrap64 (x28_2 + 1)), rs_, H', ⟨by have := HJ2.out; have := HK2.out; omega⟩, ⟨re_ HO_6.out⟩, ⟨be_ BK503.out⟩, ⟨be_ BK507.out⟩, ⟨bq_ HB⟩⟩
     rw [if_neg c17] at H
     have c17b0 : decide (x28_2 < (l0.length : Int)) = false := decide_eq_false c17
     clear c17
     have H' := Aside0.mk H
     clear H
     go_wp2_with (first | ((with_reducible refine gate_dst (N := 9) rfl ?_); refine bx_ 9 #[.slice none 0 0] 26 ?_; intro gb514 hg w25 hbox hb; replace HO_6 := Aside0.mk (Kd.R_below (re_ HO_6.out) hb); have BK514 := Aside0.mk (hbox); have GW514 := gq_ hg (bq_ HB); have GE514 := gq_ hg (bq_ HB); replace HB := bp_ HB hb; have NB503_514 := nl_ hg BK503; have NB514_503 := ng_ hg BK503; replace BK503 := bk_ BK503 hb; have NB507_514 := nl_ hg BK507; have NB514_507 := ng_ hg BK507; replace BK507 := bk_ BK507 hb; clear hb hbox hg; have hnb26 := NB514_503.out; have hnc26 := NB503_514.out; have hnb27 := NB514_507.out; have hnc27 := NB507_514.out; have hcz28_0 := cz_ BK514; have hfz28_0 := blk_frozen BK514.out 0))
     go_loopg [10] k2 (fun kq v10 w' => ∃ (x10_3 : Int) (x515000_3 : List Int) (u515000 : Value), v10 = .int .i64 x10_3 ∧ Aside0 (impl_FromGaps.l1 kq l0 x6_2 x10_3 x515000_3 = some (r1, r2)) ∧ Aside0 (kq ≤ k2) ∧ Aside0 (Kd.R Kd.bool 4 w' w.heap.size (fun _ => True) v510 x6_2) ∧ Aside0 (Kd.R (Kd.int .i64) 3 w' w.heap.size (fun _ => True) u515000 x515000_3) ∧ Aside0 (w'.heap[gb503]? = some (.cells #[(.slice none 0 0)] 26 (0, 0))) ∧ Aside0 (w'.heap[gb507]? = some (.cells #[.int .i64 t504, .int .i64 t505] 70 (0, 0))) ∧ Aside0 (w'.heap[gb514]? = some (.cells #[u515000] 26 (0, 0))) ∧ Aside0 (Below w.heap.size w w'))
     case atStart => exact ⟨(1), (([] : List Int)), (.slice none 0 0), rs_, H', ⟨Nat.le_refl _⟩, ⟨by (with_reducible repeat (first | apply Kd.R_alloc | apply Kd.R_drewN | apply Kd.R_drew)); exact Kd.R_mono (Kd.R_far (p := ⟨gb514, 0, none⟩) (Kd.R_types HO_6.out BK514.out (by decide)) (fun _ hk => hk.2) (.slice none 0 0)) (fun _ hk => trivial)⟩, ⟨by first | exact Kd.R_nil _ _ _ _ _ | exact Kd.N_nil _ _ _ _ _ | exact Kd.V_nil _ _ _ _ _ | exact Kd.Q_nil _ _ _ _ _ | exact Kd.S_nil _ _ _ _ _⟩, ⟨ba_ BK503⟩, ⟨ba_ BK507⟩, ⟨bz_ BK514⟩, ⟨bq_ HB⟩⟩
     case round =>
      clear H'
      try clear c17b0
      try clear hcz28_0
      try clear hfz28_0
      obtain ⟨x10_3, x515000_3, u515000, rfl, HA, HK3, HO_6, HO_515000, BK503, BK507, BK514, HB⟩ := hrel
      cases gk with
      | zero => exact absurd HA.out (by simp [impl_FromGaps.l1])
      | succ k3 =>
       have H := HA.out
       clear HA
       simp only [impl_FromGaps.l1] at H
       by_cases c29 : x10_3 < (x6_2.length : Int)
       rotate_left
       · rw [if_neg c29] at H
         have c29b0 : decide (x10_3 < (x6_2.length : Int)) = false := decide_eq_false c29
         clear c29
         obtain ⟨t521, A49, H⟩ := ob_ H
         by_cases c50 : t521 = true
         rotate_left
         · replace c50 := Bool.eq_false_iff.mpr c50
           subst c50
           rw [if_neg (show ¬ (false = true) by decide)] at H
           simp only [Option.some.injEq, Prod.mk.injEq] at H
           obtain ⟨rfl, rfl⟩ := H
           obtain ⟨Ao77, co77, eo77⟩ := Kd.R_slice HO_6.out
           subst eo77
           have hnb78 := NB514_503.out
           have hnc78 := NB503_514.out
           have hnb79 := NB514_507.out
           have hnc79 := NB507_514.out
           have hcz80_0 := cz_ BK514
           have hfz80_0 := blk_frozen BK514.out 0
           obtain ⟨Ao81, co81, eo81⟩ := Kd.R_slice HO_515000.out
           subst eo81
           go_wp2_with (first | ((with_reducible refine gate_callee (f := 28) rfl ?_); refine gL_ (some 80) Try.func28 #[.agg #[.slice Ao81 x515000_3.length co81]] ?_; (with_reducible refine (impl_IsSemigroup.calls k3 _ _ x515000_3 false _ ?side1 ?side2 A49.out).mono ?_); (case side1 => exact ce_ ((Kd.R_reads' HO_515000.out).2.2)); (case side2 => exact (Kd.R_reads' HO_515000.out).2.1); rintro e w82 ⟨rfl, hb⟩; refine ⟨_, rfl, ?_⟩; replace HO_6 := Aside0.mk (Kd.R_below (re_ HO_6.out) hb); replace HO_515000 := Aside0.mk (Kd.R_below (re_ HO_515000.out) hb); replace BK503 := bk_ BK503 hb; replace BK507 := bk_ BK507 hb; replace BK514 := bk_ BK514 hb; replace HB := bp_ HB hb; (try clear hb); have hnb83 := NB503_507.out; have hnc83 := NB507_503.out; have hcz84_0 := cz_ BK503; have hfz84_0 := blk_frozen BK503.out 0))
           refine bodyPost_ret (results_ct rfl _ _ gb503 26 #[.slice none 0 0] (0, 0) _ rfl (bz_ BK503) Try.underlying26 rfl (by kernel_rfl)) rfl ?_
           exact ⟨_, rf_, by first | exact Kd.R_nil _ _ _ _ _ | exact Kd.N_nil _ _ _ _ _ | exact Kd.V_nil _ _ _ _ _ | exact Kd.Q_nil _ _ _ _ _ | exact Kd.S_nil _ _ _ _ _, bq_ HB⟩
         subst c50
         rw [if_pos rfl] at H
         obtain ⟨t522, A51, H⟩ := ob_ H
         obtain ⟨t525, A52, H⟩ := ob_ H
         by_cases c53 : t525 = true
         · subst c53
           rw [if_pos rfl] at H
           simp only [Option.some.injEq, Prod.mk.injEq] at H
           obtain ⟨rfl, rfl⟩ := H
           obtain ⟨Ao54, co54, eo54⟩ := Kd.R_slice HO_6.out
           subst eo54
           have hnb55 := NB514_503.out
           have hnc55 := NB503_514.out
           have hnb56 := NB514_507.out
           have hnc56 := NB507_514.out
           have hcz57_0 := cz_ BK514
           have hfz57_0 := blk_frozen BK514.out 0
           obtain ⟨Ao58, co58, eo58⟩ := Kd.R_slice HO_515000.out
           subst eo58
           go_wp2_with (first | ((with_reducible refine gate_callee (f := 28) rfl ?_); refine gL_ (some 80) Try.func28 #[.agg #[.slice Ao58 x515000_3.length co58]] ?_; (with_reducible refine (impl_IsSemigroup.calls k3 _ _ x515000_3 true _ ?side1 ?side2 A49.out).mono ?_); (case side1 => exact ce_ ((Kd.R_reads' HO_515000.out).2.2)); (case side2 => exact (Kd.R_reads' HO_515000.out).2.1); rintro e w59 ⟨rfl, hb⟩; refine ⟨_, rfl, ?_⟩; replace HO_6 := Aside0.mk (Kd.R_below (re_ HO_6.out) hb); replace HO_515000 := Aside0.mk (Kd.R_below (re_ HO_515000.out) hb); replace BK503 := bk_ BK503 hb; replace BK507 := bk_ BK507 hb; replace BK514 := bk_ BK514 hb; replace HB := bp_ HB hb; (try clear hb); have hcz60_0 := cz_ BK514; have hfz60_0 := blk_frozen BK514.out 0) | (go_at_call 62; (with_reducible refine (impl_Gaps.calls k3 _ _ x515000_3 t522 _ ?side1 ?side2 A51.out).mono ?_); (case side1 => exact ce_ ((Kd.R_reads' HO_515000.out).2.2)); (case side2 => exact (Kd.R_reads' HO_515000.out).2.1); rintro e w61 ⟨v523, rfl, ho0, hb⟩; replace HO_6 := Aside0.mk (Kd.R_below (re_ HO_6.out) hb); have HO524 := Aside0.mk (Kd.R_lower (Kd.R_new' ho0 (Kd.R_lt (re_ HO_515000.out))) (below_size (bq_ HB))); replace HO_515000 := Aside0.mk (Kd.R_elder' (re_ HO_515000.out) (Kd.R_base ho0) hb); replace BK503 := bk_ BK503 hb; replace BK507 := bk_ BK507 hb; replace BK514 := bk_ BK514 hb; replace HB := bp_ HB hb; (try clear hb); (try clear ho0); obtain ⟨Ao62, co62, eo62⟩ := Kd.R_slice HO524.out; subst eo62) | (go_at_call 89; (with_reducible refine (slices_Equal_int_int.calls k3 _ _ t522 _ _ l0 true _ ?side1 ?side2 ?side3 ?side4 A52.out).mono ?_); (case side1 => exact ce_ ((Kd.R_reads' HO524.out).2.2)); (case side2 => exact (Kd.R_reads' HO524.out).2.1); (case side3 => exact ch_ HR0 HB); (case side4 => exact HC0.out); rintro e w' ⟨rfl, ⟨nd, rfl⟩⟩; (try (rw [drewN_self w61]; generalize hq_ : World.drewN w61 _ = w61; have n0_ : Aside0 (Kd.R (Kd.int .i64) 3 w61 w.heap.size (fun k_ => some k_ ≠ (.slice Ao58 x515000_3.length co58 : Value).ownBlock) (.slice Ao62 t522.length co62) t522) := ⟨by rw [← hq_]; exact (by (with_reducible repeat (first | apply Kd.R_alloc | apply Kd.R_drewN | apply Kd.R_drew)); exact Kd.R_mono HO524.out (fun _ hk => hk.2))⟩; have n1_ : Aside0 (Kd.R (Kd.int .i64) 3 w61 w.heap.size (fun k_ => some k_ ≠ (.slice Ao62 t522.length co62 : Value).ownBlock) (.slice Ao58 x515000_3.length co58) x515000_3) := ⟨by rw [← hq_]; exact (by (with_reducible repeat (first | apply Kd.R_alloc | apply Kd.R_drewN | apply Kd.R_drew)); exact Kd.R_mono HO_515000.out (fun _ hk => hk.2))⟩; have n2_ : Aside0 (Kd.R Kd.bool 4 w61 w.heap.size (fun _ => True) (.slice Ao54 x6_2.length co54) x6_2) := ⟨by rw [← hq_]; exact (re_ HO_6.out)⟩; have n3_ : Aside0 (w61.heap[gb503]? = some (.cells #[.slice none 0 0] 26 (0, 0))) := ⟨by rw [← hq_]; exact (be_ BK503.out)⟩; have n4_ : Aside0 (w61.heap[gb507]? = some (.cells #[.int .i64 t504, .int .i64 t505] 70 (0, 0))) := ⟨by rw [← hq_]; exact (be_ BK507.out)⟩; have n5_ : Aside0 (w61.heap[gb514]? = some (.cells #[.slice Ao58 x515000_3.length co58] 26 (0, 0))) := ⟨by rw [← hq_]; exact (be_ BK514.out)⟩; have n6_ : Aside0 (Below w.heap.size w w61) := ⟨by rw [← hq_]; exact (bq_ HB)⟩; clear HO524 HO_515000 HO_6 BK503 BK507 BK514 HB hq_; have HO524 := n0_; have HO_515000 := n1_; have HO_6 := n2_; have BK503 := n3_; have BK507 := n4_; have BK514 := n5_; have HB := n6_; clear n0_ n1_ n2_ n3_ n4_ n5_ n6_)); have hcz63_0 := cz_ BK514; have hfz63_0 := blk_frozen BK514.out 0; have hnb64 := NB503_507.out; have hnc64 := NB507_503.out; have hcz65_0 := cz_ BK503; have hfz65_0 := blk_frozen BK503.out 0))
           refine bodyPost_ret (results_ct rfl _ _ gb503 26 #[.slice Ao58 x515000_3.length co58] (0, 0) _ rfl (bz_ BK503) Try.underlying26 rfl (by kernel_rfl)) rfl ?_
           exact ⟨_, rf_, by (with_reducible repeat (first | apply Kd.R_alloc | apply Kd.R_drewN | apply Kd.R_drew)); exact Kd.R_mono (Kd.R_far (p := ⟨gb503, 0, none⟩) (Kd.R_types HO_515000.out BK503.out (by decide)) (fun _ hk => hk.2) (.slice Ao58 x515000_3.length co58)) (fun _ hk => trivial), bq_ HB⟩
         replace c53 := Bool.eq_false_iff.mpr c53
         subst c53
         rw [if_neg (show ¬ (false = true) by decide)] at H
         simp only [Option.some.injEq, Prod.mk.injEq] at H
         obtain ⟨rfl, rfl⟩ := H
         obtain ⟨Ao66, co66, eo66⟩ := Kd.R_slice HO_6.out
         subst eo66
         have hnb67 := NB514_503.out
         have hnc67 := NB503_514.out
         have hnb68 := NB514_507.out
         have hnc68 := NB507_514.out
         have hcz69_0 := cz_ BK514
         have hfz69_0 := blk_frozen BK514.out 0
         obtain ⟨Ao70, co70, eo70⟩ := Kd.R_slice HO_515000.out
         subst eo70
         go_wp2_with (first | ((with_reducible refine gate_callee (f := 28) rfl ?_); refine gL_ (some 80) Try.func28 #[.agg #[.slice Ao70 x515000_3.length co70]] ?_; (with_reducible refine (impl_IsSemigroup.calls k3 _ _ x515000_3 true _ ?side1 ?side2 A49.out).mono ?_); (case side1 => exact ce_ ((Kd.R_reads' HO_515000.out).2.2)); (case side2 => exact (Kd.R_reads' HO_515000.out).2.1); rintro e w71 ⟨rfl, hb⟩; refine ⟨_, rfl, ?_⟩; replace HO_6 := Aside0.mk (Kd.R_below (re_ HO_6.out) hb); replace HO_515000 := Aside0.mk (Kd.R_below (re_ HO_515000.out) hb); replace BK503 := bk_ BK503 hb; replace BK507 := bk_ BK507 hb; replace BK514 := bk_ BK514 hb; replace HB := bp_ HB hb; (try clear hb); have hcz72_0 := cz_ BK514; have hfz72_0 := blk_frozen BK514.out 0) | (go_at_call 62; (with_reducible refine (impl_Gaps.calls k3 _ _ x515000_3 t522 _ ?side1 ?side2 A51.out).mono ?_); (case side1 => exact ce_ ((Kd.R_reads' HO_515000.out).2.2)); (case side2 => exact (Kd.R_reads' HO_515000.out).2.1); rintro e w73 ⟨v523, rfl, ho0, hb⟩; replace HO_6 := Aside0.mk (Kd.R_below (re_ HO_6.out) hb); have HO524 := Aside0.mk (Kd.R_lower (Kd.R_new' ho0 (Kd.R_lt (re_ HO_515000.out))) (below_size (bq_ HB))); replace HO_515000 := Aside0.mk (Kd.R_elder' (re_ HO_515000.out) (Kd.R_base ho0) hb); replace BK503 := bk_ BK503 hb; replace BK507 := bk_ BK507 hb; replace BK514 := bk_ BK514 hb; replace HB := bp_ HB hb; (try clear hb); (try clear ho0); obtain ⟨Ao74, co74, eo74⟩ := Kd.R_slice HO524.out; subst eo74) | (go_at_call 89; (with_reducible refine (slices_Equal_int_int.calls k3 _ _ t522 _ _ l0 false _ ?side1 ?side2 ?side3 ?side4 A52.out).mono ?_); (case side1 => exact ce_ ((Kd.R_reads' HO524.out).2.2)); (case side2 => exact (Kd.R_reads' HO524.out).2.1); (case side3 => exact ch_ HR0 HB); (case side4 => exact HC0.out); rintro e w' ⟨rfl, ⟨nd, rfl⟩⟩; (try (rw [drewN_self w73]; generalize hq_ : World.drewN w73 _ = w73; have n0_ : Aside0 (Kd.R (Kd.int .i64) 3 w73 w.heap.size (fun k_ => some k_ ≠ (.slice Ao70 x515000_3.length co70 : Value).ownBlock) (.slice Ao74 t522.length co74) t522) := ⟨by rw [← hq_]; exact (by (with_reducible repeat (first | apply Kd.R_alloc | apply Kd.R_drewN | apply Kd.R_drew)); exact Kd.R_mono HO524.out (fun _ hk => hk.2))⟩; have n1_ : Aside0 (Kd.R (Kd.int .i64) 3 w73 w.heap.size (fun k_ => some k_ ≠ (.slice Ao74 t522.length co74 : Value).ownBlock) (.slice Ao70 x515000_3.length co70) x515000_3) := ⟨by rw [← hq_]; exact (by (with_reducible repeat (first | apply Kd.R_alloc | apply Kd.R_drewN | apply Kd.R_drew)); exact Kd.R_mono HO_515000.out (fun _ hk => hk.2))⟩; have n2_ : Aside0 (Kd.R Kd.bool 4 w73 w.heap.size (fun _ => True) (.slice Ao66 x6_2.length co66) x6_2) := ⟨by rw [← hq_]; exact (re_ HO_6.out)⟩; have n3_ : Aside0 (w73.heap[gb503]? = some (.cells #[.slice none 0 0] 26 (0, 0))) := ⟨by rw [← hq_]; exact (be_ BK503.out)⟩; have n4_ : Aside0 (w73.heap[gb507]? = some (.cells #[.int .i64 t504, .int .i64 t505] 70 (0, 0))) := ⟨by rw [← hq_]; exact (be_ BK507.out)⟩; have n5_ : Aside0 (w73.heap[gb514]? = some (.cells #[.slice Ao70 x515000_3.length co70] 26 (0, 0))) := ⟨by rw [← hq_]; exact (be_ BK514.out)⟩; have n6_ : Aside0 (Below w.heap.size w w73) := ⟨by rw [← hq_]; exact (bq_ HB)⟩; clear HO524 HO_515000 HO_6 BK503 BK507 BK514 HB hq_; have HO524 := n0_; have HO_515000 := n1_; have HO_6 := n2_; have BK503 := n3_; have BK507 := n4_; have BK514 := n5_; have HB := n6_; clear n0_ n1_ n2_ n3_ n4_ n5_ n6_)); have hnb75 := NB503_507.out; have hnc75 := NB507_503.out; have hcz76_0 := cz_ BK503; have hfz76_0 := blk_frozen BK503.out 0))
         refine bodyPost_ret (results_ct rfl _ _ gb503 26 #[.slice none 0 0] (0, 0) _ rfl (bz_ BK503) Try.underlying26 rfl (by kernel_rfl)) rfl ?_
         exact ⟨_, rf_, by first | exact Kd.R_nil _ _ _ _ _ | exact Kd.N_nil _ _ _ _ _ | exact Kd.V_nil _ _ _ _ _ | exact Kd.Q_nil _ _ _ _ _ | exact Kd.S_nil _ _ _ _ _, bq_ HB⟩
       rw [if_pos c29] at H
       have c29b0 : decide (x10_3 < (x6_2.length : Int)) = true := decide_eq_true c29
       clear c29
       obtain ⟨c30b0, H⟩ := ipd_ H
       have H' := Aside0.mk H
       clear H
       obtain ⟨Ao31, co31, eo31⟩ := Kd.R_slice HO_6.out
       subst eo31
       have p515 : 0 ≤ (x10_3 : Int) := od_
       have q515 : x10_3 < (x6_2.length : Int) := od_
       obtain ⟨ad515, e515, hx515_0⟩ := Kd.at_bool (Kd.R_reads' HO_6.out).2.2 x10_3 p515 q515
       cases e515
       replace p515 := eq_true p515
       replace q515 := eq_true q515
       go_wp2
       go_loopg [11, 12] k3 (fun kq v11 v12 w' => ∃ (x11_4 : Bool) (x12_4 : Int), v11 = .bool x11_4 ∧ v12 = .int .i64 x12_4 ∧ Aside0 (impl_FromGaps.l2 kq l0 x6_2 x10_3 x11_4 x12_4 x515000_3 = some (r1, r2)) ∧ Aside0 (kq ≤ k3) ∧ Aside0 (Kd.R Kd.bool 4 w' w.heap.size (fun _ => True) (.slice (some ad515) x6_2.length co31) x6_2) ∧ Aside0 (Kd.R (Kd.int .i64) 3 w' w.heap.size (fun _ => True) u515000 x515000_3) ∧ Aside0 (w'.heap[gb503]? = some (.cells #[(.slice none 0 0)] 26 (0, 0))) ∧ Aside0 (w'.heap[gb507]? = some (.cells #[.int .i64 t504, .int .i64 t505] 70 (0, 0))) ∧ Aside0 (w'.heap[gb514]? = some (.cells #[u515000] 26 (0, 0))) ∧ Aside0 (Below w.heap.size w w'))
       case atStart => exact ⟨(rdOf false x6_2 x10_3), (1), rs_, rs_, H', ⟨Nat.le_refl _⟩, ⟨re_ HO_6.out⟩, ⟨re_ HO_515000.out⟩, ⟨be_ BK503.out⟩, ⟨be_ BK507.out⟩, ⟨be_ BK514.out⟩, ⟨bq_ HB⟩⟩
       case round =>
        clear H'
        try clear c29b0
        try clear c30b0
        try clear hx515_0
        try clear p515
        try clear q515
        obtain ⟨x11_4, x12_4, rfl, rfl, HA, HK4, HO_6, HO_515000, BK503, BK507, BK514, HB⟩ := hrel
        cases gk with
        | zero => exact absurd HA.out (by simp [impl_FromGaps.l2])
        | succ k4 =>
         have H := HA.out
         clear HA
         simp only [impl_FromGaps.l2] at H
         by_cases c32 : (wrap64 (2 * x12_4)) ≤ x10_3
         rotate_left
         · rw [if_neg c32] at H
           have c32b0 : decide ((wrap64 (2 * x12_4)) ≤ x10_3) = false := decide_eq_false c32
           clear c32
           by_cases c41 : x11_4 = true
           · subst c41
             rw [if_pos rfl] at H
             have H' := Aside0.mk H
             clear H
             go_wp2
             go_roundg k4
             case measure => have := HJ2.out; have := HK2.out; have := HK3.out; have := HK4.out; omega
             case rel => exact ⟨(wrap64 (x10_3 + 1)), (x515000_3), (u515000), rs_, H', ⟨by have := HJ2.out; have := HK2.out; have := HK3.out; have := HK4.out; omega⟩, ⟨re_ HO_6.out⟩, ⟨re_ HO_515000.out⟩, ⟨be_ BK503.out⟩, ⟨be_ BK507.out⟩, ⟨be_ BK514.out⟩, ⟨bq_ HB⟩⟩
           replace c41 := Bool.eq_false_iff.mpr c41
           subst c41
           rw [if_neg (show ¬ (false = true) by decide)] at H
           obtain ⟨c42, H⟩ := ip_ H
           have LMc42 := Aside0.mk c42
           clear c42
           obtain ⟨y518, hy518⟩ : ∃ y_ : List Int, y_ = (x515000_3 ++ [x10_3]) := ⟨_, rfl⟩
           replace H : (impl_FromGaps.l1 k4 l0 x6_2 (wrap64 (x10_3 + 1)) y518) = some (r1, r2) := by subst hy518; exact H
           have Ny518 := Aside0.mk hy518
           clear hy518
           have H' := Aside0.mk H
           clear H
           have hnb43 := NB514_503.out
           have hnc43 := NB503_514.out
           have hnb44 := NB514_507.out
           have hnc44 := NB507_514.out
           have hcz45_0 := cz_ BK514
           have hfz45_0 := blk_frozen BK514.out 0
           go_wp2_with (first | ((with_reducible refine gate_builtin (b := .append) (xs := #[.tmp 74, .tmp 76]) rfl ?_); at_builtin; refine Kd.R_append (Kd.int .i64) (w0 := w) w.heap.size rfl (.tmp 74) (.tmp 76) 24 3 (.int .i64 0) 8 rfl Try.underlying24 info3 rfl (by decide) (by omega) u515000 x515000_3 x10_3 [.int .i64 x10_3] (fun _ => True) (fun _ => False) rfl rfl ?aP (fun _ hk => hk.elim) ?aF ?aO ?aB ?aS ?aL ?_; (case aP => exact rfl); (case aB => exact (bq_ HB)); (case aF => exact (fun _ _ => trivial)); (case aO => exact (re_ HO_515000.out)); (case aS => exact (below_size (bq_ HB))); (case aL => have := LMc42.out; omega); intro v519 w46 ho hb hg hat; rw [← Ny518.out] at ho; replace HO_6 := Aside0.mk (Kd.R_over' (re_ HO_6.out) (Kd.R_typed (re_ HO_515000.out)) (by decide) hg); replace BK503 := Aside0.mk (blk_grown (be_ BK503.out) hg (Kd.R_ne HO_515000.out BK503.out (by decide))); replace BK507 := Aside0.mk (blk_grown (be_ BK507.out) hg (Kd.R_ne HO_515000.out BK507.out (by decide))); replace BK514 := Aside0.mk (blk_grown (be_ BK514.out) hg (Kd.R_ne HO_515000.out BK514.out (by decide))); replace HB := Aside0.mk (hb); have HO520 := Aside0.mk (ho); clear HO_515000; clear ho hb hg hat; obtain ⟨Ao47, co47, eo47⟩ := Kd.R_slice HO520.out; subst eo47; have hcz48_0 := cz_ BK514; have hfz48_0 := blk_frozen BK514.out 0))
           go_roundg k4
           case measure => have := HJ2.out; have := HK2.out; have := HK3.out; have := HK4.out; omega
           case rel => exact ⟨(wrap64 (x10_3 + 1)), (y518), (.slice Ao47 y518.length co47), rs_, H', ⟨by have := HJ2.out; have := HK2.out; have := HK3.out; have := HK4.out; omega⟩, ⟨by (with_reducible repeat (first | apply Kd.R_alloc | apply Kd.R_drewN | apply Kd.R_drew)); exact Kd.R_mono (Kd.R_far (p := ⟨gb514, 0, none⟩) (Kd.R_types HO_6.out BK514.out (by decide)) (fun _ hk => hk.2) (.slice Ao47 y518.length co47)) (fun _ hk => trivial)⟩, ⟨by (with_reducible repeat (first | apply Kd.R_alloc | apply Kd.R_drewN | apply Kd.R_drew)); exact Kd.R_mono (Kd.R_far (p := ⟨gb514, 0, none⟩) (Kd.R_types HO520.out BK514.out (by decide)) (fun _ hk => hk.2) (.slice Ao47 y518.length co47)) (fun _ hk => trivial)⟩, ⟨ba_ BK503⟩, ⟨ba_ BK507⟩, ⟨bz_ BK514⟩, ⟨bq_ HB⟩⟩
         rw [if_pos c32] at H
         have c32b0 : decide ((wrap64 (2 * x12_4)) ≤ x10_3) = true := decide_eq_true c32
         clear c32
         by_cases c33 : x11_4 = true
         · subst c33
           rw [if_pos rfl] at H
           have H' := Aside0.mk H
           clear H
           go_wp2
           go_roundg k4
           case measure => have := HJ2.out; have := HK2.out; have := HK3.out; have := HK4.out; omega
           case rel => exact ⟨(wrap64 (x10_3 + 1)), (x515000_3), (u515000), rs_, H', ⟨by have := HJ2.out; have := HK2.out; have := HK3.out; have := HK4.out; omega⟩, ⟨re_ HO_6.out⟩, ⟨re_ HO_515000.out⟩, ⟨be_ BK503.out⟩, ⟨be_ BK507.out⟩, ⟨be_ BK514.out⟩, ⟨bq_ HB⟩⟩
         replace c33 := Bool.eq_false_iff.mpr c33
         subst c33
         rw [if_neg (show ¬ (false = true) by decide)] at H
         obtain ⟨c34b0, H⟩ := ipd_ H
         obtain ⟨c35b0, H⟩ := ipd_ H
         obtain ⟨bq36, hbq36⟩ : ∃ b_ : Bool, b_ = (rdOf false x6_2 x12_4) := ⟨_, rfl⟩
         replace H : (if bq36 = true then (impl_FromGaps.l2 k4 l0 x6_2 x10_3 false (wrap64 (x12_4 + 1)) x515000_3) else (if 0 ≤ (wrap64 (x10_3 - x12_4)) then (if (wrap64 (x10_3 - x12_4)) < (x6_2.length : Int) then (impl_FromGaps.l2 k4 l0 x6_2 x10_3 (!(rdOf false x6_2 (wrap64 (x10_3 - x12_4)))) (wrap64 (x12_4 + 1)) x515000_3) else (none)) else (none))) = some (r1, r2) := by rw [← hbq36] at H; exact H
         have Nbq36 := Aside0.mk hbq36
         clear hbq36
         by_cases c37 : bq36 = true
         · subst c37
           rw [if_pos rfl] at H
           have H' := Aside0.mk H
           clear H
           have p516 : 0 ≤ (x12_4 : Int) := od_
           have q516 : x12_4 < (x6_2.length : Int) := od_
           obtain ⟨ad516, e516, hx516_0⟩ := Kd.at_bool (Kd.R_reads' HO_6.out).2.2 x12_4 p516 q516
           (try rw [← Nbq36.out] at hx516_0)
           obtain rfl : ad515 = ad516 := (by injection e516)
           replace p516 := eq_true p516
           replace q516 := eq_true q516
           go_wp2
           go_roundg k4
           case measure => have := HJ2.out; have := HK2.out; have := HK3.out; have := HK4.out; omega
           case rel => exact ⟨(false), (wrap64 (x12_4 + 1)), rs_, rs_, H', ⟨by have := HJ2.out; have := HK2.out; have := HK3.out; have := HK4.out; omega⟩, ⟨re_ HO_6.out⟩, ⟨re_ HO_515000.out⟩, ⟨be_ BK503.out⟩, ⟨be_ BK507.out⟩, ⟨be_ BK514.out⟩, ⟨bq_ HB⟩⟩
         replace c37 := Bool.eq_false_iff.mpr c37
         subst c37
         rw [if_neg (show ¬ (false = true) by decide)] at H
         obtain ⟨ji38, hji38⟩ : ∃ j_ : Int, (wrap64 (x10_3 - x12_4)) = j_ := ⟨_, rfl⟩
         replace H : (if 0 ≤ (ji38) then (if (ji38) < (x6_2.length : Int) then (impl_FromGaps.l2 k4 l0 x6_2 x10_3 (!(rdOf false x6_2 (ji38))) (wrap64 (x12_4 + 1)) x515000_3) else (none)) else (none)) = some (r1, r2) := by first | (rw [hji38] at H; exact H) | (simp only [hji38] at H ⊢; exact H)
         have hji38w : (IntKind.i64.wrap (x10_3 - x12_4)) = ji38 := (i64_w _).trans hji38
         obtain ⟨c39b0, H⟩ := ipd_ H
         obtain ⟨c40b0, H⟩ := ipd_ H
         have H' := Aside0.mk H
         clear H
         have p516 : 0 ≤ (x12_4 : Int) := od_
         have q516 : x12_4 < (x6_2.length : Int) := od_
         obtain ⟨ad516, e516, hx516_0⟩ := Kd.at_bool (Kd.R_reads' HO_6.out).2.2 x12_4 p516 q516
         (try rw [← Nbq36.out] at hx516_0)
         obtain rfl : ad515 = ad516 := (by injection e516)
         replace p516 := eq_true p516
         replace q516 := eq_true q516
         have p517 : 0 ≤ ((ji38) : Int) := od_
         have q517 : (ji38) < (x6_2.length : Int) := od_
         obtain ⟨ad517, e517, hx517_0⟩ := Kd.at_bool (Kd.R_reads' HO_6.out).2.2 (ji38) p517 q517
         (try rw [← Nbq36.out] at hx517_0)
         obtain rfl : ad515 = ad517 := (by injection e517)
         replace p517 := eq_true p517
         replace q517 := eq_true q517
         go_wp2
         go_roundg k4
         case measure => have := HJ2.out; have := HK2.out; have := HK3.out; have := HK4.out; omega
         case rel => exact ⟨(!(rdOf false x6_2 (ji38))), (wrap64 (x12_4 + 1)), (by first | rfl | (simp; done) | (simp only [← hji38] <;> (first | rfl | simp)) | (simp [*]; done)), rs_, H', ⟨by have := HJ2.out; have := HK2.out; have := HK3.out; have := HK4.out; omega⟩, ⟨re_ HO_6.out⟩, ⟨re_ HO_515000.out⟩, ⟨be_ BK503.out⟩, ⟨be_ BK507.out⟩, ⟨be_ BK514.out⟩, ⟨bq_ HB⟩⟩
end Go.Proofs.Ytonknpgfbkgbjaa.PB
end
section
namespace Go.Proofs
open Go.Shelf
def Try.lays189_ren : Go.Shelf.Ren := ⟨fun | 189 => 90 | 125 => 101 | 257 => 105 | 128 => 115 | 129 => 116 | 294 => 118 | 295 => 119 | 296 => 120 | 297 => 121 | 298 => 122 | 299 => 123 | 216 => 124 | 300 => 125 | 301 => 126 | 328 => 132 | 329 => 128 | 330 => 129 | 331 => 133 | 332 => 134 | 215 => 117 | 343 => 136 | n => n, fun | 28 => 24 | 3 => 3 | 46 => 79 | 0 => 0 | 51 => 90 | 53 => 92 | 4 => 4 | 183 => 83 | 182 => 82 | 131 => 87 | 5 => 5 | 9 => 9 | 218 => 98 | 222 => 102 | 228 => 106 | 229 => 107 | n => n, fun | n => n⟩
theorem Try.lays189 : Go.Proofs.Lays.n189 Try.prog Try.lays189_ren := {
 mixed := by kernel_rfl
 f125 := Try.func101.trans (congrArg some (by kernel_rfl))
 f128 := Try.func115.trans (congrArg some (by kernel_rfl))
 f129 := Try.func116.trans (congrArg some (by kernel_rfl))
 f189 := Try.func90.trans (congrArg some (by kernel_rfl))
 f215 := Try.func117.trans (congrArg some (by kernel_rfl))
 f216 := Try.func124.trans (congrArg some (by kernel_rfl))
 f257 := Try.func105.trans (congrArg some (by kernel_rfl))
 f294 := Try.func118.trans (congrArg some (by kernel_rfl))
 f295 := Try.func119.trans (congrArg some (by kernel_rfl))
 f296 := Try.func120.trans (congrArg some (by kernel_rfl))
 f297 := Try.func121.trans (congrArg some (by kernel_rfl))
 f298 := Try.func122.trans (congrArg some (by kernel_rfl))
 f299 := Try.func123.trans (congrArg some (by kernel_rfl))
 f300 := Try.func125.trans (congrArg some (by kernel_rfl))
 f301 := Try.func126.trans (congrArg some (by kernel_rfl))
 f328 := Try.func132.trans (congrArg some (by kernel_rfl))
 f329 := Try.func128.trans (congrArg some (by kernel_rfl))
 f330 := Try.func129.trans (congrArg some (by kernel_rfl))
 f331 := Try.func133.trans (congrArg some (by kernel_rfl))
 f332 := Try.func134.trans (congrArg some (by kernel_rfl))
 f343 := Try.func136.trans (congrArg some (by kernel_rfl))
 t0 := Try.underlying0
 a0 := Try.isAgg0
 z0 := Try.sizeOf0
 v0 := Try.zeroValue0
 t3 := Try.underlying3
 a3 := Try.isAgg3
 z3 := Try.sizeOf3
 v3 := Try.zeroValue3
 t4 := Try.underlying4
 a4 := Try.isAgg4
 z4 := Try.sizeOf4
 v4 := Try.zeroValue4
 t5 := Try.underlying5
 a5 := Try.isAgg5
 z5 := Try.sizeOf5
 v5 := Try.zeroValue5
 t9 := Try.underlying9
 a9 := Try.isAgg9
 z9 := Try.sizeOf9
 v9 := Try.zeroValue9
 t28 := Try.underlying24
 a28 := Try.isAgg24
 z28 := Try.sizeOf24
 v28 := Try.zeroValue24
 t46 := Try.underlying79
 a46 := Try.isAgg79
 z46 := Try.sizeOf79
 v46 := Try.zeroValue79
 t51 := Try.underlying90
 a51 := Try.isAgg90
 z51 := Try.sizeOf90
 v51 := Try.zeroValue90
 t53 := Try.underlying92
 a53 := Try.isAgg92
 z53 := Try.sizeOf92
 v53 := Try.zeroValue92
 t131 := Try.underlying87
 a131 := Try.isAgg87
 z131 := Try.sizeOf87
 v131 := Try.zeroValue87
 t182 := Try.underlying82
 a182 := Try.isAgg82
 z182 := Try.sizeOf82
 v182 := Try.zeroValue82
 t183 := Try.underlying83
 a183 := Try.isAgg83
 z183 := Try.sizeOf83
 v183 := Try.zeroValue83
 t218 := Try.underlying98
 a218 := Try.isAgg98
 z218 := Try.sizeOf98
 v218 := Try.zeroValue98
 t222 := Try.underlying102
 a222 := Try.isAgg102
 z222 := Try.sizeOf102
 v222 := Try.zeroValue102
 t228 := Try.underlying106
 a228 := Try.isAgg106
 z228 := Try.sizeOf106
 v228 := Try.zeroValue106
 t229 := Try.underlying107
 a229 := Try.isAgg107
 z229 := Try.sizeOf107
 v229 := Try.zeroValue107 }
def Try.lays20_ren : Go.Shelf.Ren := ⟨fun | 20 => 91 | n => n, fun | 22 => 24 | 3 => 3 | 4 => 4 | 0 => 0 | n => n, fun | n => n⟩
theorem Try.lays20 : Go.Proofs.Lays2.n20 Try.prog Try.lays20_ren := {
 mixed := by kernel_rfl
 f20 := Try.func91.trans (congrArg some (by kernel_rfl))
 t0 := Try.underlying0
 a0 := Try.isAgg0
 z0 := Try.sizeOf0
 v0 := Try.zeroValue0
 t3 := Try.underlying3
 a3 := Try.isAgg3
 z3 := Try.sizeOf3
 v3 := Try.zeroValue3
 t4 := Try.underlying4
 a4 := Try.isAgg4
 z4 := Try.sizeOf4
 v4 := Try.zeroValue4
 t22 := Try.underlying24
 a22 := Try.isAgg24
 z22 := Try.sizeOf24
 v22 := Try.zeroValue24
 i3 := by kernel_rfl }
end Go.Proofs
end
section
namespace Go.Proofs.Ytonknpgfbkgbjaa.PB
open Go.RowKit Go.Proofs.YtonknpgfbkgbjaaW.PrintWords Go.Proofs.YtonknpgfbkgbjaaW.PrintLast Go.Proofs.YtonknpgfbkgbjaaW.PrintMore
attribute [local go_sem] max2_int min2_int max_two min_two max_three min_three max_four min_four
set_option linter.unusedVariables false
set_option linter.unusedSimpArgs false
set_option maxHeartbeats 8000000
set_option maxRecDepth 100000
theorem grow_empty_ (w : World) : Go.Sort.grow w #[] = w := by unfold Go.Sort.grow; simp
theorem slices_Sort_.calls (base : Nat) (ok : Nat → Prop) (v : Value) (xs : List Int) (w : World) (h : Kd.R (Kd.int .i64) 3 w base ok v xs) (hs : xs.length < 4611686018427387904) :
 Calls Try.prog 90 #[v] w fun e w' => e = .returned (.tuple #[]) ∧ Kd.R (Kd.int .i64) 3 w' base ok v (xs.mergeSort fun x y => decide (x ≤ y)) ∧ ∀ w0 : World, base ≤ w.heap.size → Below base w0 w → Below base w0 w' := by
 have ho : w.ownsRow base 3 1 v xs.length (encs (Value.int .i64) xs) := Kd.own_of_R h
 have hok := h.1
 rcases ho.2 with ⟨rfl, h0⟩ | ⟨g, cap, cur, rfl, hg, hb, h1, h2, h3, h4⟩
 · obtain rfl := List.eq_nil_of_length_eq_zero h0
   refine (Any.slices_Sort_int_none Try.lays189 none 0 w).mono ?_
   rintro e w' ⟨rfl, rfl⟩
   exact ⟨rfl, by simpa using h, fun _ _ hb => hb⟩
 · have hH := holds_of_blockI (ss := xs) hb (by simpa [encs] using h4)
   have hlt : g < w.heap.size := (Array.getElem?_eq_some_iff.1 hb).1
   refine (Any.slices_Sort_int Try.lays189 g 0 cap xs w hH hlt hs).mono ?_
   rintro e w' ⟨rfl, n, os, rfl⟩
   have hl : (xs.mergeSort fun x y => decide (x ≤ y)).length = xs.length := List.length_mergeSort ..
   refine ⟨rfl, Kd.R_of_own ?_ hok, fun w0 hw hb0 => hb0.grown (grownBy_sortedI _) hw (fun k hk => by injection hk with hk; omega)⟩
   have := ownsRow_sortedI (base := base) (n := n) (os := os) (ts := xs.mergeSort fun x y => decide (x ≤ y)) hl hg hb h1 h2 h3
   rw [hl]
   exact this
theorem compact_len (xs : List Int) : (Lib.compact xs).length ≤ xs.length := by
 unfold Lib.compact Lib.compactUpTo
 rw [List.length_map]
 exact Nat.le_trans (List.length_filter_le ..) (by simp)
theorem slices_Compact_.calls (base : Nat) (ok : Nat → Prop) (v : Value) (xs : List Int) (w : World) (h : Kd.R (Kd.int .i64) 3 w base ok v xs) :
 Calls Try.prog 91 #[v] w fun e w' => ∃ u, e = .returned u ∧ Kd.R (Kd.int .i64) 3 w' base ok u (Lib.compact xs) ∧ ∀ w0 : World, base ≤ w.heap.size → Below base w0 w → Below base w0 w' := by
 have ho : w.ownsRow base 3 1 v xs.length (encs (Value.int .i64) xs) := Kd.own_of_R h
 have hok := h.1
 have cl := compact_len xs
 rcases ho.2 with ⟨rfl, h0⟩ | ⟨g, cap, cur, rfl, hg, hb, h1, h2, h3, h4⟩
 · obtain rfl := List.eq_nil_of_length_eq_zero h0
   refine (Any.slices_Compact_int_empty Try.lays20 none 0 w).mono ?_
   rintro e w' ⟨rfl, rfl⟩
   exact ⟨_, rfl, h, fun _ _ hb => hb⟩
 · have hH := holds_of_blockI (ss := xs) hb (by simpa [encs] using h4)
   refine (Any.slices_Compact_int Try.lays20 g 0 cap xs w hH (by simp only [maxLen] at h2; omega) h1).mono ?_
   rintro e w' ⟨rfl, q, rfl⟩
   have hl : (Lib.compact xs ++ List.replicate (xs.length - (Lib.compact xs).length) 0).length = xs.length := by rw [List.length_append, List.length_replicate]; omega
   have hg0 := grow_empty_ (Go.Sort.putRow (Value.int .i64) (Go.Sort.ahead w q) g 0 (Lib.compact xs ++ List.replicate (xs.length - (Lib.compact xs).length) 0).toArray)
   have own := ownsRow_sortedI (base := base) (n := q) (os := #[]) (ts := Lib.compact xs ++ List.replicate (xs.length - (Lib.compact xs).length) 0) hl hg hb h1 h2 h3
   have gb := grownBy_sortedI (w := w) (g := g) (n := q) (os := #[]) (Lib.compact xs ++ List.replicate (xs.length - (Lib.compact xs).length) 0).toArray
   rw [hg0] at own gb
   refine ⟨_, rfl, Kd.R_of_own ?_ (fun k hk => hok k (by simpa [Value.ownBlock] using hk)), fun w0 hw hb0 => hb0.grown gb hw (fun k hk => by injection hk with hk; omega)⟩
   rcases own.2 with ⟨hv, _⟩ | ⟨g', cap', cur', hv, hg', hb', _, _, h3', h4'⟩
   · cases hv
   · injection hv with hv1 hv2 hv3
     injection hv1 with hv1
     injection hv1 with hv1
     subst hv1 hv3
     refine ⟨by rw [encs_length]; omega, .inr ⟨g, cap, cur', rfl, hg, hb', by omega, h2, h3', ?_⟩⟩
     have := congrArg (List.take (Lib.compact xs).length) h4'
     rw [List.take_take, Nat.mul_one, Nat.min_eq_left cl] at this
     rw [Nat.mul_one, this, List.map_append, List.take_left' (by simp)]
     rfl
def impl_SortList.f (k : Nat) (l : List Int) : Option (List Int) := if l.length < 17592186044416 then some (Lib.compact (l.mergeSort fun x y => decide (x ≤ y))) else none
theorem impl_SortList.calls (k : Nat) (A0 : Option Addr) (c0 : Nat) (l0 : List Int) (r : List Int) (w : World) (hr0 : Kd.C (Kd.int .i64) w A0 l0.length l0) (hc0 : l0.length ≤ c0) (h : impl_SortList.f k l0 = some r) :
 Calls Try.prog 61 #[.slice A0 l0.length c0] w fun e w' => ∃ v0_, e = .returned v0_ ∧ Kd.R (Kd.int .i64) 3 w' w.heap.size (fun _ => True) v0_ r ∧ Below w.heap.size w w' := by
 unfold impl_SortList.f at h
 by_cases c : l0.length < 17592186044416
 rotate_left
 · rw [if_neg c] at h; cases h
 rw [if_pos c] at h
 obtain rfl := Option.some.inj h
 clear h
 have hl := Aside0.mk c
 clear c
 have HR0 := Aside0.mk hr0
 clear hr0
 have huT_ := Try.underlying24
 go_enter Try.func61, Try.ntmps61
 go_wp2_with (first
  | ((with_reducible refine gate_dst (N := 4) rfl ?_); refine Kd.R_lit (Kd.int .i64) _ 3 ?hg (N := 4) ?hd (xs := ([] : List Int)) (inner := []) (ok := fun _ => True) (okp := fun _ => True) ?hr ?hp (fun _ hk => hk) trivial (Below.refl _ _) (Nat.le_refl _) (by simp) ?_; (case hd => rfl); (case hg => rfl); (case hr => first | (go_simp; done) | (go_simp; rfl)); (case hp => exact (Reps.none _ _)); intro v1 w1 ho hb hg_ hnew_; clear hg_ hnew_; have HO1 := Aside0.mk ho; have HB1 := Aside0.mk hb; clear ho hb)
  | ((with_reducible refine gate_builtin (b := .append) (xs := #[.tmp 4, .tmp 5]) rfl ?_); at_builtin; refine Kd.R_append_rows (Kd.int .i64) (w0 := w) w.heap.size rfl (.tmp 4) (.tmp 5) 24 3 (.int .i64 0) 8 rfl Try.underlying24 info3 rfl (by decide) (by omega) v1 [] l0 _ _ _ (fun _ => True) (fun _ => False) rfl rfl ?aO ?aR (fun _ _ h => h) (fun _ h => h.elim) (fun _ _ => trivial) ?aB ?aS ?aL ?_; (case aO => exact HO1.out); (case aR => exact Kd.C_below HR0.out HB1.out); (case aB => exact HB1.out); (case aS => exact below_size HB1.out); (case aL => have := hl.out; simp only [List.length_nil]; omega); intro v2 w2 ho hb hg hat; clear hg hat; have HO2 := Aside0.mk ho; have HB2 := Aside0.mk hb; clear ho hb)
  | (go_at_call 90; refine (slices_Sort_.calls w.heap.size (fun _ => True) v2 l0 _ HO2.out (by have := hl.out; omega)).mono ?_; rintro e w3 ⟨rfl, ho, hb⟩; have HO3 := Aside0.mk ho; have HB3 := Aside0.mk (hb w (below_size HB2.out) HB2.out); clear ho hb)
  | (go_at_call 91; refine (slices_Compact_.calls w.heap.size (fun _ => True) v2 _ _ HO3.out).mono ?_; rintro e w4 ⟨v4, rfl, ho, hb⟩; have HO4 := Aside0.mk ho; have HB4 := Aside0.mk (hb w (below_size HB3.out) HB3.out); clear ho hb))
 go_ret
 exact ⟨_, rfl, HO4.out, HB4.out⟩
end Go.Proofs.Ytonknpgfbkgbjaa.PB
end
