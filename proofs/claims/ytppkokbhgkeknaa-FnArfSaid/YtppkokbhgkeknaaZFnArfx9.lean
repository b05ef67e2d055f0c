-- Bundled by shake.py from this session's printed and written texts; Lean checks it.
import Derived.Deep.RegionHeld3
import Derived.Ground.Names2Prog
import Derived.Ground.NamesProg
import Derived.KernelRfl
import Derived.Shelf.Abstract
import Derived.Shelf.Slices.CompactI
import Derived.Shelf.Slices.In.SortNone
import Derived.Shelf.Sort.Plain
import Derived.Sort.OwnSortedInts
import Derived.Test.YtppkokbhgkeknaaProg
import Derived.Test.YtppkokbhgkeknaaZFnArfx1
import Derived.Test.YtppkokbhgkeknaaZFnArfx6
import Derived.Test.YtppkokbhgkeknaaZFnArfx7
import Derived.Test.YtppkokbhgkeknaaZFnArfx8
section
namespace Go.Proofs.Ytppkokbhgkeknaa.PA
open Go.RowKit Go.Proofs.YtppkokbhgkeknaaW.PrintWords Go.Proofs.YtppkokbhgkeknaaW.PrintLast Go.Proofs.YtppkokbhgkeknaaW.PrintMore
attribute [local go_sem] max2_int min2_int max_two min_two max_three min_three max_four min_four
set_option linter.unusedVariables false
set_option linter.unusedSimpArgs false
set_option maxHeartbeats 8000000
set_option maxRecDepth 100000
mutual
def impl_ArfClosure.l0 : Nat → List Bool → Bool → Option (List Int × Bool)
 | 0, _, _ => none
 | k + 1, x4, x5 => if x5 = true then (impl_ArfClosure.l1 k x4 false (([] : List Int)) x4 (x4.length : Int) 0) else (impl_ArfClosure.l5 k (([] : List Int)) x4 (x4.length : Int) 0)
def impl_ArfClosure.l1 : Nat → List Bool → Bool → List Int → List Bool → Int → Int → Option (List Int × Bool)
 | 0, _, _, _, _, _, _ => none
 | k + 1, x4, x5, x6, x27, x28, x29 => if x29 < x28 then (if 0 ≤ x29 then (if x29 < (x27.length : Int) then (if rdOf false x27 x29 = true then (if x6.length < 17592186044416 then (impl_ArfClosure.l1 k x4 x5 (x6 ++ [x29]) x27 x28 (wrap64 (x29 + 1))) else (none)) else (impl_ArfClosure.l1 k x4 x5 x6 x27 x28 (wrap64 (x29 + 1)))) else (none)) else (none)) else (impl_ArfClosure.l2 k x4 x5 x6 x6 (x6.length : Int) 0)
def impl_ArfClosure.l2 : Nat → List Bool → Bool → List Int → List Int → Int → Int → Option (List Int × Bool)
 | 0, _, _, _, _, _, _ => none
 | k + 1, x4, x5, x6, x40, x41, x42 => if x42 < x41 then (if 0 ≤ x42 then (if x42 < (x40.length : Int) then (if 0 ≤ (wrap64 (x42 + 1)) then (if (wrap64 (x42 + 1)) ≤ (x6.length : Int) then ((some (x6.take ((wrap64 (x42 + 1)) : Int).toNat : List Int)).bind fun y670 => (impl_ArfClosure.l3 k x4 x5 x6 (rd x40 x42) x40 x41 x42 y670 (y670.length : Int) 0)) else (none)) else (none)) else (none)) else (none)) else (impl_ArfClosure.l0 k x4 x5)
def impl_ArfClosure.l3 : Nat → List Bool → Bool → List Int → Int → List Int → Int → Int → List Int → Int → Int → Option (List Int × Bool)
 | 0, _, _, _, _, _, _, _, _, _, _ => none
 | k + 1, x4, x5, x6, x10, x40, x41, x42, x50, x51, x52 => if x52 < x51 then (if 0 ≤ x52 then (if x52 < (x50.length : Int) then (if 0 ≤ (wrap64 (x52 + 1)) then (if (wrap64 (x52 + 1)) ≤ (x6.length : Int) then ((some (x6.take ((wrap64 (x52 + 1)) : Int).toNat : List Int)).bind fun y675 => (impl_ArfClosure.l4 k x4 x5 x6 x10 (rd x50 x52) x40 x41 x42 x50 x51 x52 y675 (y675.length : Int) 0)) else (none)) else (none)) else (none)) else (none)) else (impl_ArfClosure.l2 k x4 x5 x6 x40 x41 (wrap64 (x42 + 1)))
def impl_ArfClosure.l4 : Nat → List Bool → Bool → List Int → Int → Int → List Int → Int → Int → List Int → Int → Int → List Int → Int → Int → Option (List Int × Bool)
 | 0, _, _, _, _, _, _, _, _, _, _, _, _, _, _ => none
 | k + 1, x4, x5, x6, x10, x12, x40, x41, x42, x50, x51, x52, x60, x61, x62 => if x62 < x61 then (if 0 ≤ x62 then (if x62 < (x60.length : Int) then (if (wrap64 ((wrap64 (x10 + x12)) - (rd x60 x62))) < (x4.length : Int) then (if 0 ≤ (wrap64 ((wrap64 (x10 + x12)) - (rd x60 x62))) then (if (rdOf false x4 (wrap64 ((wrap64 (x10 + x12)) - (rd x60 x62))) = true) then (impl_ArfClosure.l4 k x4 x5 x6 x10 x12 x40 x41 x42 x50 x51 x52 x60 x61 (wrap64 (x62 + 1))) else (impl_ArfClosure.l4 k (x4.set ((wrap64 ((wrap64 (x10 + x12)) - (rd x60 x62))) : Int).toNat true) true x6 x10 x12 x40 x41 x42 x50 x51 x52 x60 x61 (wrap64 (x62 + 1)))) else (none)) else (impl_ArfClosure.l4 k x4 x5 x6 x10 x12 x40 x41 x42 x50 x51 x52 x60 x61 (wrap64 (x62 + 1)))) else (none)) else (none)) else (impl_ArfClosure.l3 k x4 x5 x6 x10 x40 x41 x42 x50 x51 (wrap64 (x52 + 1)))
def impl_ArfClosure.l5 : Nat → List Int → List Bool → Int → Int → Option (List Int × Bool)
 | 0, _, _, _, _ => none
 | k + 1, x16, x89, x90, x91 => if x91 < x90 then (if 0 ≤ x91 then (if x91 < (x89.length : Int) then (if rdOf false x89 x91 = true then (impl_ArfClosure.l5 k x16 x89 x90 (wrap64 (x91 + 1))) else (if x16.length < 17592186044416 then (impl_ArfClosure.l5 k (x16 ++ [x91]) x89 x90 (wrap64 (x91 + 1))) else (none))) else (none)) else (none)) else ((impl_FromGaps.f k x16).bind fun bt689 => (some (bt689.1, bt689.2)))
end
def impl_ArfClosure.f (k : Nat) (l0_0 : List Int) : Option (List Int × Bool) := (impl_IsSemigroup.f k l0_0).bind fun t658 => (if t658 = true then ((impl_table.f k l0_0 200).bind fun t659 => (impl_ArfClosure.l0 k t659 true)) else (some (([] : List Int), false)))
theorem impl_ArfClosure.calls (k : Nat) (A0_0 : Option Addr) (c0_0 : Nat) (l0_0 : List Int) (r1 : List Int) (r2 : Bool) (w : World) (hr0_0 : Kd.C (Kd.int .i64) w A0_0 l0_0.length l0_0) (hc0_0 : l0_0.length ≤ c0_0) (h : impl_ArfClosure.f k l0_0 = some (r1, r2)) :
 Calls Try.prog 6 #[.agg #[.slice A0_0 l0_0.length c0_0]] w fun e w' => ∃ v0_ : Value, e = .returned (.tuple #[.agg #[v0_], .bool r2]) ∧ Kd.R (Kd.int .i64) 3 w' w.heap.size (fun _ => True) v0_ r1 ∧ Below w.heap.size w w' := by
 have hu26 := Try.underlying26
 have HR0_0 := Aside0.mk hr0_0
 have HC0_0 := Aside0.mk hc0_0
 clear hr0_0 hc0_0
 have HB := Aside0.mk (Below.refl w.heap.size w)
 have H := h
 clear h
 unfold impl_ArfClosure.f at H
 obtain ⟨t658, A2, H⟩ := ob_ H
 by_cases c3 : t658 = true
 rotate_left
 · replace c3 := Bool.eq_false_iff.mpr c3
   subst c3
   rw [if_neg (show ¬ (false = true) by decide)] at H
   simp only [Option.some.injEq, Prod.mk.injEq] at H
   obtain ⟨rfl, rfl⟩ := H
   go_enter Try.func6, Try.ntmps6
   go_wp2_with (first | ((with_reducible refine gate_dst (N := 1) rfl ?_); refine bx_ 1 #[.slice A0_0 l0_0.length c0_0] 26 ?_; intro gb656 hg w65 hbox hb; have BK656 := Aside0.mk (hbox); have GW656 := gw_ hg HB; have GE656 := gw_ hg HB; replace HB := bo_ HB hb; clear hb hbox hg) | ((with_reducible refine gate_dst (N := 2) rfl ?_); refine bx_ 2 #[.slice none 0 0] 26 ?_; intro gb657 hg w66 hbox hb; have BK657 := Aside0.mk (hbox); have GW657 := gq_ hg (bq_ HB); have GE657 := gq_ hg (bq_ HB); replace HB := bp_ HB hb; have NB656_657 := nl_ hg BK656; have NB657_656 := ng_ hg BK656; replace BK656 := bk_ BK656 hb; clear hb hbox hg; have hnb67 := NB656_657.out; have hnc67 := NB657_656.out; have hcz68_0 := cz_ BK656; have hfz68_0 := blk_frozen BK656.out 0) | ((with_reducible refine gate_callee (f := 24) rfl ?_); refine gL_ (some 20) Try.func24 #[.agg #[.slice A0_0 l0_0.length c0_0]] ?_; (with_reducible refine (impl_IsSemigroup.calls k _ _ l0_0 false _ ?side1 ?side2 A2.out).mono ?_); (case side1 => exact ch_ HR0_0 HB); (case side2 => exact HC0_0.out); rintro e w69 ⟨rfl, hb⟩; refine ⟨_, rfl, ?_⟩; replace BK656 := bk_ BK656 hb; replace BK657 := bk_ BK657 hb; replace HB := bp_ HB hb; (try clear hb); have hcz70_0 := cz_ BK657; have hfz70_0 := blk_frozen BK657.out 0))
   refine bodyPost_ret (results_ct rfl _ _ gb657 26 #[.slice none 0 0] (0, 0) _ rfl (bz_ BK657) Try.underlying26 rfl (by kernel_rfl)) rfl ?_
   exact ⟨_, rf_, by first | exact Kd.R_nil _ _ _ _ _ | exact Kd.N_nil _ _ _ _ _ | exact Kd.V_nil _ _ _ _ _ | exact Kd.Q_nil _ _ _ _ _ | exact Kd.S_nil _ _ _ _ _, bq_ HB⟩
 subst c3
 rw [if_pos rfl] at H
 obtain ⟨t659, A4, H⟩ := ob_ H
 have H' := Aside0.mk H
 clear H
 go_enter Try.func6, Try.ntmps6
 go_wp2_with (first | ((with_reducible refine gate_dst (N := 1) rfl ?_); refine bx_ 1 #[.slice A0_0 l0_0.length c0_0] 26 ?_; intro gb656 hg w5 hbox hb; have BK656 := Aside0.mk (hbox); have GW656 := gw_ hg HB; have GE656 := gw_ hg HB; replace HB := bo_ HB hb; clear hb hbox hg) | ((with_reducible refine gate_dst (N := 2) rfl ?_); refine bx_ 2 #[.slice none 0 0] 26 ?_; intro gb657 hg w6 hbox hb; have BK657 := Aside0.mk (hbox); have GW657 := gq_ hg (bq_ HB); have GE657 := gq_ hg (bq_ HB); replace HB := bp_ HB hb; have NB656_657 := nl_ hg BK656; have NB657_656 := ng_ hg BK656; replace BK656 := bk_ BK656 hb; clear hb hbox hg; have hnb7 := NB656_657.out; have hnc7 := NB657_656.out; have hcz8_0 := cz_ BK656; have hfz8_0 := blk_frozen BK656.out 0) | ((with_reducible refine gate_callee (f := 24) rfl ?_); refine gL_ (some 20) Try.func24 #[.agg #[.slice A0_0 l0_0.length c0_0]] ?_; (with_reducible refine (impl_IsSemigroup.calls k _ _ l0_0 true _ ?side1 ?side2 A2.out).mono ?_); (case side1 => exact ch_ HR0_0 HB); (case side2 => exact HC0_0.out); rintro e w9 ⟨rfl, hb⟩; refine ⟨_, rfl, ?_⟩; replace BK656 := bk_ BK656 hb; replace BK657 := bk_ BK657 hb; replace HB := bp_ HB hb; (try clear hb); have hcz10_0 := cz_ BK656; have hfz10_0 := blk_frozen BK656.out 0) | ((with_reducible refine gate_callee (f := 25) rfl ?_); refine gL_ (some 24) Try.func25 #[.agg #[.slice A0_0 l0_0.length c0_0], .int .i64 200] ?_; (with_reducible refine (impl_table.calls k _ _ l0_0 200 t659 _ ?side1 ?side2 A4.out).mono ?_); (case side1 => exact ch_ HR0_0 HB); (case side2 => exact HC0_0.out); rintro e w11 ⟨v660, rfl, ho0, hb⟩; refine ⟨_, rfl, ?_⟩; have HO661 := Aside0.mk (Kd.R_lower ho0 (below_size (bq_ HB))); replace BK656 := bk_ BK656 hb; replace BK657 := bk_ BK657 hb; replace HB := bp_ HB hb; (try clear hb); (try clear ho0)))
 go_loopg [5] k (fun kq v5 w' => ∃ (x4_1 : List Bool) (x5_1 : Bool), v5 = .bool x5_1 ∧ Aside0 (impl_ArfClosure.l0 kq x4_1 x5_1 = some (r1, r2)) ∧ Aside0 (kq ≤ k) ∧ Aside0 (Kd.R Kd.bool 4 w' w.heap.size (fun _ => True) v660 x4_1) ∧ Aside0 (w'.heap[gb656]? = some (.cells #[(.slice A0_0 l0_0.length c0_0)] 26 (0, 0))) ∧ Aside0 (w'.heap[gb657]? = some (.cells #[(.slice none 0 0)] 26 (0, 0))) ∧ Aside0 (Below w.heap.size w w'))
 case atStart => exact ⟨(t659), (true), rs_, H', ⟨Nat.le_refl _⟩, ⟨re_ HO661.out⟩, ⟨be_ BK656.out⟩, ⟨be_ BK657.out⟩, ⟨bq_ HB⟩⟩
 case round =>
  clear H'
  try clear hcz10_0
  try clear hcz8_0
  try clear hfz10_0
  try clear hfz8_0
  obtain ⟨x4_1, x5_1, rfl, HA, HK1, HO_4, BK656, BK657, HB⟩ := hrel
  cases gk with
  | zero => exact absurd HA.out (by simp [impl_ArfClosure.l0])
  | succ k1 =>
   have H := HA.out
   clear HA
   simp only [impl_ArfClosure.l0] at H
   by_cases c12 : x5_1 = true
   rotate_left
   · replace c12 := Bool.eq_false_iff.mpr c12
     subst c12
     rw [if_neg (show ¬ (false = true) by decide)] at H
     obtain ⟨y682, hy682⟩ : ∃ y_ : List Int, y_ = (([] : List Int)) := ⟨_, rfl⟩
     replace H : (impl_ArfClosure.l5 k1 y682 x4_1 (x4_1.length : Int) 0) = some (r1, r2) := by subst hy682; exact H
     have Ny682 := Aside0.mk hy682
     clear hy682
     have H' := Aside0.mk H
     clear H
     go_wp2_with (first | ((with_reducible refine gate_dst (N := 88) rfl ?_); refine Kd.R_lit (Kd.int .i64) _ 3 ?hg (N := 88) ?hd (xs := ([] : List Int)) (inner := []) (ok := fun _ => True) (okp := fun _ => True) ?hr ?hp (fun _ hk => hk) trivial (Below.refl _ _) (Nat.le_refl _) (by simp) ?_; (case hd => rfl); (case hg => rfl); (case hr => first | (go_simp; done) | (go_simp; rfl)); (case hp => exact (Reps.none _ _)); intro v683 w49 ho50 hb hg_ hnew_; clear hg_ hnew_; (first | rw [← Ny682.out] at ho50 | (simp only [Int.reduceToNat] at ho50; rw [← Ny682.out] at ho50)); replace HO_4 := Aside0.mk (Kd.R_below (re_ HO_4.out) hb); have HO684 := Aside0.mk (Kd.R_lower ho50 (below_size (bq_ HB))); replace BK656 := bk_ BK656 hb; replace BK657 := bk_ BK657 hb; replace HB := bp_ HB hb; clear hb ho50; obtain ⟨Ao51, co51, eo51⟩ := Kd.R_slice HO_4.out; subst eo51))
     go_loopg [16, 91] k1 (fun kq v16 v91 w' => ∃ (x16_2 : List Int) (x91_2 : Int), v91 = .int .i64 x91_2 ∧ Aside0 (impl_ArfClosure.l5 kq x16_2 x4_1 (x4_1.length : Int) x91_2 = some (r1, r2)) ∧ Aside0 (kq ≤ k1) ∧ Aside0 (Kd.R (Kd.int .i64) 3 w' w.heap.size (fun _ => True) v16 x16_2) ∧ Aside0 (Kd.R Kd.bool 4 w' w.heap.size (fun _ => True) (.slice Ao51 x4_1.length co51) x4_1) ∧ Aside0 (w'.heap[gb656]? = some (.cells #[(.slice A0_0 l0_0.length c0_0)] 26 (0, 0))) ∧ Aside0 (w'.heap[gb657]? = some (.cells #[(.slice none 0 0)] 26 (0, 0))) ∧ Aside0 (Below w.heap.size w w'))
     case atStart => exact ⟨(y682), (0), rs_, H', ⟨Nat.le_refl _⟩, ⟨re_ HO684.out⟩, ⟨re_ HO_4.out⟩, ⟨be_ BK656.out⟩, ⟨be_ BK657.out⟩, ⟨bq_ HB⟩⟩
     case round =>
      clear H'
      obtain ⟨x16_2, x91_2, rfl, HA, HK2, HO_16, HO_89, BK656, BK657, HB⟩ := hrel
      cases gk with
      | zero => exact absurd HA.out (by simp [impl_ArfClosure.l5])
      | succ k2 =>
       have H := HA.out
       clear HA
       simp only [impl_ArfClosure.l5] at H
       by_cases c52 : x91_2 < (x4_1.length : Int)
       rotate_left
       · rw [if_neg c52] at H
         have c52b0 : decide (x91_2 < (x4_1.length : Int)) = false := decide_eq_false c52
         clear c52
         obtain ⟨⟨t689, t692⟩, A59, H⟩ := ob_ H
         (try dsimp only at H)
         simp only [Option.some.injEq, Prod.mk.injEq] at H
         obtain ⟨rfl, rfl⟩ := H
         obtain ⟨Ao60, co60, eo60⟩ := Kd.R_slice HO_16.out
         subst eo60
         go_wp2_with (first | ((with_reducible refine gate_callee (f := 26) rfl ?_); refine gL_ (some 104) Try.func26 #[.slice Ao60 x16_2.length co60] ?_; (with_reducible refine (impl_FromGaps.calls k2 _ _ x16_2 t689 t692 _ ?side1 ?side2 A59.out).mono ?_); (case side1 => exact ce_ ((Kd.R_reads' HO_16.out).2.2)); (case side2 => exact (Kd.R_reads' HO_16.out).2.1); rintro e w61 ⟨v690, rfl, ho0, hb⟩; refine ⟨_, rfl, ?_⟩; replace HO_89 := Aside0.mk (Kd.R_below (re_ HO_89.out) hb); have HO691 := Aside0.mk (Kd.R_lower (Kd.R_new' ho0 (Kd.R_lt (re_ HO_16.out))) (below_size (bq_ HB))); replace HO_16 := Aside0.mk (Kd.R_elder' (re_ HO_16.out) (Kd.R_base ho0) hb); replace BK656 := bk_ BK656 hb; replace BK657 := bk_ BK657 hb; replace HB := bp_ HB hb; (try clear hb); (try clear ho0); obtain ⟨Ao62, co62, eo62⟩ := Kd.R_slice HO691.out; subst eo62; have hnb63 := NB657_656.out; have hnc63 := NB656_657.out; have hcz64_0 := cz_ BK657; have hfz64_0 := blk_frozen BK657.out 0))
         refine bodyPost_ret (results_ct rfl _ _ gb657 26 #[.slice Ao62 t689.length co62] (0, 0) _ rfl (bz_ BK657) Try.underlying26 rfl (by kernel_rfl)) rfl ?_
         exact ⟨_, rf_, by (with_reducible repeat (first | apply Kd.R_alloc | apply Kd.R_drewN | apply Kd.R_drew)); exact Kd.R_mono (Kd.R_far (p := ⟨gb657, 0, none⟩) (Kd.R_types HO691.out BK657.out (by decide)) (fun _ hk => hk.2) (.slice Ao62 t689.length co62)) (fun _ hk => trivial), bq_ HB⟩
       rw [if_pos c52] at H
       have c52b0 : decide (x91_2 < (x4_1.length : Int)) = true := decide_eq_true c52
       clear c52
       obtain ⟨c53b0, H⟩ := ipd_ H
       obtain ⟨c54b0, H⟩ := ipd_ H
       obtain ⟨bq55, hbq55⟩ : ∃ b_ : Bool, b_ = (rdOf false x4_1 x91_2) := ⟨_, rfl⟩
       replace H : (if bq55 = true then (impl_ArfClosure.l5 k2 x16_2 x4_1 (x4_1.length : Int) (wrap64 (x91_2 + 1))) else (if x16_2.length < 17592186044416 then (impl_ArfClosure.l5 k2 (x16_2 ++ [x91_2]) x4_1 (x4_1.length : Int) (wrap64 (x91_2 + 1))) else (none))) = some (r1, r2) := by rw [← hbq55] at H; exact H
       have Nbq55 := Aside0.mk hbq55
       clear hbq55
       by_cases c56 : bq55 = true
       · subst c56
         rw [if_pos rfl] at H
         have H' := Aside0.mk H
         clear H
         have p685 : 0 ≤ (x91_2 : Int) := od_
         have q685 : x91_2 < (x4_1.length : Int) := od_
         obtain ⟨ad685, e685, hx685_0⟩ := Kd.at_bool (Kd.R_reads' HO_89.out).2.2 x91_2 p685 q685
         (try rw [← Nbq55.out] at hx685_0)
         cases e685
         replace p685 := eq_true p685
         replace q685 := eq_true q685
         go_wp2
         go_roundg k2
         case measure => have := HK1.out; have := HK2.out; omega
         case rel => exact ⟨(x16_2), (wrap64 (x91_2 + 1)), rs_, H', ⟨by have := HK1.out; have := HK2.out; omega⟩, ⟨re_ HO_16.out⟩, ⟨re_ HO_89.out⟩, ⟨be_ BK656.out⟩, ⟨be_ BK657.out⟩, ⟨bq_ HB⟩⟩
       replace c56 := Bool.eq_false_iff.mpr c56
       subst c56
       rw [if_neg (show ¬ (false = true) by decide)] at H
       obtain ⟨c57, H⟩ := ip_ H
       have LMc57 := Aside0.mk c57
       clear c57
       obtain ⟨y686, hy686⟩ : ∃ y_ : List Int, y_ = (x16_2 ++ [x91_2]) := ⟨_, rfl⟩
       replace H : (impl_ArfClosure.l5 k2 y686 x4_1 (x4_1.length : Int) (wrap64 (x91_2 + 1))) = some (r1, r2) := by subst hy686; exact H
       have Ny686 := Aside0.mk hy686
       clear hy686
       have H' := Aside0.mk H
       clear H
       have p685 : 0 ≤ (x91_2 : Int) := od_
       have q685 : x91_2 < (x4_1.length : Int) := od_
       obtain ⟨ad685, e685, hx685_0⟩ := Kd.at_bool (Kd.R_reads' HO_89.out).2.2 x91_2 p685 q685
       (try rw [← Nbq55.out] at hx685_0)
       cases e685
       replace p685 := eq_true p685
       replace q685 := eq_true q685
       go_wp2_with (first | ((with_reducible refine gate_builtin (b := .append) (xs := #[.tmp 98, .tmp 100]) rfl ?_); at_builtin; refine Kd.R_append (Kd.int .i64) (w0 := w) w.heap.size rfl (.tmp 98) (.tmp 100) 24 3 (.int .i64 0) 8 rfl Try.underlying24 info3 rfl (by decide) (by omega) u16 x16_2 x91_2 [.int .i64 x91_2] (fun _ => True) (fun _ => False) rfl rfl ?aP (fun _ hk => hk.elim) ?aF ?aO ?aB ?aS ?aL ?_; (case aP => exact rfl); (case aB => exact (bq_ HB)); (case aF => exact (fun _ _ => trivial)); (case aO => exact (re_ HO_16.out)); (case aS => exact (below_size (bq_ HB))); (case aL => have := LMc57.out; omega); intro v687 w58 ho hb hg hat; rw [← Ny686.out] at ho; replace HO_89 := Aside0.mk (Kd.R_over' (re_ HO_89.out) (Kd.R_typed (re_ HO_16.out)) (by decide) hg); replace BK656 := Aside0.mk (blk_grown (be_ BK656.out) hg (Kd.R_ne HO_16.out BK656.out (by decide))); replace BK657 := Aside0.mk (blk_grown (be_ BK657.out) hg (Kd.R_ne HO_16.out BK657.out (by decide))); replace HB := Aside0.mk (hb); have HO688 := Aside0.mk (ho); clear HO_16; clear ho hb hg hat))
       go_roundg k2
       case measure => have := HK1.out; have := HK2.out; omega
       case rel => exact ⟨(y686), (wrap64 (x91_2 + 1)), rs_, H', ⟨by have := HK1.out; have := HK2.out; omega⟩, ⟨re_ HO688.out⟩, ⟨re_ HO_89.out⟩, ⟨be_ BK656.out⟩, ⟨be_ BK657.out⟩, ⟨bq_ HB⟩⟩
   subst c12
   rw [if_pos rfl] at H
   obtain ⟨y662, hy662⟩ : ∃ y_ : List Int, y_ = (([] : List Int)) := ⟨_, rfl⟩
   replace H : (impl_ArfClosure.l1 k1 x4_1 false y662 x4_1 (x4_1.length : Int) 0) = some (r1, r2) := by subst hy662; exact H
   have Ny662 := Aside0.mk hy662
   clear hy662
   have H' := Aside0.mk H
   clear H
   go_wp2_with (first | ((with_reducible refine gate_dst (N := 26) rfl ?_); refine Kd.R_lit (Kd.int .i64) _ 3 ?hg (N := 26) ?hd (xs := ([] : List Int)) (inner := []) (ok := fun _ => True) (okp := fun _ => True) ?hr ?hp (fun _ hk => hk) trivial (Below.refl _ _) (Nat.le_refl _) (by simp) ?_; (case hd => rfl); (case hg => rfl); (case hr => first | (go_simp; done) | (go_simp; rfl)); (case hp => exact (Reps.none _ _)); intro v663 w13 ho14 hb hg_ hnew_; clear hg_ hnew_; (first | rw [← Ny662.out] at ho14 | (simp only [Int.reduceToNat] at ho14; rw [← Ny662.out] at ho14)); replace HO_4 := Aside0.mk (Kd.R_below (re_ HO_4.out) hb); have HO664 := Aside0.mk (Kd.R_lower ho14 (below_size (bq_ HB))); replace BK656 := bk_ BK656 hb; replace BK657 := bk_ BK657 hb; replace HB := bp_ HB hb; clear hb ho14; obtain ⟨Ao15, co15, eo15⟩ := Kd.R_slice HO_4.out; subst eo15))
   go_loopg [6, 29] k1 (fun kq v6 v29 w' => ∃ (x6_2 : List Int) (x29_2 : Int), v29 = .int .i64 x29_2 ∧ Aside0 (impl_ArfClosure.l1 kq x4_1 false x6_2 x4_1 (x4_1.length : Int) x29_2 = some (r1, r2)) ∧ Aside0 (kq ≤ k1) ∧ Aside0 (Kd.R Kd.bool 4 w' w.heap.size (fun _ => True) (.slice Ao15 x4_1.length co15) x4_1) ∧ Aside0 (Kd.R (Kd.int .i64) 3 w' w.heap.size (fun _ => True) v6 x6_2) ∧ Aside0 (Kd.R Kd.bool 4 w' w.heap.size (fun _ => True) (.slice Ao15 x4_1.length co15) x4_1) ∧ Aside0 (w'.heap[gb656]? = some (.cells #[(.slice A0_0 l0_0.length c0_0)] 26 (0, 0))) ∧ Aside0 (w'.heap[gb657]? = some (.cells #[(.slice none 0 0)] 26 (0, 0))) ∧ Aside0 (Below w.heap.size w w'))
   case atStart => exact ⟨(y662), (0), rs_, H', ⟨Nat.le_refl _⟩, ⟨re_ HO_4.out⟩, ⟨re_ HO664.out⟩, ⟨re_ HO_4.out⟩, ⟨be_ BK656.out⟩, ⟨be_ BK657.out⟩, ⟨bq_ HB⟩⟩
   case round =>
    clear H'
    obtain ⟨x6_2, x29_2, rfl, HA, HK2, HO_4, HO_6, HO_27, BK656, BK657, HB⟩ := hrel
    cases gk with
    | zero => exact absurd HA.out (by simp [impl_ArfClosure.l1])
    | succ k2 =>
     have H := HA.out
     clear HA
     simp only [impl_ArfClosure.l1] at H
     by_cases c16 : x29_2 < (x4_1.length : Int)
     · rw [if_pos c16] at H
       have c16b0 : decide (x29_2 < (x4_1.length : Int)) = true := decide_eq_true c16
       clear c16
       obtain ⟨c17b0, H⟩ := ipd_ H
       obtain ⟨c18b0, H⟩ := ipd_ H
       obtain ⟨bq19, hbq19⟩ : ∃ b_ : Bool, b_ = (rdOf false x4_1 x29_2) := ⟨_, rfl⟩
       replace H : (if bq19 = true then (if x6_2.length < 17592186044416 then (impl_ArfClosure.l1 k2 x4_1 false (x6_2 ++ [x29_2]) x4_1 (x4_1.length : Int) (wrap64 (x29_2 + 1))) else (none)) else (impl_ArfClosure.l1 k2 x4_1 false x6_2 x4_1 (x4_1.length : Int) (wrap64 (x29_2 + 1)))) = some (r1, r2) := by rw [← hbq19] at H; exact H
       have Nbq19 := Aside0.mk hbq19
       clear hbq19
       by_cases c20 : bq19 = true
       rotate_left
       · replace c20 := Bool.eq_false_iff.mpr c20
         subst c20
         rw [if_neg (show ¬ (false = true) by decide)] at H
         have H' := Aside0.mk H
         clear H
         have p665 : 0 ≤ (x29_2 : Int) := od_
         have q665 : x29_2 < (x4_1.length : Int) := od_
         obtain ⟨ad665, e665, hx665_0⟩ := Kd.at_bool (Kd.R_reads' HO_27.out).2.2 x29_2 p665 q665
         (try rw [← Nbq19.out] at hx665_0)
         cases e665
         replace p665 := eq_true p665
         replace q665 := eq_true q665
         go_wp2
         go_roundg k2
         case measure => have := HK1.out; have := HK2.out; omega
         case rel => exact ⟨(x6_2), (wrap64 (x29_2 + 1)), rs_, H', ⟨by have := HK1.out; have := HK2.out; omega⟩, ⟨re_ HO_4.out⟩, ⟨re_ HO_6.out⟩, ⟨re_ HO_27.out⟩, ⟨be_ BK656.out⟩, ⟨be_ BK657.out⟩, ⟨bq_ HB⟩⟩
       subst c20
       rw [if_pos rfl] at H
       obtain ⟨c21, H⟩ := ip_ H
       have LMc21 := Aside0.mk c21
       clear c21
       obtain ⟨y666, hy666⟩ : ∃ y_ : List Int, y_ = (x6_2 ++ [x29_2]) := ⟨_, rfl⟩
       replace H : (impl_ArfClosure.l1 k2 x4_1 false y666 x4_1 (x4_1.length : Int) (wrap64 (x29_2 + 1))) = some (r1, r2) := by subst hy666; exact H
       have Ny666 := Aside0.mk hy666
       clear hy666
       have H' := Aside0.mk H
       clear H
       have p665 : 0 ≤ (x29_2 : Int) := od_
       have q665 : x29_2 < (x4_1.length : Int) := od_
       obtain ⟨ad665, e665, hx665_0⟩ := Kd.at_bool (Kd.R_reads' HO_27.out).2.2 x29_2 p665 q665
       (try rw [← Nbq19.out] at hx665_0)
       cases e665
       replace p665 := eq_true p665
       replace q665 := eq_true q665
       go_wp2_with (first | ((with_reducible refine gate_builtin (b := .append) (xs := #[.tmp 35, .tmp 37]) rfl ?_); at_builtin; refine Kd.R_append (Kd.int .i64) (w0 := w) w.heap.size rfl (.tmp 35) (.tmp 37) 24 3 (.int .i64 0) 8 rfl Try.underlying24 info3 rfl (by decide) (by omega) u6 x6_2 x29_2 [.int .i64 x29_2] (fun _ => True) (fun _ => False) rfl rfl ?aP (fun _ hk => hk.elim) ?aF ?aO ?aB ?aS ?aL ?_; (case aP => exact rfl); (case aB => exact (bq_ HB)); (case aF => exact (fun _ _ => trivial)); (case aO => exact (re_ HO_6.out)); (case aS => exact (below_size (bq_ HB))); (case aL => have := LMc21.out; omega); intro v667 w22 ho hb hg hat; rw [← Ny666.out] at ho; replace HO_4 := Aside0.mk (Kd.R_over' (re_ HO_4.out) (Kd.R_typed (re_ HO_6.out)) (by decide) hg); replace HO_27 := Aside0.mk (Kd.R_over' (re_ HO_27.out) (Kd.R_typed (re_ HO_6.out)) (by decide) hg); replace BK656 := Aside0.mk (blk_grown (be_ BK656.out) hg (Kd.R_ne HO_6.out BK656.out (by decide))); replace BK657 := Aside0.mk (blk_grown (be_ BK657.out) hg (Kd.R_ne HO_6.out BK657.out (by decide))); replace HB := Aside0.mk (hb); have HO668 := Aside0.mk (ho); clear HO_6; clear ho hb hg hat))
       go_roundg k2
       case measure => have := HK1.out; have := HK2.out; omega
       case rel => exact ⟨(y666), (wrap64 (x29_2 + 1)), rs_, H', ⟨by have := HK1.out; have := HK2.out; omega⟩, ⟨re_ HO_4.out⟩, ⟨re_ HO668.out⟩, ⟨re_ HO_27.out⟩, ⟨be_ BK656.out⟩, ⟨be_ BK657.out⟩, ⟨bq_ HB⟩⟩
     rw [if_neg c16] at H
     have c16b0 : decide (x29_2 < (x4_1.length : Int)) = false := decide_eq_false c16
     clear c16
     have H' := Aside0.mk H
     clear H
     obtain ⟨Ao23, co23, eo23⟩ := Kd.R_slice HO_6.out
     subst eo23
     go_wp2
     go_loopg [5, 42] k2 (fun kq v5 v42 w' => ∃ (x4_3 : List Bool) (x5_3 : Bool) (x42_3 : Int), v5 = .bool x5_3 ∧ v42 = .int .i64 x42_3 ∧ Aside0 (impl_ArfClosure.l2 kq x4_3 x5_3 x6_2 x6_2 (x6_2.length : Int) x42_3 = some (r1, r2)) ∧ Aside0 (kq ≤ k2) ∧ Aside0 (Kd.R Kd.bool 4 w' w.heap.size (fun _ => True) (.slice Ao15 x4_1.length co15) x4_3) ∧ Aside0 (Kd.R (Kd.int .i64) 3 w' w.heap.size (fun _ => True) (.slice Ao23 x6_2.length co23) x6_2) ∧ Aside0 (Kd.R (Kd.int .i64) 3 w' w.heap.size (fun _ => True) (.slice Ao23 x6_2.length co23) x6_2) ∧ Aside0 (w'.heap[gb656]? = some (.cells #[(.slice A0_0 l0_0.length c0_0)] 26 (0, 0))) ∧ Aside0 (w'.heap[gb657]? = some (.cells #[(.slice none 0 0)] 26 (0, 0))) ∧ Aside0 (Below w.heap.size w w'))
     case atStart => exact ⟨(x4_1), (false), (0), rs_, rs_, H', ⟨Nat.le_refl _⟩, ⟨re_ HO_4.out⟩, ⟨re_ HO_6.out⟩, ⟨re_ HO_6.out⟩, ⟨be_ BK656.out⟩, ⟨be_ BK657.out⟩, ⟨bq_ HB⟩⟩
     case round =>
      clear H'
      try clear c16b0
      obtain ⟨x4_3, x5_3, x42_3, rfl, rfl, HA, HK3, HO_4, HO_6, HO_40, BK656, BK657, HB⟩ := hrel
      have hl4_3 := (Kd.R_reads' HO_4.out).1
      rw [hl4_3] at HO_4
      (try simp only [hl4_3])
      (try simp only [hl4_3] at BK656)
      (try simp only [hl4_3] at BK657)
      (try simp only [hl4_3] at HO_6)
      (try simp only [hl4_3] at HO_40)
      cases gk with
      | zero => exact absurd HA.out (by simp [impl_ArfClosure.l2])
      | succ k3 =>
       have H := HA.out
       clear HA
       simp only [impl_ArfClosure.l2] at H
       by_cases c24 : x42_3 < (x6_2.length : Int)
       rotate_left
       · rw [if_neg c24] at H
         have c24b0 : decide (x42_3 < (x6_2.length : Int)) = false := decide_eq_false c24
         (try (have c24h := c24b0; simp only [hl4_3] at c24h))
         clear c24
         have H' := Aside0.mk H
         clear H
         go_wp2
         (try simp only [← hl4_3])
         go_roundg k3
         case measure => have := HK1.out; have := HK2.out; have := HK3.out; omega
         case rel => exact ⟨(x4_3), (x5_3), rs_, H', ⟨by have := HK1.out; have := HK2.out; have := HK3.out; omega⟩, ⟨by (try simp only [hl4_3]); (with_reducible repeat (first | apply Kd.R_alloc | apply Kd.R_drewN | apply Kd.R_drew)); exact HO_4.out⟩, ⟨by (try simp only [hl4_3]); exact ba_ BK656⟩, ⟨by (try simp only [hl4_3]); exact ba_ BK657⟩, ⟨bq_ HB⟩⟩
       rw [if_pos c24] at H
       have c24b0 : decide (x42_3 < (x6_2.length : Int)) = true := decide_eq_true c24
       (try (have c24h := c24b0; simp only [hl4_3] at c24h))
       clear c24
       obtain ⟨c25b0, H⟩ := ipd_ H
       obtain ⟨c26, H⟩ := ip_ H
       have c26b0 : decide (x42_3 < (x6_2.length : Int)) = true := decide_eq_true c26
       (try (have c26h := c26b0; simp only [hl4_3] at c26h))
       clear c26
       obtain ⟨ji27, hji27⟩ : ∃ j_ : Int, (wrap64 (x42_3 + 1)) = j_ := ⟨_, rfl⟩
       replace H : (if 0 ≤ (ji27) then (if (ji27) ≤ (x6_2.length : Int) then ((some (x6_2.take ((ji27) : Int).toNat : List Int)).bind fun y670 => (impl_ArfClosure.l3 k3 x4_3 x5_3 x6_2 (rd x6_2 x42_3) x6_2 (x6_2.length : Int) x42_3 y670 (y670.length : Int) 0)) else (none)) else (none)) = some (r1, r2) := by first | (rw [hji27] at H; exact H) | (simp only [hji27] at H ⊢; exact H)
       have hji27w : (IntKind.i64.wrap (x42_3 + 1)) = ji27 := (i64_w _).trans hji27
       obtain ⟨c28, H⟩ := ip_ H
       have c28b0 := eq_true c28
       have c28b1 : decide (0 ≤ (ji27)) = true := decide_eq_true c28
       clear c28
       obtain ⟨c29, H⟩ := ip_ H
       have c29b0 := eq_true c29
       have c29b1 : decide ((ji27) ≤ (x6_2.length : Int)) = true := decide_eq_true c29
       clear c29
       obtain ⟨y670, hy670⟩ : ∃ y_ : List Int, y_ = (x6_2.take ((ji27) : Int).toNat) := ⟨_, rfl⟩
       replace H : (impl_ArfClosure.l3 k3 x4_3 x5_3 x6_2 (rd x6_2 x42_3) x6_2 (x6_2.length : Int) x42_3 y670 (y670.length : Int) 0) = some (r1, r2) := by subst hy670; exact H
       have Ny670 := Aside0.mk hy670
       clear hy670
       have H' := Aside0.mk H
       clear H
       have p669 : 0 ≤ (x42_3 : Int) := od_
       have q669 : x42_3 < (x6_2.length : Int) := od_
       obtain ⟨ad669, e669, hx669_0⟩ := Kd.at_int (Kd.R_reads' HO_40.out).2.2 x42_3 p669 q669
       cases e669
       replace p669 := eq_true p669
       replace q669 := eq_true q669
       have q30 : ((ji27) : Int) ≤ ((x6_2.length : Int) : Int) := od_
       obtain ⟨i030, hi030, _, hsz30, _⟩ := info_parts info3
       have hroom30 : x6_2.length ≤ co23 := (Kd.R_reads' HO_6.out).2.1
       have hC30 : Kd.C (Kd.int .i64) _ (some ad669) x6_2.length x6_2 := (Kd.R_reads' HO_6.out).2.2
       have hcut30 := cut_to (P := Try.prog) 24 3 .i64 Try.underlying24 hi030 (some ad669) x6_2.length co23 (ji27) (od_) q30 hroom30
       have hr30 := Kd.C_take (m := ((ji27) : Int).toNat) hC30 (by omega)
       have hy30 : y670.length = ((ji27) : Int).toNat := (by rw [Ny670.out, List.length_take]; omega)
       rw [← Ny670.out] at hr30
       rw [← hy30] at hcut30
       have HR673 := Aside0.mk hr30
       have HC673 := Aside0.mk (show y670.length ≤ co23 from by omega)
       clear hr30 hC30 hroom30 hi030 hsz30
       have KY30 := Aside0.mk hy30
       clear hy30
       have KL30 := Aside0.mk (show ((ji27) : Int).toNat ≤ x6_2.length from by omega)
       replace q30 := eq_true q30
       go_wp2
       go_loopg [5, 52] k3 (fun kq v5 v52 w' => ∃ (x4_4 : List Bool) (x5_4 : Bool) (x52_4 : Int), v5 = .bool x5_4 ∧ v52 = .int .i64 x52_4 ∧ Aside0 (impl_ArfClosure.l3 kq x4_4 x5_4 x6_2 (rd x6_2 x42_3) x6_2 (x6_2.length : Int) x42_3 y670 (y670.length : Int) x52_4 = some (r1, r2)) ∧ Aside0 (kq ≤ k3) ∧ Aside0 (Kd.R Kd.bool 4 w' w.heap.size (fun _ => True) (.slice Ao15 x4_3.length co15) x4_4) ∧ Aside0 (Kd.R (Kd.int .i64) 3 w' w.heap.size (fun _ => True) (.slice (some ad669) x6_2.length co23) x6_2) ∧ Aside0 (Kd.R (Kd.int .i64) 3 w' w.heap.size (fun _ => True) (.slice (some ad669) x6_2.length co23) x6_2) ∧ Aside0 (w'.heap[gb656]? = some (.cells #[(.slice A0_0 l0_0.length c0_0)] 26 (0, 0))) ∧ Aside0 (w'.heap[gb657]? = some (.cells #[(.slice none 0 0)] 26 (0, 0))) ∧ Aside0 (Kd.C (Kd.int .i64) w' (some ad669) y670.length y670) ∧ Aside0 (Below w.heap.size w w'))
       case atStart => exact ⟨(x4_3), (x5_3), (0), rs_, rs_, H', ⟨Nat.le_refl _⟩, ⟨by (try simp only [hl4_3]); (with_reducible repeat (first | apply Kd.R_alloc | apply Kd.R_drewN | apply Kd.R_drew)); exact HO_4.out⟩, ⟨by (try simp only [hl4_3]); (with_reducible repeat (first | apply Kd.R_alloc | apply Kd.R_drewN | apply Kd.R_drew)); exact HO_6.out⟩, ⟨by (try simp only [hl4_3]); (with_reducible repeat (first | apply Kd.R_alloc | apply Kd.R_drewN | apply Kd.R_drew)); exact HO_40.out⟩, ⟨by (try simp only [hl4_3]); exact ba_ BK656⟩, ⟨by (try simp only [hl4_3]); exact ba_ BK657⟩, ⟨by repeat (first | (with_reducible exact HR673.out) | (with_reducible refine Kd.C_alloc ?_ _) | (with_reducible refine Kd.C_drewN ?_ _) | (with_reducible refine Kd.C_drew ?_) | exact HR673.out)⟩, ⟨bq_ HB⟩⟩
       case round =>
        clear H'
        try clear c24b0
        try clear c25b0
        try clear c26b0
        try clear c28b0
        try clear c28b1
        try clear c29b0
        try clear c29b1
        try clear q30
        try clear hx669_0
        try clear p669
        try clear q669
        obtain ⟨x4_4, x5_4, x52_4, rfl, rfl, HA, HK4, HO_4, HO_6, HO_40, BK656, BK657, HR673, HB⟩ := hrel
        have hl4_4 := (Kd.R_reads' HO_4.out).1
        rw [hl4_4] at HO_4
        (try simp only [hl4_4])
        (try simp only [hl4_4] at BK656)
        (try simp only [hl4_4] at BK657)
        (try simp only [hl4_4] at HO_6)
        (try simp only [hl4_4] at HO_40)
        cases gk with
        | zero => exact absurd HA.out (by simp [impl_ArfClosure.l3])
        | succ k4 =>
         have H := HA.out
         clear HA
         simp only [impl_ArfClosure.l3] at H
         by_cases c31 : x52_4 < (y670.length : Int)
         rotate_left
         · rw [if_neg c31] at H
           have c31b0 : decide (x52_4 < (y670.length : Int)) = false := decide_eq_false c31
           (try (have c31h := c31b0; simp only [hl4_3, hl4_4] at c31h))
           clear c31
           have H' := Aside0.mk H
           clear H
           go_wp2
           (try simp only [← hl4_3, ← hl4_4])
           go_roundg k4
           case measure => have := HK1.out; have := HK2.out; have := HK3.out; have := HK4.out; omega
           case rel => exact ⟨(x4_4), (x5_4), (wrap64 (x42_3 + 1)), rs_, rs_, H', ⟨by have := HK1.out; have := HK2.out; have := HK3.out; have := HK4.out; omega⟩, ⟨by (try simp only [hl4_3]); (try simp only [hl4_4]); (with_reducible repeat (first | apply Kd.R_alloc | apply Kd.R_drewN | apply Kd.R_drew)); exact HO_4.out⟩, ⟨by (try simp only [hl4_3]); (try simp only [hl4_4]); (with_reducible repeat (first | apply Kd.R_alloc | apply Kd.R_drewN | apply Kd.R_drew)); exact HO_6.out⟩, ⟨by (try simp only [hl4_3]); (try simp only [hl4_4]); (with_reducible repeat (first | apply Kd.R_alloc | apply Kd.R_drewN | apply Kd.R_drew)); exact HO_40.out⟩, ⟨by (try simp only [hl4_3]); (try simp only [hl4_4]); exact ba_ BK656⟩, ⟨by (try simp only [hl4_3]); (try simp only [hl4_4]); exact ba_ BK657⟩, ⟨bq_ HB⟩⟩
         rw [if_pos c31] at H
         have c31b0 : decide (x52_4 < (y670.length : Int)) = true := decide_eq_true c31
         (try (have c31h := c31b0; simp only [hl4_3, hl4_4] at c31h))
         clear c31
         obtain ⟨c32b0, H⟩ := ipd_ H
         obtain ⟨c33, H⟩ := ip_ H
         have c33b0 : decide (x52_4 < (y670.length : Int)) = true := decide_eq_true c33
         (try (have c33h := c33b0; simp only [hl4_3, hl4_4] at c33h))
         clear c33
         obtain ⟨ji34, hji34⟩ : ∃ j_ : Int, (wrap64 (x52_4 + 1)) = j_ := ⟨_, rfl⟩
         replace H : (if 0 ≤ (ji34) then (if (ji34) ≤ (x6_2.length : Int) then ((some (x6_2.take ((ji34) : Int).toNat : List Int)).bind fun y675 => (impl_ArfClosure.l4 k4 x4_4 x5_4 x6_2 (rd x6_2 x42_3) (rd y670 x52_4) x6_2 (x6_2.length : Int) x42_3 y670 (y670.length : Int) x52_4 y675 (y675.length : Int) 0)) else (none)) else (none)) = some (r1, r2) := by first | (rw [hji34] at H; exact H) | (simp only [hji34] at H ⊢; exact H)
         have hji34w : (IntKind.i64.wrap (x52_4 + 1)) = ji34 := (i64_w _).trans hji34
         obtain ⟨c35, H⟩ := ip_ H
         have c35b0 := eq_true c35
         have c35b1 : decide (0 ≤ (ji34)) = true := decide_eq_true c35
         clear c35
         obtain ⟨c36, H⟩ := ip_ H
         have c36b0 := eq_true c36
         have c36b1 : decide ((ji34) ≤ (x6_2.length : Int)) = true := decide_eq_true c36
         clear c36
         obtain ⟨y675, hy675⟩ : ∃ y_ : List Int, y_ = (x6_2.take ((ji34) : Int).toNat) := ⟨_, rfl⟩
         replace H : (impl_ArfClosure.l4 k4 x4_4 x5_4 x6_2 (rd x6_2 x42_3) (rd y670 x52_4) x6_2 (x6_2.length : Int) x42_3 y670 (y670.length : Int) x52_4 y675 (y675.length : Int) 0) = some (r1, r2) := by subst hy675; exact H
         have Ny675 := Aside0.mk hy675
         clear hy675
         have H' := Aside0.mk H
         clear H
         have p674 : 0 ≤ (x52_4 : Int) := od_
         have q674 : x52_4 < (y670.length : Int) := od_
         obtain ⟨ad674, e674, hx674_0⟩ := Kd.at_int HR673.out x52_4 p674 q674
         obtain rfl : ad669 = ad674 := (by injection e674)
         (try replace hx674_0 := (HB.out.cell (World.block_lt_of_cell? w _ hx674_0)).trans hx674_0)
         replace p674 := eq_true p674
         replace q674 := eq_true q674
         have q37 : ((ji34) : Int) ≤ ((x6_2.length : Int) : Int) := od_
         obtain ⟨i037, hi037, _, hsz37, _⟩ := info_parts info3
         have hroom37 : x6_2.length ≤ co23 := (Kd.R_reads' HO_6.out).2.1
         have hC37 : Kd.C (Kd.int .i64) _ (some ad669) x6_2.length x6_2 := (Kd.R_reads' HO_6.out).2.2
         have hcut37 := cut_to (P := Try.prog) 24 3 .i64 Try.underlying24 hi037 (some ad669) x6_2.length co23 (ji34) (od_) q37 hroom37
         have hr37 := Kd.C_take (m := ((ji34) : Int).toNat) hC37 (by omega)
         have hy37 : y675.length = ((ji34) : Int).toNat := (by rw [Ny675.out, List.length_take]; omega)
         rw [← Ny675.out] at hr37
         rw [← hy37] at hcut37
         have HR678 := Aside0.mk hr37
         have HC678 := Aside0.mk (show y675.length ≤ co23 from by omega)
         clear hr37 hC37 hroom37 hi037 hsz37
         have KY37 := Aside0.mk hy37
         clear hy37
         have KL37 := Aside0.mk (show ((ji34) : Int).toNat ≤ x6_2.length from by omega)
         replace q37 := eq_true q37
         go_wp2
         go_loopg [5, 62] k4 (fun kq v5 v62 w' => ∃ (x4_5 : List Bool) (x5_5 : Bool) (x62_5 : Int), v5 = .bool x5_5 ∧ v62 = .int .i64 x62_5 ∧ Aside0 (impl_ArfClosure.l4 kq x4_5 x5_5 x6_2 (rd x6_2 x42_3) (rd y670 x52_4) x6_2 (x6_2.length : Int) x42_3 y670 (y670.length : Int) x52_4 y675 (y675.length : Int) x62_5 = some (r1, r2)) ∧ Aside0 (kq ≤ k4) ∧ Aside0 (Kd.R Kd.bool 4 w' w.heap.size (fun _ => True) (.slice Ao15 x4_4.length co15) x4_5) ∧ Aside0 (Kd.R (Kd.int .i64) 3 w' w.heap.size (fun _ => True) (.slice (some ad669) x6_2.length co23) x6_2) ∧ Aside0 (Kd.R (Kd.int .i64) 3 w' w.heap.size (fun _ => True) (.slice (some ad669) x6_2.length co23) x6_2) ∧ Aside0 (w'.heap[gb656]? = some (.cells #[(.slice A0_0 l0_0.length c0_0)] 26 (0, 0))) ∧ Aside0 (w'.heap[gb657]? = some (.cells #[(.slice none 0 0)] 26 (0, 0))) ∧ Aside0 (Kd.C (Kd.int .i64) w' (some ad669) y670.length y670) ∧ Aside0 (Kd.C (Kd.int .i64) w' (some ad669) y675.length y675) ∧ Aside0 (Below w.heap.size w w'))
         case atStart => exact ⟨(x4_4), (x5_4), (0), rs_, rs_, H', ⟨Nat.le_refl _⟩, ⟨by (try simp only [hl4_3]); (try simp only [hl4_4]); (with_reducible repeat (first | apply Kd.R_alloc | apply Kd.R_drewN | apply Kd.R_drew)); exact HO_4.out⟩, ⟨by (try simp only [hl4_3]); (try simp only [hl4_4]); (with_reducible repeat (first | apply Kd.R_alloc | apply Kd.R_drewN | apply Kd.R_drew)); exact HO_6.out⟩, ⟨by (try simp only [hl4_3]); (try simp only [hl4_4]); (with_reducible repeat (first | apply Kd.R_alloc | apply Kd.R_drewN | apply Kd.R_drew)); exact HO_40.out⟩, ⟨by (try simp only [hl4_3]); (try simp only [hl4_4]); exact ba_ BK656⟩, ⟨by (try simp only [hl4_3]); (try simp only [hl4_4]); exact ba_ BK657⟩, ⟨by repeat (first | (with_reducible exact HR673.out) | (with_reducible refine Kd.C_alloc ?_ _) | (with_reducible refine Kd.C_drewN ?_ _) | (with_reducible refine Kd.C_drew ?_) | exact HR673.out)⟩, ⟨by repeat (first | (with_reducible exact HR678.out) | (with_reducible refine Kd.C_alloc ?_ _) | (with_reducible refine Kd.C_drewN ?_ _) | (with_reducible refine Kd.C_drew ?_) | exact HR678.out)⟩, ⟨bq_ HB⟩⟩
         case round =>
          clear H'
          try clear c31b0
          try clear c32b0
          try clear c33b0
          try clear c35b0
          try clear c35b1
          try clear c36b0
          try clear c36b1
          try clear q37
          try clear hx674_0
          try clear p674
          try clear q674
          obtain ⟨x4_5, x5_5, x62_5, rfl, rfl, HA, HK5, HO_4, HO_6, HO_40, BK656, BK657, HR673, HR678, HB⟩ := hrel
          have hl4_5 := (Kd.R_reads' HO_4.out).1
          rw [hl4_5] at HO_4
          (try simp only [hl4_5])
          (try simp only [hl4_5] at BK656)
          (try simp only [hl4_5] at BK657)
          (try simp only [hl4_5] at HO_6)
          (try simp only [hl4_5] at HO_40)
          cases gk with
          | zero => exact absurd HA.out (by simp [impl_ArfClosure.l4])
          | succ k5 =>
           have H := HA.out
           clear HA
           simp only [impl_ArfClosure.l4] at H
           by_cases c38 : x62_5 < (y675.length : Int)
           rotate_left
           · rw [if_neg c38] at H
             have c38b0 : decide (x62_5 < (y675.length : Int)) = false := decide_eq_false c38
             (try (have c38h := c38b0; simp only [hl4_3, hl4_4, hl4_5] at c38h))
             clear c38
             have H' := Aside0.mk H
             clear H
             go_wp2
             (try simp only [← hl4_4, ← hl4_5])
             go_roundg k5
             case measure => have := HK1.out; have := HK2.out; have := HK3.out; have := HK4.out; have := HK5.out; omega
             case rel => exact ⟨(x4_5), (x5_5), (wrap64 (x52_4 + 1)), rs_, rs_, H', ⟨by have := HK1.out; have := HK2.out; have := HK3.out; have := HK4.out; have := HK5.out; omega⟩, ⟨by (try simp only [hl4_3]); (try simp only [hl4_4]); (try simp only [hl4_5]); (with_reducible repeat (first | apply Kd.R_alloc | apply Kd.R_drewN | apply Kd.R_drew)); exact HO_4.out⟩, ⟨by (try simp only [hl4_3]); (try simp only [hl4_4]); (try simp only [hl4_5]); (with_reducible repeat (first | apply Kd.R_alloc | apply Kd.R_drewN | apply Kd.R_drew)); exact HO_6.out⟩, ⟨by (try simp only [hl4_3]); (try simp only [hl4_4]); (try simp only [hl4_5]); (with_reducible repeat (first | apply Kd.R_alloc | apply Kd.R_drewN | apply Kd.R_drew)); exact HO_40.out⟩, ⟨by (try simp only [hl4_3]); (try simp only [hl4_4]); (try simp only [hl4_5]); exact ba_ BK656⟩, ⟨by (try simp only [hl4_3]); (try simp only [hl4_4]); (try simp only [hl4_5]); exact ba_ BK657⟩, ⟨by repeat (first | (with_reducible exact HR673.out) | (with_reducible refine Kd.C_alloc ?_ _) | (with_reducible refine Kd.C_drewN ?_ _) | (with_reducible refine Kd.C_drew ?_) | exact HR673.out)⟩, ⟨bq_ HB⟩⟩
           rw [if_pos c38] at H
           have c38b0 : decide (x62_5 < (y675.length : Int)) = true := decide_eq_true c38
           (try (have c38h := c38b0; simp only [hl4_3, hl4_4, hl4_5] at c38h))
           clear c38
           obtain ⟨c39b0, H⟩ := ipd_ H
           obtain ⟨c40, H⟩ := ip_ H
           have c40b0 : decide (x62_5 < (y675.length : Int)) = true := decide_eq_true c40
           (try (have c40h := c40b0; simp only [hl4_3, hl4_4, hl4_5] at c40h))
           clear c40
           by_cases c41 : (wrap64 ((wrap64 ((rd x6_2 x42_3) + (rd y670 x52_4))) - (rd y675 x62_5))) < (x4_5.length : Int)
           rotate_left
           · rw [if_neg c41] at H
             have c41b0 : decide ((wrap64 ((wrap64 ((rd x6_2 x42_3) + (rd y670 x52_4))) - (rd y675 x62_5))) < (x4_5.length : Int)) = false := decide_eq_false c41
             (try (have c41h := c41b0; simp only [hl4_3, hl4_4, hl4_5] at c41h))
             clear c41
             have H' := Aside0.mk H
             clear H
             have p679 : 0 ≤ (x62_5 : Int) := od_
             have q679 : x62_5 < (y675.length : Int) := od_
             obtain ⟨ad679, e679, hx679_0⟩ := Kd.at_int HR678.out x62_5 p679 q679
             obtain rfl : ad669 = ad679 := (by injection e679)
             (try replace hx679_0 := (HB.out.cell (World.block_lt_of_cell? w _ hx679_0)).trans hx679_0)
             replace p679 := eq_true p679
             replace q679 := eq_true q679
             go_wp2
             (try simp only [← hl4_5])
             go_roundg k5
             case measure => have := HK1.out; have := HK2.out; have := HK3.out; have := HK4.out; have := HK5.out; omega
             case rel => exact ⟨(x4_5), (x5_5), (wrap64 (x62_5 + 1)), rs_, rs_, H', ⟨by have := HK1.out; have := HK2.out; have := HK3.out; have := HK4.out; have := HK5.out; omega⟩, ⟨by (try simp only [hl4_3]); (try simp only [hl4_4]); (try simp only [hl4_5]); (with_reducible repeat (first | apply Kd.R_alloc | apply Kd.R_drewN | apply Kd.R_drew)); exact HO_4.out⟩, ⟨by (try simp only [hl4_3]); (try simp only [hl4_4]); (try simp only [hl4_5]); (with_reducible repeat (first | apply Kd.R_alloc | apply Kd.R_drewN | apply Kd.R_drew)); exact HO_6.out⟩, ⟨by (try simp only [hl4_3]); (try simp only [hl4_4]); (try simp only [hl4_5]); (with_reducible repeat (first | apply Kd.R_alloc | apply Kd.R_drewN | apply Kd.R_drew)); exact HO_40.out⟩, ⟨by (try simp only [hl4_3]); (try simp only [hl4_4]); (try simp only [hl4_5]); exact ba_ BK656⟩, ⟨by (try simp only [hl4_3]); (try simp only [hl4_4]); (try simp only [hl4_5]); exact ba_ BK657⟩, ⟨by repeat (first | (with_reducible exact HR673.out) | (with_reducible refine Kd.C_alloc ?_ _) | (with_reducible refine Kd.C_drewN ?_ _) | (with_reducible refine Kd.C_drew ?_) | exact HR673.out)⟩, ⟨by repeat (first | (with_reducible exact HR678.out) | (with_reducible refine Kd.C_alloc ?_ _) | (with_reducible refine Kd.C_drewN ?_ _) | (with_reducible refine Kd.C_drew ?_) | exact HR678.out)⟩, ⟨bq_ HB⟩⟩
           rw [if_pos c41] at H
           have c41b0 : decide ((wrap64 ((wrap64 ((rd x6_2 x42_3) + (rd y670 x52_4))) - (rd y675 x62_5))) < (x4_5.length : Int)) = true := decide_eq_true c41
           (try (have c41h := c41b0; simp only [hl4_3, hl4_4, hl4_5] at c41h))
           clear c41
           obtain ⟨ji42, hji42⟩ : ∃ j_ : Int, (wrap64 ((wrap64 ((rd x6_2 x42_3) + (rd y670 x52_4))) - (rd y675 x62_5))) = j_ := ⟨_, rfl⟩
           replace H : (if 0 ≤ (ji42) then (if (rdOf false x4_5 (ji42) = true) then (impl_ArfClosure.l4 k5 x4_5 x5_5 x6_2 (rd x6_2 x42_3) (rd y670 x52_4) x6_2 (x6_2.length : Int) x42_3 y670 (y670.length : Int) x52_4 y675 (y675.length : Int) (wrap64 (x62_5 + 1))) else (impl_ArfClosure.l4 k5 (x4_5.set ((ji42) : Int).toNat true) true x6_2 (rd x6_2 x42_3) (rd y670 x52_4) x6_2 (x6_2.length : Int) x42_3 y670 (y670.length : Int) x52_4 y675 (y675.length : Int) (wrap64 (x62_5 + 1)))) else (none)) = some (r1, r2) := by first | (rw [hji42] at H; exact H) | (simp only [hji42] at H ⊢; exact H)
           (try rw [hji42] at c41b0)
           have hji42w : (IntKind.i64.wrap ((wrap64 ((rd x6_2 x42_3) + (rd y670 x52_4))) - (rd y675 x62_5))) = ji42 := (i64_w _).trans hji42
           obtain ⟨c43b0, H⟩ := ipd_ H
           obtain ⟨bq44, hbq44⟩ : ∃ b_ : Bool, b_ = (rdOf false x4_5 (ji42)) := ⟨_, rfl⟩
           replace H : (if (bq44 = true) then (impl_ArfClosure.l4 k5 x4_5 x5_5 x6_2 (rd x6_2 x42_3) (rd y670 x52_4) x6_2 (x6_2.length : Int) x42_3 y670 (y670.length : Int) x52_4 y675 (y675.length : Int) (wrap64 (x62_5 + 1))) else (impl_ArfClosure.l4 k5 (x4_5.set ((ji42) : Int).toNat true) true x6_2 (rd x6_2 x42_3) (rd y670 x52_4) x6_2 (x6_2.length : Int) x42_3 y670 (y670.length : Int) x52_4 y675 (y675.length : Int) (wrap64 (x62_5 + 1)))) = some (r1, r2) := by rw [← hbq44] at H; exact H
           have Nbq44 := Aside0.mk hbq44
           clear hbq44
           by_cases c45 : (bq44 = true)
           · subst c45
             rw [if_pos rfl] at H
             have H' := Aside0.mk H
             clear H
             have p679 : 0 ≤ (x62_5 : Int) := od_
             have q679 : x62_5 < (y675.length : Int) := od_
             obtain ⟨ad679, e679, hx679_0⟩ := Kd.at_int HR678.out x62_5 p679 q679
             obtain rfl : ad669 = ad679 := (by injection e679)
             (try replace hx679_0 := (HB.out.cell (World.block_lt_of_cell? w _ hx679_0)).trans hx679_0)
             replace p679 := eq_true p679
             replace q679 := eq_true q679
             have p680 : 0 ≤ ((ji42) : Int) := od_
             have q680 : (ji42) < (x4_5.length : Int) := od_
             obtain ⟨ad680, e680, hx680_0⟩ := Kd.at_bool (Kd.R_reads' HO_4.out).2.2 (ji42) p680 q680
             (try rw [← Nbq44.out] at hx680_0)
             cases e680
             replace p680 := eq_true p680
             replace q680 := eq_true q680
             go_wp2
             (try simp only [← hl4_5])
             go_roundg k5
             case measure => have := HK1.out; have := HK2.out; have := HK3.out; have := HK4.out; have := HK5.out; omega
             case rel => exact ⟨(x4_5), (x5_5), (wrap64 (x62_5 + 1)), rs_, rs_, H', ⟨by have := HK1.out; have := HK2.out; have := HK3.out; have := HK4.out; have := HK5.out; omega⟩, ⟨by (try simp only [hl4_3]); (try simp only [hl4_4]); (try simp only [hl4_5]); (with_reducible repeat (first | apply Kd.R_alloc | apply Kd.R_drewN | apply Kd.R_drew)); exact HO_4.out⟩, ⟨by (try simp only [hl4_3]); (try simp only [hl4_4]); (try simp only [hl4_5]); (with_reducible repeat (first | apply Kd.R_alloc | apply Kd.R_drewN | apply Kd.R_drew)); exact HO_6.out⟩, ⟨by (try simp only [hl4_3]); (try simp only [hl4_4]); (try simp only [hl4_5]); (with_reducible repeat (first | apply Kd.R_alloc | apply Kd.R_drewN | apply Kd.R_drew)); exact HO_40.out⟩, ⟨by (try simp only [hl4_3]); (try simp only [hl4_4]); (try simp only [hl4_5]); exact ba_ BK656⟩, ⟨by (try simp only [hl4_3]); (try simp only [hl4_4]); (try simp only [hl4_5]); exact ba_ BK657⟩, ⟨by repeat (first | (with_reducible exact HR673.out) | (with_reducible refine Kd.C_alloc ?_ _) | (with_reducible refine Kd.C_drewN ?_ _) | (with_reducible refine Kd.C_drew ?_) | exact HR673.out)⟩, ⟨by repeat (first | (with_reducible exact HR678.out) | (with_reducible refine Kd.C_alloc ?_ _) | (with_reducible refine Kd.C_drewN ?_ _) | (with_reducible refine Kd.C_drew ?_) | exact HR678.out)⟩, ⟨bq_ HB⟩⟩
           replace c45 := Bool.eq_false_iff.mpr c45
           subst c45
           rw [if_neg (show ¬ (false = true) by decide)] at H
           obtain ⟨y681, hy681⟩ : ∃ y_ : List Bool, y_ = (x4_5.set ((ji42) : Int).toNat true) := ⟨_, rfl⟩
           replace H : (impl_ArfClosure.l4 k5 y681 true x6_2 (rd x6_2 x42_3) (rd y670 x52_4) x6_2 (x6_2.length : Int) x42_3 y670 (y670.length : Int) x52_4 y675 (y675.length : Int) (wrap64 (x62_5 + 1))) = some (r1, r2) := by subst hy681; exact H
           have Ny681 := Aside0.mk hy681
           clear hy681
           have H' := Aside0.mk H
           clear H
           have p679 : 0 ≤ (x62_5 : Int) := od_
           have q679 : x62_5 < (y675.length : Int) := od_
           obtain ⟨ad679, e679, hx679_0⟩ := Kd.at_int HR678.out x62_5 p679 q679
           obtain rfl : ad669 = ad679 := (by injection e679)
           (try replace hx679_0 := (HB.out.cell (World.block_lt_of_cell? w _ hx679_0)).trans hx679_0)
           replace p679 := eq_true p679
           replace q679 := eq_true q679
           have p680 : 0 ≤ ((ji42) : Int) := od_
           have q680 : (ji42) < (x4_5.length : Int) := od_
           obtain ⟨ad680, e680, hx680_0⟩ := Kd.at_bool (Kd.R_reads' HO_4.out).2.2 (ji42) p680 q680
           (try rw [← Nbq44.out] at hx680_0)
           cases e680
           replace p680 := eq_true p680
           replace q680 := eq_true q680
           have p46 : 0 ≤ ((ji42) : Int) := od_
           have q46 : ((ji42) : Int) < ((x4_5.length : Int) : Int) := od_
           obtain ⟨go46, co46, eo46, gb46, gl46, cl46, HG46⟩ := Kd.R_form HO_4.out (by omega)
           (first | cases eo46 | (injection eo46 with ea_ en_ ec_; (first | subst ea_ | (injection ea_ with ea_; subst ea_)); subst ec_; clear en_))
           have GB46 := Aside0.mk gb46
           have GG46 := Aside0.mk HG46
           clear gb46 gl46 HG46
           (first | simp only [add_plain] at hx680_0 | skip)
           obtain ⟨hx46_0, hf46_0⟩ := Kd.R_celln false HO_4.out ((ji42) : Int) p46 q46
           replace p46 := eq_true p46
           replace q46 := eq_true q46
           have HP47 := Kd.R_putg HO_4.out ((ji42) : Int) true
           go_wp2_with (first | ((with_reducible refine gate_store (t := 4) (p := 84) rfl ?_); refine store_event (t := 4) (p := 84) (v := ?vo_w48) (w1 := (wr.setCell ⟨go46, ((ji42) : Int).toNat, none⟩ (.bool true))) ?hg ?ho ?hn ?hr ?_; (case ho => rfl); (case hg => rfl); (case hn => rfl); (case hr => first | (go_simp; done) | (go_simp; rfl)); intro w48 hw; have hg : wr.grownBy w48 (some go46) := (by rw [hw]; exact HP47.2); have hp_ : Kd.R Kd.bool 4 w48 w.heap.size (fun _ => True) (.slice (some ⟨go46, 0, none⟩) x4_5.length co15) y681 := (by rw [hw, Ny681.out]; exact HP47.1); clear HP47; replace HO_40 := Aside0.mk (Kd.R_over' (v := (.slice (some ⟨go46, 0, none⟩) x4_5.length co15)) (re_ HO_40.out) (Kd.R_typed HO_4.out) (by decide) hg); replace BK656 := Aside0.mk (blk_grown (be_ BK656.out) hg (Kd.R_ne HO_4.out BK656.out (by decide))); replace BK657 := Aside0.mk (blk_grown (be_ BK657.out) hg (Kd.R_ne HO_4.out BK657.out (by decide))); replace HB := Aside0.mk ((by rw [hw]; exact below_set (HB.out) GB46.out : Below w.heap.size w w48)); replace HR673 := Aside0.mk ((show Kd.C (Kd.int .i64) w48 (some ad669) y670.length y670 from by rw [Ny670.out]; exact Kd.C_take (m := ((ji27) : Int).toNat) ((Kd.R_reads' (Kd.R_over' (v := (.slice (some ⟨go46, 0, none⟩) x4_5.length co15)) (re_ HO_6.out) (Kd.R_typed HO_4.out) (by decide) hg)).2.2) KL30.out)); replace HR678 := Aside0.mk ((show Kd.C (Kd.int .i64) w48 (some ad669) y675.length y675 from by rw [Ny675.out]; exact Kd.C_take (m := ((ji34) : Int).toNat) ((Kd.R_reads' (Kd.R_over' (v := (.slice (some ⟨go46, 0, none⟩) x4_5.length co15)) (re_ HO_6.out) (Kd.R_typed HO_4.out) (by decide) hg)).2.2) KL37.out)); replace HO_6 := Aside0.mk (Kd.R_over' (v := (.slice (some ⟨go46, 0, none⟩) x4_5.length co15)) (re_ HO_6.out) (Kd.R_typed HO_4.out) (by decide) hg); replace HO_4 := Aside0.mk (hp_); clear hg hw hp_))
           (try simp only [← hl4_5])
           go_roundg k5
           case measure => have := HK1.out; have := HK2.out; have := HK3.out; have := HK4.out; have := HK5.out; omega
           case rel => exact ⟨(y681), (true), (wrap64 (x62_5 + 1)), rs_, rs_, H', ⟨by have := HK1.out; have := HK2.out; have := HK3.out; have := HK4.out; have := HK5.out; omega⟩, ⟨by (try simp only [hl4_3]); (try simp only [hl4_4]); (try simp only [hl4_5]); (with_reducible repeat (first | apply Kd.R_alloc | apply Kd.R_drewN | apply Kd.R_drew)); exact HO_4.out⟩, ⟨by (try simp only [hl4_3]); (try simp only [hl4_4]); (try simp only [hl4_5]); (with_reducible repeat (first | apply Kd.R_alloc | apply Kd.R_drewN | apply Kd.R_drew)); exact HO_6.out⟩, ⟨by (try simp only [hl4_3]); (try simp only [hl4_4]); (try simp only [hl4_5]); (with_reducible repeat (first | apply Kd.R_alloc | apply Kd.R_drewN | apply Kd.R_drew)); exact HO_40.out⟩, ⟨by (try simp only [hl4_3]); (try simp only [hl4_4]); (try simp only [hl4_5]); exact ba_ BK656⟩, ⟨by (try simp only [hl4_3]); (try simp only [hl4_4]); (try simp only [hl4_5]); exact ba_ BK657⟩, ⟨by repeat (first | (with_reducible exact HR673.out) | (with_reducible refine Kd.C_alloc ?_ _) | (with_reducible refine Kd.C_drewN ?_ _) | (with_reducible refine Kd.C_drew ?_) | exact HR673.out)⟩, ⟨by repeat (first | (with_reducible exact HR678.out) | (with_reducible refine Kd.C_alloc ?_ _) | (with_reducible refine Kd.C_drewN ?_ _) | (with_reducible refine Kd.C_drew ?_) | exact HR678.out)⟩, ⟨bq_ HB⟩⟩
def impl_FrobeniusOf.f (k : Nat) (l0_0 : List Int) : Option (Int) := (impl_Gaps.f k l0_0).bind fun t694 => (if (t694.length : Int) = 0 then (some (-1)) else (if 0 ≤ (wrap64 ((t694.length : Int) - 1)) then (if (wrap64 ((t694.length : Int) - 1)) < (t694.length : Int) then (some (rd t694 (wrap64 ((t694.length : Int) - 1)))) else (none)) else (none)))
theorem impl_FrobeniusOf.calls (k : Nat) (A0_0 : Option Addr) (c0_0 : Nat) (l0_0 : List Int) (r : Int) (w : World) (hr0_0 : Kd.C (Kd.int .i64) w A0_0 l0_0.length l0_0) (hc0_0 : l0_0.length ≤ c0_0) (h : impl_FrobeniusOf.f k l0_0 = some r) :
 Calls Try.prog 77 #[.agg #[.slice A0_0 l0_0.length c0_0]] w fun e w' => e = .returned (.int .i64 r) ∧ Below w.heap.size w w' := by
 have hu26 := Try.underlying26
 have HR0_0 := Aside0.mk hr0_0
 have HC0_0 := Aside0.mk hc0_0
 clear hr0_0 hc0_0
 have HB := Aside0.mk (Below.refl w.heap.size w)
 have H := h
 clear h
 unfold impl_FrobeniusOf.f at H
 obtain ⟨t694, A2, H⟩ := ob_ H
 by_cases c3 : (t694.length : Int) = 0
 · rw [if_pos c3] at H
   have c3b0 : ((t694.length : Int) == 0) = true := beq_iff_eq.mpr c3
   have c3b1 : ((t694.length : Int) != 0) = false := bne_eq_false_iff_eq.mpr c3
   clear c3
   obtain rfl := Option.some.inj H
   go_enter Try.func77, Try.ntmps77
   go_wp2_with (first | ((with_reducible refine gate_dst (N := 1) rfl ?_); refine bx_ 1 #[.slice A0_0 l0_0.length c0_0] 26 ?_; intro gb693 hg w4 hbox hb; have BK693 := Aside0.mk (hbox); have GW693 := gw_ hg HB; have GE693 := gw_ hg HB; replace HB := bo_ HB hb; clear hb hbox hg; have hcz5_0 := cz_ BK693; have hfz5_0 := blk_frozen BK693.out 0) | ((with_reducible refine gate_callee (f := 54) rfl ?_); refine gL_ (some 5) Try.func54 #[.agg #[.slice A0_0 l0_0.length c0_0]] ?_; (with_reducible refine (impl_Gaps.calls k _ _ l0_0 t694 _ ?side1 ?side2 A2.out).mono ?_); (case side1 => exact ch_ HR0_0 HB); (case side2 => exact HC0_0.out); rintro e w6 ⟨v695, rfl, ho0, hb⟩; refine ⟨_, rfl, ?_⟩; have HO696 := Aside0.mk (Kd.R_lower ho0 (below_size (bq_ HB))); replace BK693 := bk_ BK693 hb; replace HB := bp_ HB hb; (try clear hb); (try clear ho0); obtain ⟨Ao7, co7, eo7⟩ := Kd.R_slice HO696.out; subst eo7))
   go_ret
   exact ⟨rf_, bq_ HB⟩
 rw [if_neg c3] at H
 have c3b0 : ((t694.length : Int) == 0) = false := beq_eq_false_iff_ne.mpr c3
 have c3b1 : ((t694.length : Int) != 0) = true := bne_iff_ne.mpr c3
 have c3b2 : ¬ (t694 = []) := fun h_ => c3 (by rw [h_]; rfl)
 obtain ⟨ji8, hji8⟩ : ∃ j_ : Int, (wrap64 ((t694.length : Int) - 1)) = j_ := ⟨_, rfl⟩
 replace H : (if 0 ≤ (ji8) then (if (ji8) < (t694.length : Int) then (some (rd t694 (ji8))) else (none)) else (none)) = some r := by first | (rw [hji8] at H; exact H) | (simp only [hji8] at H ⊢; exact H)
 (try rw [hji8] at A2)
 have hji8w : (IntKind.i64.wrap ((t694.length : Int) - 1)) = ji8 := (i64_w _).trans hji8
 obtain ⟨c9b0, H⟩ := ipd_ H
 obtain ⟨c10b0, H⟩ := ipd_ H
 obtain rfl := Option.some.inj H
 go_enter Try.func77, Try.ntmps77
 go_wp2_with (first | ((with_reducible refine gate_dst (N := 1) rfl ?_); refine bx_ 1 #[.slice A0_0 l0_0.length c0_0] 26 ?_; intro gb693 hg w11 hbox hb; have BK693 := Aside0.mk (hbox); have GW693 := gw_ hg HB; have GE693 := gw_ hg HB; replace HB := bo_ HB hb; clear hb hbox hg; have hcz12_0 := cz_ BK693; have hfz12_0 := blk_frozen BK693.out 0) | ((with_reducible refine gate_callee (f := 54) rfl ?_); refine gL_ (some 5) Try.func54 #[.agg #[.slice A0_0 l0_0.length c0_0]] ?_; (with_reducible refine (impl_Gaps.calls k _ _ l0_0 t694 _ ?side1 ?side2 A2.out).mono ?_); (case side1 => exact ch_ HR0_0 HB); (case side2 => exact HC0_0.out); rintro e w13 ⟨v695, rfl, ho0, hb⟩; refine ⟨_, rfl, ?_⟩; have HO696 := Aside0.mk (Kd.R_lower ho0 (below_size (bq_ HB))); replace BK693 := bk_ BK693 hb; replace HB := bp_ HB hb; (try clear hb); (try clear ho0); obtain ⟨Ao14, co14, eo14⟩ := Kd.R_slice HO696.out; subst eo14; have p697 : 0 ≤ ((ji8) : Int) := od_; have q697 : (ji8) < (t694.length : Int) := od_; obtain ⟨ad697, e697, hx697_0⟩ := Kd.at_int (Kd.R_reads' HO696.out).2.2 (ji8) p697 q697; cases e697; replace p697 := eq_true p697; replace q697 := eq_true q697))
 go_ret
 exact ⟨by first | rfl | (simp [errW_none, errW_some] <;> rfl) | (simp only [← hji8]; first | rfl | (simp [errW_none, errW_some] <;> rfl)) | (simp [*, errW_none, errW_some] <;> rfl), bq_ HB⟩
def impl_ConductorOf.f (k : Nat) (l0_0 : List Int) : Option (Int) := (impl_FrobeniusOf.f k l0_0).bind fun t699 => (some (wrap64 (t699 + 1)))
theorem impl_ConductorOf.calls (k : Nat) (A0_0 : Option Addr) (c0_0 : Nat) (l0_0 : List Int) (r : Int) (w : World) (hr0_0 : Kd.C (Kd.int .i64) w A0_0 l0_0.length l0_0) (hc0_0 : l0_0.length ≤ c0_0) (h : impl_ConductorOf.f k l0_0 = some r) :
 Calls Try.prog 64 #[.agg #[.slice A0_0 l0_0.length c0_0]] w fun e w' => e = .returned (.int .i64 r) ∧ Below w.heap.size w w' := by
 have hu26 := Try.underlying26
 have HR0_0 := Aside0.mk hr0_0
 have HC0_0 := Aside0.mk hc0_0
 clear hr0_0 hc0_0
 have HB := Aside0.mk (Below.refl w.heap.size w)
 have H := h
 clear h
 unfold impl_ConductorOf.f at H
 obtain ⟨t699, A2, H⟩ := ob_ H
 obtain rfl := Option.some.inj H
 go_enter Try.func64, Try.ntmps64
 go_wp2_with (first | ((with_reducible refine gate_dst (N := 1) rfl ?_); refine bx_ 1 #[.slice A0_0 l0_0.length c0_0] 26 ?_; intro gb698 hg w3 hbox hb; have BK698 := Aside0.mk (hbox); have GW698 := gw_ hg HB; have GE698 := gw_ hg HB; replace HB := bo_ HB hb; clear hb hbox hg; have hcz4_0 := cz_ BK698; have hfz4_0 := blk_frozen BK698.out 0) | ((with_reducible refine gate_callee (f := 77) rfl ?_); refine gL_ (some 4) Try.func77 #[.agg #[.slice A0_0 l0_0.length c0_0]] ?_; (with_reducible refine (impl_FrobeniusOf.calls k _ _ l0_0 t699 _ ?side1 ?side2 A2.out).mono ?_); (case side1 => exact ch_ HR0_0 HB); (case side2 => exact HC0_0.out); rintro e w5 ⟨rfl, hb⟩; refine ⟨_, rfl, ?_⟩; replace BK698 := bk_ BK698 hb; replace HB := bp_ HB hb; (try clear hb)))
 go_ret
 exact ⟨rf_, bq_ HB⟩
def impl_SmallElements.l0 : Nat → List Int → List Bool → Int → Int → Option (List Int)
 | 0, _, _, _, _ => none
 | k + 1, x3, x4, x13, x14 => if x14 < x13 then (if 0 ≤ x14 then (if x14 < (x4.length : Int) then (if rdOf false x4 x14 = true then (if x3.length < 17592186044416 then (impl_SmallElements.l0 k (x3 ++ [x14]) x4 x13 (wrap64 (x14 + 1))) else (none)) else (impl_SmallElements.l0 k x3 x4 x13 (wrap64 (x14 + 1)))) else (none)) else (none)) else (some x3)
def impl_SmallElements.f (k : Nat) (l0_0 : List Int) : Option (List Int) := (impl_IsSemigroup.f k l0_0).bind fun t701 => (if t701 = true then ((impl_table.f k l0_0 200).bind fun t705 => ((impl_ConductorOf.f k l0_0).bind fun t708 => (impl_SmallElements.l0 k (([] : List Int)) t705 t708 0))) else (some ([] : List Int)))
theorem impl_SmallElements.calls (k : Nat) (A0_0 : Option Addr) (c0_0 : Nat) (l0_0 : List Int) (r : List Int) (w : World) (hr0_0 : Kd.C (Kd.int .i64) w A0_0 l0_0.length l0_0) (hc0_0 : l0_0.length ≤ c0_0) (h : impl_SmallElements.f k l0_0 = some r) :
 Calls Try.prog 33 #[.agg #[.slice A0_0 l0_0.length c0_0]] w fun e w' => ∃ v0_ : Value, e = .returned (v0_) ∧ Kd.R (Kd.int .i64) 3 w' w.heap.size (fun _ => True) v0_ r ∧ Below w.heap.size w w' := by
 have hu26 := Try.underlying26
 have HR0_0 := Aside0.mk hr0_0
 have HC0_0 := Aside0.mk hc0_0
 clear hr0_0 hc0_0
 have HB := Aside0.mk (Below.refl w.heap.size w)
 have H := h
 clear h
 unfold impl_SmallElements.f at H
 obtain ⟨t701, A2, H⟩ := ob_ H
 by_cases c3 : t701 = true
 rotate_left
 · replace c3 := Bool.eq_false_iff.mpr c3
   subst c3
   rw [if_neg (show ¬ (false = true) by decide)] at H
   obtain rfl := Option.some.inj H
   go_enter Try.func33, Try.ntmps33
   go_wp2_with (first | ((with_reducible refine gate_dst (N := 1) rfl ?_); refine bx_ 1 #[.slice A0_0 l0_0.length c0_0] 26 ?_; intro gb700 hg w24 hbox hb; have BK700 := Aside0.mk (hbox); have GW700 := gw_ hg HB; have GE700 := gw_ hg HB; replace HB := bo_ HB hb; clear hb hbox hg; have hcz25_0 := cz_ BK700; have hfz25_0 := blk_frozen BK700.out 0) | ((with_reducible refine gate_callee (f := 24) rfl ?_); refine gL_ (some 7) Try.func24 #[.agg #[.slice A0_0 l0_0.length c0_0]] ?_; (with_reducible refine (impl_IsSemigroup.calls k _ _ l0_0 false _ ?side1 ?side2 A2.out).mono ?_); (case side1 => exact ch_ HR0_0 HB); (case side2 => exact HC0_0.out); rintro e w26 ⟨rfl, hb⟩; refine ⟨_, rfl, ?_⟩; replace BK700 := bk_ BK700 hb; replace HB := bp_ HB hb; (try clear hb)))
   go_ret
   exact ⟨_, rf_, by first | exact Kd.R_nil _ _ _ _ _ | exact Kd.N_nil _ _ _ _ _ | exact Kd.V_nil _ _ _ _ _ | exact Kd.Q_nil _ _ _ _ _ | exact Kd.S_nil _ _ _ _ _, bq_ HB⟩
 subst c3
 rw [if_pos rfl] at H
 obtain ⟨y702, hy702⟩ : ∃ y_ : List Int, y_ = (([] : List Int)) := ⟨_, rfl⟩
 replace H : ((impl_table.f k l0_0 200).bind fun t705 => ((impl_ConductorOf.f k l0_0).bind fun t708 => (impl_SmallElements.l0 k y702 t705 t708 0))) = some r := by subst hy702; exact H
 have Ny702 := Aside0.mk hy702
 clear hy702
 obtain ⟨t705, A4, H⟩ := ob_ H
 obtain ⟨t708, A5, H⟩ := ob_ H
 have H' := Aside0.mk H
 clear H
 go_enter Try.func33, Try.ntmps33
 go_wp2_with (first | ((with_reducible refine gate_dst (N := 1) rfl ?_); refine bx_ 1 #[.slice A0_0 l0_0.length c0_0] 26 ?_; intro gb700 hg w6 hbox hb; have BK700 := Aside0.mk (hbox); have GW700 := gw_ hg HB; have GE700 := gw_ hg HB; replace HB := bo_ HB hb; clear hb hbox hg; have hcz7_0 := cz_ BK700; have hfz7_0 := blk_frozen BK700.out 0) | ((with_reducible refine gate_callee (f := 24) rfl ?_); refine gL_ (some 7) Try.func24 #[.agg #[.slice A0_0 l0_0.length c0_0]] ?_; (with_reducible refine (impl_IsSemigroup.calls k _ _ l0_0 true _ ?side1 ?side2 A2.out).mono ?_); (case side1 => exact ch_ HR0_0 HB); (case side2 => exact HC0_0.out); rintro e w8 ⟨rfl, hb⟩; refine ⟨_, rfl, ?_⟩; replace BK700 := bk_ BK700 hb; replace HB := bp_ HB hb; (try clear hb)) | ((with_reducible refine gate_dst (N := 9) rfl ?_); refine Kd.R_lit (Kd.int .i64) _ 3 ?hg (N := 9) ?hd (xs := ([] : List Int)) (inner := []) (ok := fun _ => True) (okp := fun _ => True) ?hr ?hp (fun _ hk => hk) trivial (Below.refl _ _) (Nat.le_refl _) (by simp) ?_; (case hd => rfl); (case hg => rfl); (case hr => first | (go_simp; done) | (go_simp; rfl)); (case hp => exact (Reps.none _ _)); intro v703 w9 ho10 hb hg_ hnew_; clear hg_ hnew_; (first | rw [← Ny702.out] at ho10 | (simp only [Int.reduceToNat] at ho10; rw [← Ny702.out] at ho10)); have HO704 := Aside0.mk (Kd.R_lower ho10 (below_size (bq_ HB))); replace BK700 := bk_ BK700 hb; replace HB := bp_ HB hb; clear hb ho10; have hcz11_0 := cz_ BK700; have hfz11_0 := blk_frozen BK700.out 0) | ((with_reducible refine gate_callee (f := 25) rfl ?_); refine gL_ (some 11) Try.func25 #[.agg #[.slice A0_0 l0_0.length c0_0], .int .i64 200] ?_; (with_reducible refine (impl_table.calls k _ _ l0_0 200 t705 _ ?side1 ?side2 A4.out).mono ?_); (case side1 => exact ch_ HR0_0 HB); (case side2 => exact HC0_0.out); rintro e w12 ⟨v706, rfl, ho0, hb⟩; refine ⟨_, rfl, ?_⟩; replace HO704 := Aside0.mk (Kd.R_below (re_ HO704.out) hb); have HO707 := Aside0.mk (Kd.R_lower ho0 (below_size (bq_ HB))); replace BK700 := bk_ BK700 hb; replace HB := bp_ HB hb; (try clear hb); (try clear ho0); have hcz13_0 := cz_ BK700; have hfz13_0 := blk_frozen BK700.out 0) | ((with_reducible refine gate_callee (f := 64) rfl ?_); refine gL_ (some 13) Try.func64 #[.agg #[.slice A0_0 l0_0.length c0_0]] ?_; (with_reducible refine (impl_ConductorOf.calls k _ _ l0_0 t708 _ ?side1 ?side2 A5.out).mono ?_); (case side1 => exact ch_ HR0_0 HB); (case side2 => exact HC0_0.out); rintro e w14 ⟨rfl, hb⟩; refine ⟨_, rfl, ?_⟩; replace HO704 := Aside0.mk (Kd.R_below (re_ HO704.out) hb); replace HO707 := Aside0.mk (Kd.R_below (re_ HO707.out) hb); replace BK700 := bk_ BK700 hb; replace HB := bp_ HB hb; (try clear hb)))
 go_loopg [3, 14] k (fun kq v3 v14 w' => ∃ (x3_1 : List Int) (x14_1 : Int), v14 = .int .i64 x14_1 ∧ Aside0 (impl_SmallElements.l0 kq x3_1 t705 t708 x14_1 = some r) ∧ Aside0 (kq ≤ k) ∧ Aside0 (Kd.R (Kd.int .i64) 3 w' w.heap.size (fun _ => True) v3 x3_1) ∧ Aside0 (Kd.R Kd.bool 4 w' w.heap.size (fun _ => True) v706 t705) ∧ Aside0 (w'.heap[gb700]? = some (.cells #[(.slice A0_0 l0_0.length c0_0)] 26 (0, 0))) ∧ Aside0 (Below w.heap.size w w'))
 case atStart => exact ⟨(y702), (0), rs_, H', ⟨Nat.le_refl _⟩, ⟨re_ HO704.out⟩, ⟨re_ HO707.out⟩, ⟨be_ BK700.out⟩, ⟨bq_ HB⟩⟩
 case round =>
  clear H'
  try clear hcz11_0
  try clear hcz13_0
  try clear hcz7_0
  try clear hfz11_0
  try clear hfz13_0
  try clear hfz7_0
  obtain ⟨x3_1, x14_1, rfl, HA, HK1, HO_3, HO_4, BK700, HB⟩ := hrel
  cases gk with
  | zero => exact absurd HA.out (by simp [impl_SmallElements.l0])
  | succ k1 =>
   have H := HA.out
   clear HA
   simp only [impl_SmallElements.l0] at H
   by_cases c15 : x14_1 < t708
   rotate_left
   · rw [if_neg c15] at H
     have c15b0 : decide (x14_1 < t708) = false := decide_eq_false c15
     clear c15
     obtain rfl := Option.some.inj H
     go_wp2
     go_ret
     exact ⟨_, rf_, re_ HO_3.out, bq_ HB⟩
   rw [if_pos c15] at H
   have c15b0 : decide (x14_1 < t708) = true := decide_eq_true c15
   clear c15
   obtain ⟨c16b0, H⟩ := ipd_ H
   obtain ⟨c17b0, H⟩ := ipd_ H
   obtain ⟨bq18, hbq18⟩ : ∃ b_ : Bool, b_ = (rdOf false t705 x14_1) := ⟨_, rfl⟩
   replace H : (if bq18 = true then (if x3_1.length < 17592186044416 then (impl_SmallElements.l0 k1 (x3_1 ++ [x14_1]) t705 t708 (wrap64 (x14_1 + 1))) else (none)) else (impl_SmallElements.l0 k1 x3_1 t705 t708 (wrap64 (x14_1 + 1)))) = some r := by rw [← hbq18] at H; exact H
   have Nbq18 := Aside0.mk hbq18
   clear hbq18
   by_cases c19 : bq18 = true
   rotate_left
   · replace c19 := Bool.eq_false_iff.mpr c19
     subst c19
     rw [if_neg (show ¬ (false = true) by decide)] at H
     have H' := Aside0.mk H
     clear H
     obtain ⟨Ao23, co23, eo23⟩ := Kd.R_slice HO_4.out
     subst eo23
     have p709 : 0 ≤ (x14_1 : Int) := od_
     have q709 : x14_1 < (t705.length : Int) := od_
     obtain ⟨ad709, e709, hx709_0⟩ := Kd.at_bool (Kd.R_reads' HO_4.out).2.2 x14_1 p709 q709
     (try rw [← Nbq18.out] at hx709_0)
     cases e709
     replace p709 := eq_true p709
     replace q709 := eq_true q709
     go_wp2
     go_roundg k1
     case measure => have := HK1.out; omega
     case rel => exact ⟨(x3_1), (wrap64 (x14_1 + 1)), rs_, H', ⟨by have := HK1.out; omega⟩, ⟨re_ HO_3.out⟩, ⟨re_ HO_4.out⟩, ⟨be_ BK700.out⟩, ⟨bq_ HB⟩⟩
   subst c19
   rw [if_pos rfl] at H
   obtain ⟨c20, H⟩ := ip_ H
   have LMc20 := Aside0.mk c20
   clear c20
   obtain ⟨y710, hy710⟩ : ∃ y_ : List Int, y_ = (x3_1 ++ [x14_1]) := ⟨_, rfl⟩
   replace H : (impl_SmallElements.l0 k1 y710 t705 t708 (wrap64 (x14_1 + 1))) = some r := by subst hy710; exact H
   have Ny710 := Aside0.mk hy710
   clear hy710
   have H' := Aside0.mk H
   clear H
   obtain ⟨Ao21, co21, eo21⟩ := Kd.R_slice HO_4.out
   subst eo21
   have p709 : 0 ≤ (x14_1 : Int) := od_
   have q709 : x14_1 < (t705.length : Int) := od_
   obtain ⟨ad709, e709, hx709_0⟩ := Kd.at_bool (Kd.R_reads' HO_4.out).2.2 x14_1 p709 q709
   (try rw [← Nbq18.out] at hx709_0)
   cases e709
   replace p709 := eq_true p709
   replace q709 := eq_true q709
   go_wp2_with (first | ((with_reducible refine gate_builtin (b := .append) (xs := #[.tmp 21, .tmp 23]) rfl ?_); at_builtin; refine Kd.R_append (Kd.int .i64) (w0 := w) w.heap.size rfl (.tmp 21) (.tmp 23) 24 3 (.int .i64 0) 8 rfl Try.underlying24 info3 rfl (by decide) (by omega) u3 x3_1 x14_1 [.int .i64 x14_1] (fun _ => True) (fun _ => False) rfl rfl ?aP (fun _ hk => hk.elim) ?aF ?aO ?aB ?aS ?aL ?_; (case aP => exact rfl); (case aB => exact (bq_ HB)); (case aF => exact (fun _ _ => trivial)); (case aO => exact (re_ HO_3.out)); (case aS => exact (below_size (bq_ HB))); (case aL => have := LMc20.out; omega); intro v711 w22 ho hb hg hat; rw [← Ny710.out] at ho; replace HO_4 := Aside0.mk (Kd.R_over' (re_ HO_4.out) (Kd.R_typed (re_ HO_3.out)) (by decide) hg); replace BK700 := Aside0.mk (blk_grown (be_ BK700.out) hg (Kd.R_ne HO_3.out BK700.out (by decide))); replace HB := Aside0.mk (hb); have HO712 := Aside0.mk (ho); clear HO_3; clear ho hb hg hat))
   go_roundg k1
   case measure => have := HK1.out; omega
   case rel => exact ⟨(y710), (wrap64 (x14_1 + 1)), rs_, H', ⟨by have := HK1.out; omega⟩, ⟨re_ HO712.out⟩, ⟨re_ HO_4.out⟩, ⟨be_ BK700.out⟩, ⟨bq_ HB⟩⟩
def inOf (o : Option (List Bool)) (d : Int) : Bool := match o with
 | none => false
 | some t => decide (200 ≤ d) || (decide (0 ≤ d) && rdOf false t d)
def FnP (P : Program) (g : Nat) (lb : Array Value) (p : Int → Bool) (w : World) : Prop := ∀ (W : World) (x : Int), Below w.heap.size w W → Calls P g (#[.int .i64 x] ++ lb) W fun e w' => e = .returned (.bool (p x)) ∧ Drawn0 W w'
theorem reach1_no (w : World) : FnP Try.prog 65 #[] (inOf none) w := fun W x _ => by
 go_enter Try.func65, Try.ntmps65
 go_wp2
 go_ret
 exact ⟨rfl, Drawn0.refl _⟩
theorem reach2_yes (w : World) (B : Nat) (t : List Bool) (ht : 200 ≤ t.length) (A : Option Addr) (c : Nat) (hr : Kd.C Kd.bool w A t.length t) (hB : B < w.heap.size) (hc : w.cell? ⟨B, 0, none⟩ = some (.slice A t.length c)) : FnP Try.prog 66 #[.pointer (some ⟨B, 0, none⟩)] (inOf (some t)) w := fun W x hb => by
 have hcW := (hb.cell (p := ⟨B, 0, none⟩) hB).trans hc
 have hrW := Aside0.mk (Kd.C_below hr hb)
 clear hr hc
 by_cases h1 : 200 ≤ x
 · have e1 : inOf (some t) x = true := by simp [inOf, h1]
   rw [e1]; clear e1
   have b1 : decide (200 ≤ x) = true := decide_eq_true h1
   go_enter Try.func66, Try.ntmps66
   go_wp2
   go_ret
   exact ⟨rfl, Drawn0.refl _⟩
 · have b1 : decide (200 ≤ x) = false := decide_eq_false h1
   by_cases h2 : 0 ≤ x
   · have b2 : decide (0 ≤ x) = true := decide_eq_true h2
     obtain ⟨ad, e, hx⟩ := Kd.at_bool hrW.out x h2 (by omega)
     obtain ⟨bq, hbq⟩ : ∃ b_ : Bool, b_ = rdOf false t x := ⟨_, rfl⟩
     have e1 : inOf (some t) x = bq := by simp [inOf, h1, h2, hbq]
     rw [e1]; clear e1
     rw [← hbq] at hx
     have hk := Aside0.mk hbq
     clear hbq
     cases e
     have q1 : x < (t.length : Int) := by omega
     have b3 : decide (x < (t.length : Int)) = true := decide_eq_true q1
     go_enter Try.func66, Try.ntmps66
     go_wp2
     go_ret
     exact ⟨rfl, Drawn0.refl _⟩
   · have b2 : decide (0 ≤ x) = false := decide_eq_false h2
     have e1 : inOf (some t) x = false := by simp [inOf, h1, h2]
     rw [e1]; clear e1
     go_enter Try.func66, Try.ntmps66
     go_wp2
     go_ret
     exact ⟨rfl, Drawn0.refl _⟩
def impl_reach.f (k : Nat) (l : List Int) : Option (Option (List Bool)) := (impl_IsSemigroup.f k l).bind fun t => if t = true then ((impl_table.f k l 200).bind fun u => if 200 ≤ u.length then some (some u) else none) else some none
def FnK (w : World) (v : Value) (o : Option (List Bool)) : Prop := ∃ (g : Nat) (lb : Array Value), v = .func (.func g) #[] lb ∧ (∀ args w, (callFunc g args).run Try.prog w = .ok (.enter g args) w) ∧ FnP Try.prog g lb (inOf o) w
theorem impl_reach.calls (k : Nat) (A0_0 : Option Addr) (c0_0 : Nat) (l0_0 : List Int) (o : Option (List Bool)) (w : World) (hr0_0 : Kd.C (Kd.int .i64) w A0_0 l0_0.length l0_0) (hc0_0 : l0_0.length ≤ c0_0) (h : impl_reach.f k l0_0 = some o) :
 Calls Try.prog 34 #[.agg #[.slice A0_0 l0_0.length c0_0]] w fun e w' => ∃ v, e = .returned v ∧ FnK w' v o ∧ Below w.heap.size w w' := by
 have hu26 := Try.underlying26
 have HR0_0 := Aside0.mk hr0_0
 have HC0_0 := Aside0.mk hc0_0
 clear hr0_0 hc0_0
 have hmf : ∀ (fn : Fn) (first cap : Array Value) (w : World), (Instr.makeFunc fn first cap).run Try.prog w = .ok (.func fn first cap) w := fun _ _ _ _ => rfl
 unfold impl_reach.f at h
 obtain ⟨t, A3, H⟩ := Option.bind_eq_some_iff.mp h
 clear h
 by_cases c4 : t = true
 rotate_left
 · have c4 := Bool.eq_false_iff.mpr c4
   subst c4
   rw [if_neg (by decide)] at H
   obtain rfl := Option.some.inj H
   clear H
   have A3 := Aside0.mk A3
   go_enter Try.func34, Try.ntmps34
   go_wp2_with (first | (go_at_call 24; (with_reducible refine (impl_IsSemigroup.calls k _ _ l0_0 false _ ?side1 ?side2 A3.out).mono ?_); (case side1 => exact Kd.C_alloc HR0_0.out _); (case side2 => exact HC0_0.out); rintro e w1 ⟨rfl, hb⟩))
   go_ret
   exact ⟨_, rfl, ⟨65, #[], rfl, enters_of Try.func65 (by kernel_rfl) rfl, reach1_no _⟩, ((Below.refl _ _).alloc (Nat.le_refl _) _).trans (hb.mono (by simp))⟩
 subst c4
 rw [if_pos rfl] at H
 obtain ⟨u, A5, H'⟩ := Option.bind_eq_some_iff.mp H
 clear H
 by_cases c5 : 200 ≤ u.length
 rotate_left
 · rw [if_neg c5] at H'; cases H'
 rw [if_pos c5] at H'
 obtain rfl := Option.some.inj H'
 clear H'
 have hq3 := Aside0.mk A3
 have hq5 := Aside0.mk A5
 have hq6 := Aside0.mk c5
 clear A3 A5 c5
 go_enter Try.func34, Try.ntmps34
 go_wp2_with (first | (go_at_call 24; (with_reducible refine (impl_IsSemigroup.calls k _ _ l0_0 true _ ?side1 ?side2 hq3.out).mono ?_); (case side1 => exact Kd.C_alloc HR0_0.out _); (case side2 => exact HC0_0.out); rintro e w1 ⟨rfl, hb⟩; have hc1 : w1.cell? ⟨w.heap.size, 0, none⟩ = some (.slice A0_0 l0_0.length c0_0) := (hb.cell (p := ⟨w.heap.size, 0, none⟩) (by simp)).trans (by rw [World.cell?_alloc_at _ _ _ _ rfl]; rfl); have hB1 := Aside0.mk hb; clear hb))
 refine (impl_table.calls k _ _ l0_0 200 u _ ?side3 ?side4 hq5.out).mono ?_
 · exact Kd.C_below (Kd.C_alloc HR0_0.out _) hB1.out
 · exact HC0_0.out
 rintro e w2 ⟨v2, rfl, hR, hb2⟩
 obtain ⟨A2, c2, e2⟩ := Kd.R_slice hR
 subst e2
 have hR2 := Aside0.mk hR
 have hB2 := Aside0.mk hb2
 clear hR hb2
 go_wp2
 go_ret
 exact ⟨_, rfl, ⟨66, _, rfl, enters_of Try.func66 (by kernel_rfl) rfl, reach2_yes _ _ u hq6.out A2 c2 (Kd.C_alloc (Kd.R_reads' hR2.out).2.2 _) (by simp) (by rw [World.cell?_alloc_at _ _ _ _ rfl]; rfl)⟩, below_alloc (below_step (below_step (below_alloc (Below.refl _ _) _) hB1.out) hB2.out) _⟩
mutual
def impl_ArfFailure.l0 : Nat → (Int → Bool) → List Int → Nat → Option (Int × Int × Int × Bool)
 | 0, _, _, _ => none
 | k + 1, p, l, i => if i < l.length then impl_ArfFailure.l1 k p l i 0 else some (0, 0, 0, false)
def impl_ArfFailure.l1 : Nat → (Int → Bool) → List Int → Nat → Nat → Option (Int × Int × Int × Bool)
 | 0, _, _, _, _ => none
 | k + 1, p, l, i, j => if j < i + 1 then impl_ArfFailure.l2 k p l i j 0 else impl_ArfFailure.l0 k p l (i + 1)
def impl_ArfFailure.l2 : Nat → (Int → Bool) → List Int → Nat → Nat → Nat → Option (Int × Int × Int × Bool)
 | 0, _, _, _, _, _ => none
 | k + 1, p, l, i, j, z => if z < j + 1 then (if p (wrap64 (wrap64 (rd l (i : Int) + rd l (j : Int)) - rd l (z : Int))) = true then impl_ArfFailure.l2 k p l i j (z + 1) else some (rd l (i : Int), rd l (j : Int), rd l (z : Int), true)) else impl_ArfFailure.l1 k p l i (j + 1)
end
def impl_ArfFailure.f (k : Nat) (l : List Int) : Option (Int × Int × Int × Bool) := (impl_SmallElements.f k l).bind fun s => (impl_reach.f k l).bind fun o => impl_ArfFailure.l0 k (inOf o) s 0
theorem at_nat_ {w : World} {A : Option Addr} {n : Nat} {xs : List Int} (h : (Kd.int .i64).C w A n xs) (i : Nat) (h1 : i < n) : ∃ ad, A = some ad ∧ w.cell? (ad.add i) = some (.int .i64 (rd xs (i : Int))) := Kd.at_int h i (by omega) (by omega)
theorem impl_ArfFailure.calls (k : Nat) (A0_0 : Option Addr) (c0_0 : Nat) (l0_0 : List Int) (r1 : Int) (r2 : Int) (r3 : Int) (r4 : Bool) (w : World) (hr0_0 : Kd.C (Kd.int .i64) w A0_0 l0_0.length l0_0) (hc0_0 : l0_0.length ≤ c0_0) (h : impl_ArfFailure.f k l0_0 = some (r1, r2, r3, r4)) :
 Calls Try.prog 10 #[.agg #[.slice A0_0 l0_0.length c0_0]] w fun e w' => e = .returned (.tuple #[.int .i64 r1, .int .i64 r2, .int .i64 r3, .bool r4]) ∧ Below w.heap.size w w' := by
 have hu26 := Try.underlying26
 have HR0_0 := Aside0.mk hr0_0
 have HC0_0 := Aside0.mk hc0_0
 clear hr0_0 hc0_0
 unfold impl_ArfFailure.f at h
 obtain ⟨s, A3, H⟩ := Option.bind_eq_some_iff.mp h
 clear h
 obtain ⟨o, A5, H'⟩ := Option.bind_eq_some_iff.mp H
 clear H
 have hq3 := Aside0.mk A3
 have hq5 := Aside0.mk A5
 have HH := Aside0.mk H'
 clear A3 A5 H'
 go_enter Try.func10, Try.ntmps10
 go_wp2_with (first | (go_at_call 33; (with_reducible refine (impl_SmallElements.calls k _ _ l0_0 s _ ?side1 ?side2 hq3.out).mono ?_); (case side1 => exact Kd.C_alloc HR0_0.out _); (case side2 => exact HC0_0.out); rintro e w1 ⟨v1, rfl, hR, hb⟩; have hc1 : w1.cell? ⟨w.heap.size, 0, none⟩ = some (.slice A0_0 l0_0.length c0_0) := (hb.cell (p := ⟨w.heap.size, 0, none⟩) (by simp)).trans (by rw [World.cell?_alloc_at _ _ _ _ rfl]; rfl); have hB1 := Aside0.mk hb; obtain ⟨A2, c2, e2⟩ := Kd.R_slice hR; subst e2; have hRl := Aside0.mk hR; clear hb hR) | (go_at_call 34; (with_reducible refine (impl_reach.calls k _ _ l0_0 o _ ?side3 ?side4 hq5.out).mono ?_); (case side3 => exact (Kd.C_below (Kd.C_alloc HR0_0.out _) hB1.out)); (case side4 => exact HC0_0.out); rintro e w2 ⟨v2, rfl, ⟨g, lb, hv, eg, hp⟩, hb2⟩; subst hv; have hP := Aside0.mk hp; have hW := Aside0.mk (below_step (below_step (below_alloc (Below.refl _ _) _) hB1.out) hb2 : Below w.heap.size w w2); have hL := Aside0.mk (Kd.C_below (Kd.R_reads' hRl.out).2.2 hb2); have hcap := (Kd.R_reads' hRl.out).2.1; clear hb2 hp hc1))
 have hlen := Kd.C_max hL.out
 go_loopg [20] k (fun kq v20 w' => ∃ i : Nat, v20 = .int .i64 (i : Int) ∧ i ≤ s.length ∧ Aside0 (impl_ArfFailure.l0 kq (inOf o) s i = some (r1, r2, r3, r4)) ∧ Aside0 (kq ≤ k) ∧ Drawn0 w2 w')
 case atStart => exact ⟨0, rfl, Nat.zero_le _, HH, ⟨Nat.le_refl _⟩, Drawn0.refl _⟩
 case round =>
  clear HH
  obtain ⟨i, rfl, hi, HA, HK1, ⟨m1, rfl⟩⟩ := hrel
  cases gk with
  | zero => exact absurd HA.out (by simp [impl_ArfFailure.l0])
  | succ k1 =>
   have H := HA.out
   clear HA
   rw [impl_ArfFailure.l0] at H
   by_cases ci : i < s.length
   rotate_left
   · rw [if_neg ci] at H
     have HH := Aside0.mk (Option.some.inj H)
     clear H
     go_wp2
     refine bodyPost_ret (results_list (rs := [.tmp 2, .tmp 3, .tmp 4, .tmp 5]) rfl (by simp) (.tmp (.tmp (.tmp (.tmp .nil))))) rfl ?_
     obtain ⟨rfl, rfl, rfl, rfl⟩ : 0 = r1 ∧ 0 = r2 ∧ 0 = r3 ∧ false = r4 := by have e := HH.out; simp only [Prod.mk.injEq] at e; exact e
     exact ⟨rfl, by repeat (first | exact hW.out | apply pw_below_drewN)⟩
   rw [if_pos ci] at H
   have HH := Aside0.mk H
   clear H
   obtain ⟨ad, ea, hx⟩ := at_nat_ (Kd.C_drewN hL.out m1) i ci
   subst ea
   have ci2 : (i : Int) + 1 ≤ (c2 : Int) := by omega
   go_wp2
   go_loopg [30] k1 (fun kq v30 w' => ∃ j : Nat, v30 = .int .i64 (j : Int) ∧ j ≤ i + 1 ∧ Aside0 (impl_ArfFailure.l1 kq (inOf o) s i j = some (r1, r2, r3, r4)) ∧ Aside0 (kq ≤ k1) ∧ Drawn0 w2 w')
   case atStart => exact ⟨0, rfl, Nat.zero_le _, HH, ⟨Nat.le_refl _⟩, by repeat (first | exact Drawn0.refl _ | apply Drawn0.step)⟩
   case round =>
    clear HH hx
    obtain ⟨j, rfl, hj, HA, HK2, ⟨m2, rfl⟩⟩ := hrel
    cases gk with
    | zero => exact absurd HA.out (by simp [impl_ArfFailure.l1])
    | succ k2 =>
     have H := HA.out
     clear HA
     rw [impl_ArfFailure.l1] at H
     by_cases cj : j < i + 1
     rotate_left
     · have cjb : decide ((j : Int) < (i : Int) + 1) = false := decide_eq_false (by omega)
       rw [if_neg cj] at H
       have HH := Aside0.mk H
       clear H
       go_wp2
       go_roundg k2
       case measure => have := HK1.out; have := HK2.out; omega
       case rel => exact ⟨i + 1, by go_num, by omega, HH, ⟨by have := HK1.out; have := HK2.out; omega⟩, by repeat (first | exact Drawn0.refl _ | apply Drawn0.step)⟩
     have cjb : decide ((j : Int) < (i : Int) + 1) = true := decide_eq_true (by omega)
     rw [if_pos cj] at H
     have HH := Aside0.mk H
     clear H
     obtain ⟨ad', ea, hx⟩ := at_nat_ (Kd.C_drewN hL.out m2) j (by omega)
     obtain rfl : ad = ad' := Option.some.inj ea
     clear ea
     have cj2 : (j : Int) + 1 ≤ (c2 : Int) := by omega
     go_wp2
     go_loopg [40] k2 (fun kq v40 w' => ∃ z : Nat, v40 = .int .i64 (z : Int) ∧ z ≤ j + 1 ∧ Aside0 (impl_ArfFailure.l2 kq (inOf o) s i j z = some (r1, r2, r3, r4)) ∧ Aside0 (kq ≤ k2) ∧ Drawn0 w2 w')
     case atStart => exact ⟨0, rfl, Nat.zero_le _, HH, ⟨Nat.le_refl _⟩, by repeat (first | exact Drawn0.refl _ | apply Drawn0.step)⟩
     case round =>
      clear HH hx
      obtain ⟨z, rfl, hz, HA, HK3, ⟨m3, rfl⟩⟩ := hrel
      cases gk with
      | zero => exact absurd HA.out (by simp [impl_ArfFailure.l2])
      | succ k3 =>
       have H := HA.out
       clear HA
       rw [impl_ArfFailure.l2] at H
       by_cases cz : z < j + 1
       rotate_left
       · have czb : decide ((z : Int) < (j : Int) + 1) = false := decide_eq_false (by omega)
         rw [if_neg cz] at H
         have HH := Aside0.mk H
         clear H
         go_wp2
         go_roundg k3
         case measure => have := HK1.out; have := HK2.out; have := HK3.out; omega
         case rel => exact ⟨j + 1, by go_num, by omega, HH, ⟨by have := HK1.out; have := HK2.out; have := HK3.out; omega⟩, by repeat (first | exact Drawn0.refl _ | apply Drawn0.step)⟩
       have czb : decide ((z : Int) < (j : Int) + 1) = true := decide_eq_true (by omega)
       rw [if_pos cz] at H
       obtain ⟨ad', ea, hx⟩ := at_nat_ (Kd.C_drewN hL.out m3) z (by omega)
       obtain rfl : ad = ad' := Option.some.inj ea
       clear ea
       have hIN : ∀ b, inOf o (wrap64 (wrap64 (rd s (i : Int) + rd s (j : Int)) - rd s (z : Int))) = b → Aside0 (∀ W, Below w2.heap.size w2 W → Calls Try.prog g (#[.int .i64 (wrap64 (wrap64 (rd s (i : Int) + rd s (j : Int)) - rd s (z : Int)))] ++ lb) W fun e w' => e = .returned (.bool b) ∧ Drawn0 W w') := fun b e => ⟨fun W hb => e ▸ hP.out W _ hb⟩
       by_cases b : inOf o (wrap64 (wrap64 (rd s (i : Int) + rd s (j : Int)) - rd s (z : Int))) = true
       rotate_left
       · have F := hIN _ (Bool.eq_false_iff.mpr b)
         rw [if_neg b] at H
         have HH := Aside0.mk (Option.some.inj H)
         clear H hIN b
         go_wp2_with (first | (go_at_fn g; refine (F.out _ (by repeat (first | exact Below.refl _ _ | apply pw_below_drewN))).mono ?_; rintro e w' ⟨rfl, ⟨q, rfl⟩⟩))
         refine bodyPost_ret (results_list (rs := [.tmp 2, .tmp 3, .tmp 4, .tmp 5]) rfl (by simp) (.tmp (.tmp (.tmp (.tmp .nil))))) rfl ?_
         obtain ⟨rfl, rfl, rfl, rfl⟩ : rd s (i : Int) = r1 ∧ rd s (j : Int) = r2 ∧ rd s (z : Int) = r3 ∧ true = r4 := by have e := HH.out; simp only [Prod.mk.injEq] at e; exact e
         exact ⟨rfl, by repeat (first | exact hW.out | apply pw_below_drewN)⟩
       have F := hIN _ b
       rw [if_pos b] at H
       have HH := Aside0.mk H
       clear H hIN b
       go_wp2_with (first | (go_at_fn g; refine (F.out _ (by repeat (first | exact Below.refl _ _ | apply pw_below_drewN))).mono ?_; rintro e w' ⟨rfl, ⟨q, rfl⟩⟩))
       go_roundg k3
       case measure => have := HK1.out; have := HK2.out; have := HK3.out; omega
       case rel => exact ⟨z + 1, by go_num, by omega, HH, ⟨by have := HK1.out; have := HK2.out; have := HK3.out; omega⟩, by repeat (first | exact Drawn0.refl _ | apply Drawn0.step)⟩
def impl_IsArf.f (k : Nat) (l0_0 : List Int) : Option (Bool) := (impl_ArfFailure.f k l0_0).bind fun bt725 => ((impl_IsSemigroup.f k l0_0).bind fun t729 => (if t729 = true then (some (!bt725.2.2.2)) else (some false)))
theorem impl_IsArf.calls (k : Nat) (A0_0 : Option Addr) (c0_0 : Nat) (l0_0 : List Int) (r : Bool) (w : World) (hr0_0 : Kd.C (Kd.int .i64) w A0_0 l0_0.length l0_0) (hc0_0 : l0_0.length ≤ c0_0) (h : impl_IsArf.f k l0_0 = some r) :
 Calls Try.prog 9 #[.agg #[.slice A0_0 l0_0.length c0_0]] w fun e w' => e = .returned (.bool r) ∧ Below w.heap.size w w' := by
 have hu26 := Try.underlying26
 have HR0_0 := Aside0.mk hr0_0
 have HC0_0 := Aside0.mk hc0_0
 clear hr0_0 hc0_0
 have HB := Aside0.mk (Below.refl w.heap.size w)
 have H := h
 clear h
 unfold impl_IsArf.f at H
 obtain ⟨⟨t725, t726, t727, t728⟩, A2, H⟩ := ob_ H
 (try dsimp only at H)
 obtain ⟨t729, A3, H⟩ := ob_ H
 by_cases c4 : t729 = true
 · subst c4
   rw [if_pos rfl] at H
   obtain rfl := Option.some.inj H
   go_enter Try.func9, Try.ntmps9
   go_wp2_with (first | ((with_reducible refine gate_dst (N := 1) rfl ?_); refine bx_ 1 #[.slice A0_0 l0_0.length c0_0] 26 ?_; intro gb724 hg w5 hbox hb; have BK724 := Aside0.mk (hbox); have GW724 := gw_ hg HB; have GE724 := gw_ hg HB; replace HB := bo_ HB hb; clear hb hbox hg; have hcz6_0 := cz_ BK724; have hfz6_0 := blk_frozen BK724.out 0) | ((with_reducible refine gate_callee (f := 10) rfl ?_); refine gL_ (some 9) Try.func10 #[.agg #[.slice A0_0 l0_0.length c0_0]] ?_; (with_reducible refine (impl_ArfFailure.calls k _ _ l0_0 t725 t726 t727 t728 _ ?side1 ?side2 A2.out).mono ?_); (case side1 => exact ch_ HR0_0 HB); (case side2 => exact HC0_0.out); rintro e w7 ⟨rfl, hb⟩; refine ⟨_, rfl, ?_⟩; replace BK724 := bk_ BK724 hb; replace HB := bp_ HB hb; (try clear hb); have hcz8_0 := cz_ BK724; have hfz8_0 := blk_frozen BK724.out 0) | ((with_reducible refine gate_callee (f := 24) rfl ?_); refine gL_ (some 15) Try.func24 #[.agg #[.slice A0_0 l0_0.length c0_0]] ?_; (with_reducible refine (impl_IsSemigroup.calls k _ _ l0_0 true _ ?side1 ?side2 A3.out).mono ?_); (case side1 => exact ch_ HR0_0 HB); (case side2 => exact HC0_0.out); rintro e w9 ⟨rfl, hb⟩; refine ⟨_, rfl, ?_⟩; replace BK724 := bk_ BK724 hb; replace HB := bp_ HB hb; (try clear hb)))
   go_ret
   exact ⟨rf_, bq_ HB⟩
 replace c4 := Bool.eq_false_iff.mpr c4
 subst c4
 rw [if_neg (show ¬ (false = true) by decide)] at H
 obtain rfl := Option.some.inj H
 go_enter Try.func9, Try.ntmps9
 go_wp2_with (first | ((with_reducible refine gate_dst (N := 1) rfl ?_); refine bx_ 1 #[.slice A0_0 l0_0.length c0_0] 26 ?_; intro gb724 hg w10 hbox hb; have BK724 := Aside0.mk (hbox); have GW724 := gw_ hg HB; have GE724 := gw_ hg HB; replace HB := bo_ HB hb; clear hb hbox hg; have hcz11_0 := cz_ BK724; have hfz11_0 := blk_frozen BK724.out 0) | ((with_reducible refine gate_callee (f := 10) rfl ?_); refine gL_ (some 9) Try.func10 #[.agg #[.slice A0_0 l0_0.length c0_0]] ?_; (with_reducible refine (impl_ArfFailure.calls k _ _ l0_0 t725 t726 t727 t728 _ ?side1 ?side2 A2.out).mono ?_); (case side1 => exact ch_ HR0_0 HB); (case side2 => exact HC0_0.out); rintro e w12 ⟨rfl, hb⟩; refine ⟨_, rfl, ?_⟩; replace BK724 := bk_ BK724 hb; replace HB := bp_ HB hb; (try clear hb); have hcz13_0 := cz_ BK724; have hfz13_0 := blk_frozen BK724.out 0) | ((with_reducible refine gate_callee (f := 24) rfl ?_); refine gL_ (some 15) Try.func24 #[.agg #[.slice A0_0 l0_0.length c0_0]] ?_; (with_reducible refine (impl_IsSemigroup.calls k _ _ l0_0 false _ ?side1 ?side2 A3.out).mono ?_); (case side1 => exact ch_ HR0_0 HB); (case side2 => exact HC0_0.out); rintro e w14 ⟨rfl, hb⟩; refine ⟨_, rfl, ?_⟩; replace BK724 := bk_ BK724 hb; replace HB := bp_ HB hb; (try clear hb)))
 go_ret
 exact ⟨rf_, bq_ HB⟩
end Go.Proofs.Ytppkokbhgkeknaa.PA
end
section
namespace Go.Proofs
open Go.Shelf
def Try.lays189_ren : Go.Shelf.Ren := ⟨fun | 189 => 78 | 125 => 83 | 257 => 82 | 128 => 93 | 129 => 94 | 294 => 84 | 295 => 85 | 296 => 86 | 297 => 87 | 298 => 88 | 299 => 89 | 216 => 90 | 300 => 91 | 301 => 92 | 328 => 95 | 329 => 96 | 330 => 97 | 331 => 98 | 332 => 99 | 215 => 100 | 343 => 101 | n => n, fun | 28 => 24 | 3 => 3 | 46 => 71 | 0 => 0 | 51 => 83 | 53 => 85 | 4 => 4 | 183 => 76 | 182 => 75 | 131 => 80 | 5 => 5 | 9 => 9 | 218 => 86 | 222 => 90 | 228 => 92 | 229 => 93 | n => n, fun | n => n⟩
theorem Try.lays189 : Go.Proofs.Lays.n189 Try.prog Try.lays189_ren := {
 mixed := by kernel_rfl
 f125 := Try.func83.trans (congrArg some (by kernel_rfl))
 f128 := Try.func93.trans (congrArg some (by kernel_rfl))
 f129 := Try.func94.trans (congrArg some (by kernel_rfl))
 f189 := Try.func78.trans (congrArg some (by kernel_rfl))
 f215 := Try.func100.trans (congrArg some (by kernel_rfl))
 f216 := Try.func90.trans (congrArg some (by kernel_rfl))
 f257 := Try.func82.trans (congrArg some (by kernel_rfl))
 f294 := Try.func84.trans (congrArg some (by kernel_rfl))
 f295 := Try.func85.trans (congrArg some (by kernel_rfl))
 f296 := Try.func86.trans (congrArg some (by kernel_rfl))
 f297 := Try.func87.trans (congrArg some (by kernel_rfl))
 f298 := Try.func88.trans (congrArg some (by kernel_rfl))
 f299 := Try.func89.trans (congrArg some (by kernel_rfl))
 f300 := Try.func91.trans (congrArg some (by kernel_rfl))
 f301 := Try.func92.trans (congrArg some (by kernel_rfl))
 f328 := Try.func95.trans (congrArg some (by kernel_rfl))
 f329 := Try.func96.trans (congrArg some (by kernel_rfl))
 f330 := Try.func97.trans (congrArg some (by kernel_rfl))
 f331 := Try.func98.trans (congrArg some (by kernel_rfl))
 f332 := Try.func99.trans (congrArg some (by kernel_rfl))
 f343 := Try.func101.trans (congrArg some (by kernel_rfl))
 t0 := Try.underlying0
 a0 := Try.isAgg0
 z0 := Try.sizeOf0
 v0 := Try.zeroValue0
 t3 := Try.underlying3
 a3 := Try.isAgg3
 z3 := Try.sizeOf3
 v3 := Try.zeroValue3
 t4 := Try.underlying4
 a4 := Try.isAgg4
 z4 := Try.sizeOf4
 v4 := Try.zeroValue4
 t5 := Try.underlying5
 a5 := Try.isAgg5
 z5 := Try.sizeOf5
 v5 := Try.zeroValue5
 t9 := Try.underlying9
 a9 := Try.isAgg9
 z9 := Try.sizeOf9
 v9 := Try.zeroValue9
 t28 := Try.underlying24
 a28 := Try.isAgg24
 z28 := Try.sizeOf24
 v28 := Try.zeroValue24
 t46 := Try.underlying71
 a46 := Try.isAgg71
 z46 := Try.sizeOf71
 v46 := Try.zeroValue71
 t51 := Try.underlying83
 a51 := Try.isAgg83
 z51 := Try.sizeOf83
 v51 := Try.zeroValue83
 t53 := Try.underlying85
 a53 := Try.isAgg85
 z53 := Try.sizeOf85
 v53 := Try.zeroValue85
 t131 := Try.underlying80
 a131 := Try.isAgg80
 z131 := Try.sizeOf80
 v131 := Try.zeroValue80
 t182 := Try.underlying75
 a182 := Try.isAgg75
 z182 := Try.sizeOf75
 v182 := Try.zeroValue75
 t183 := Try.underlying76
 a183 := Try.isAgg76
 z183 := Try.sizeOf76
 v183 := Try.zeroValue76
 t218 := Try.underlying86
 a218 := Try.isAgg86
 z218 := Try.sizeOf86
 v218 := Try.zeroValue86
 t222 := Try.underlying90
 a222 := Try.isAgg90
 z222 := Try.sizeOf90
 v222 := Try.zeroValue90
 t228 := Try.underlying92
 a228 := Try.isAgg92
 z228 := Try.sizeOf92
 v228 := Try.zeroValue92
 t229 := Try.underlying93
 a229 := Try.isAgg93
 z229 := Try.sizeOf93
 v229 := Try.zeroValue93 }
def Try.lays20_ren : Go.Shelf.Ren := ⟨fun | 20 => 79 | n => n, fun | 22 => 24 | 3 => 3 | 4 => 4 | 0 => 0 | n => n, fun | n => n⟩
theorem Try.lays20 : Go.Proofs.Lays2.n20 Try.prog Try.lays20_ren := {
 mixed := by kernel_rfl
 f20 := Try.func79.trans (congrArg some (by kernel_rfl))
 t0 := Try.underlying0
 a0 := Try.isAgg0
 z0 := Try.sizeOf0
 v0 := Try.zeroValue0
 t3 := Try.underlying3
 a3 := Try.isAgg3
 z3 := Try.sizeOf3
 v3 := Try.zeroValue3
 t4 := Try.underlying4
 a4 := Try.isAgg4
 z4 := Try.sizeOf4
 v4 := Try.zeroValue4
 t22 := Try.underlying24
 a22 := Try.isAgg24
 z22 := Try.sizeOf24
 v22 := Try.zeroValue24
 i3 := by kernel_rfl }
end Go.Proofs
end
section
namespace Go.Proofs.Ytppkokbhgkeknaa.PA
open Go.RowKit Go.Proofs.YtppkokbhgkeknaaW.PrintWords Go.Proofs.YtppkokbhgkeknaaW.PrintLast Go.Proofs.YtppkokbhgkeknaaW.PrintMore
attribute [local go_sem] max2_int min2_int max_two min_two max_three min_three max_four min_four
set_option linter.unusedVariables false
set_option linter.unusedSimpArgs false
set_option maxHeartbeats 8000000
set_option maxRecDepth 100000
theorem grow_empty_ (w : World) : Go.Sort.grow w #[] = w := by unfold Go.Sort.grow; simp
theorem slices_Sort_.calls (base : Nat) (ok : Nat → Prop) (v : Value) (xs : List Int) (w : World) (h : Kd.R (Kd.int .i64) 3 w base ok v xs) (hs : xs.length < 4611686018427387904) :
 Calls Try.prog 78 #[v] w fun e w' => e = .returned (.tuple #[]) ∧ Kd.R (Kd.int .i64) 3 w' base ok v (xs.mergeSort fun x y => decide (x ≤ y)) ∧ ∀ w0 : World, base ≤ w.heap.size → Below base w0 w → Below base w0 w' := by
 have ho : w.ownsRow base 3 1 v xs.length (encs (Value.int .i64) xs) := Kd.own_of_R h
 have hok := h.1
 rcases ho.2 with ⟨rfl, h0⟩ | ⟨g, cap, cur, rfl, hg, hb, h1, h2, h3, h4⟩
 · obtain rfl := List.eq_nil_of_length_eq_zero h0
   refine (Any.slices_Sort_int_none Try.lays189 none 0 w).mono ?_
   rintro e w' ⟨rfl, rfl⟩
   exact ⟨rfl, by simpa using h, fun _ _ hb => hb⟩
 · have hH := holds_of_blockI (ss := xs) hb (by simpa [encs] using h4)
   have hlt : g < w.heap.size := (Array.getElem?_eq_some_iff.1 hb).1
   refine (Any.slices_Sort_int Try.lays189 g 0 cap xs w hH hlt hs).mono ?_
   rintro e w' ⟨rfl, n, os, rfl⟩
   have hl : (xs.mergeSort fun x y => decide (x ≤ y)).length = xs.length := List.length_mergeSort ..
   refine ⟨rfl, Kd.R_of_own ?_ hok, fun w0 hw hb0 => hb0.grown (grownBy_sortedI _) hw (fun k hk => by injection hk with hk; omega)⟩
   have := ownsRow_sortedI (base := base) (n := n) (os := os) (ts := xs.mergeSort fun x y => decide (x ≤ y)) hl hg hb h1 h2 h3
   rw [hl]
   exact this
theorem compact_len (xs : List Int) : (Lib.compact xs).length ≤ xs.length := by
 unfold Lib.compact Lib.compactUpTo
 rw [List.length_map]
 exact Nat.le_trans (List.length_filter_le ..) (by simp)
theorem slices_Compact_.calls (base : Nat) (ok : Nat → Prop) (v : Value) (xs : List Int) (w : World) (h : Kd.R (Kd.int .i64) 3 w base ok v xs) :
 Calls Try.prog 79 #[v] w fun e w' => ∃ u, e = .returned u ∧ Kd.R (Kd.int .i64) 3 w' base ok u (Lib.compact xs) ∧ ∀ w0 : World, base ≤ w.heap.size → Below base w0 w → Below base w0 w' := by
 have ho : w.ownsRow base 3 1 v xs.length (encs (Value.int .i64) xs) := Kd.own_of_R h
 have hok := h.1
 have cl := compact_len xs
 rcases ho.2 with ⟨rfl, h0⟩ | ⟨g, cap, cur, rfl, hg, hb, h1, h2, h3, h4⟩
 · obtain rfl := List.eq_nil_of_length_eq_zero h0
   refine (Any.slices_Compact_int_empty Try.lays20 none 0 w).mono ?_
   rintro e w' ⟨rfl, rfl⟩
   exact ⟨_, rfl, h, fun _ _ hb => hb⟩
 · have hH := holds_of_blockI (ss := xs) hb (by simpa [encs] using h4)
   refine (Any.slices_Compact_int Try.lays20 g 0 cap xs w hH (by simp only [maxLen] at h2; omega) h1).mono ?_
   rintro e w' ⟨rfl, q, rfl⟩
   have hl : (Lib.compact xs ++ List.replicate (xs.length - (Lib.compact xs).length) 0).length = xs.length := by rw [List.length_append, List.length_replicate]; omega
   have hg0 := grow_empty_ (Go.Sort.putRow (Value.int .i64) (Go.Sort.ahead w q) g 0 (Lib.compact xs ++ List.replicate (xs.length - (Lib.compact xs).length) 0).toArray)
   have own := ownsRow_sortedI (base := base) (n := q) (os := #[]) (ts := Lib.compact xs ++ List.replicate (xs.length - (Lib.compact xs).length) 0) hl hg hb h1 h2 h3
   have gb := grownBy_sortedI (w := w) (g := g) (n := q) (os := #[]) (Lib.compact xs ++ List.replicate (xs.length - (Lib.compact xs).length) 0).toArray
   rw [hg0] at own gb
   refine ⟨_, rfl, Kd.R_of_own ?_ (fun k hk => hok k (by simpa [Value.ownBlock] using hk)), fun w0 hw hb0 => hb0.grown gb hw (fun k hk => by injection hk with hk; omega)⟩
   rcases own.2 with ⟨hv, _⟩ | ⟨g', cap', cur', hv, hg', hb', _, _, h3', h4'⟩
   · cases hv
   · injection hv with hv1 hv2 hv3
     injection hv1 with hv1
     injection hv1 with hv1
     subst hv1 hv3
     refine ⟨by rw [encs_length]; omega, .inr ⟨g, cap, cur', rfl, hg, hb', by omega, h2, h3', ?_⟩⟩
     have := congrArg (List.take (Lib.compact xs).length) h4'
     rw [List.take_take, Nat.mul_one, Nat.min_eq_left cl] at this
     rw [Nat.mul_one, this, List.map_append, List.take_left' (by simp)]
     rfl
def impl_SortList.f (k : Nat) (l : List Int) : Option (List Int) := if l.length < 17592186044416 then some (Lib.compact (l.mergeSort fun x y => decide (x ≤ y))) else none
theorem impl_SortList.calls (k : Nat) (A0 : Option Addr) (c0 : Nat) (l0 : List Int) (r : List Int) (w : World) (hr0 : Kd.C (Kd.int .i64) w A0 l0.length l0) (hc0 : l0.length ≤ c0) (h : impl_SortList.f k l0 = some r) :
 Calls Try.prog 69 #[.slice A0 l0.length c0] w fun e w' => ∃ v0_, e = .returned v0_ ∧ Kd.R (Kd.int .i64) 3 w' w.heap.size (fun _ => True) v0_ r ∧ Below w.heap.size w w' := by
 unfold impl_SortList.f at h
 by_cases c : l0.length < 17592186044416
 rotate_left
 · rw [if_neg c] at h; cases h
 rw [if_pos c] at h
 obtain rfl := Option.some.inj h
 clear h
 have hl := Aside0.mk c
 clear c
 have HR0 := Aside0.mk hr0
 clear hr0
 have huT_ := Try.underlying24
 go_enter Try.func69, Try.ntmps69
 go_wp2_with (first
  | ((with_reducible refine gate_dst (N := 4) rfl ?_); refine Kd.R_lit (Kd.int .i64) _ 3 ?hg (N := 4) ?hd (xs := ([] : List Int)) (inner := []) (ok := fun _ => True) (okp := fun _ => True) ?hr ?hp (fun _ hk => hk) trivial (Below.refl _ _) (Nat.le_refl _) (by simp) ?_; (case hd => rfl); (case hg => rfl); (case hr => first | (go_simp; done) | (go_simp; rfl)); (case hp => exact (Reps.none _ _)); intro v1 w1 ho hb hg_ hnew_; clear hg_ hnew_; have HO1 := Aside0.mk ho; have HB1 := Aside0.mk hb; clear ho hb)
  | ((with_reducible refine gate_builtin (b := .append) (xs := #[.tmp 4, .tmp 5]) rfl ?_); at_builtin; refine Kd.R_append_rows (Kd.int .i64) (w0 := w) w.heap.size rfl (.tmp 4) (.tmp 5) 24 3 (.int .i64 0) 8 rfl Try.underlying24 info3 rfl (by decide) (by omega) v1 [] l0 _ _ _ (fun _ => True) (fun _ => False) rfl rfl ?aO ?aR (fun _ _ h => h) (fun _ h => h.elim) (fun _ _ => trivial) ?aB ?aS ?aL ?_; (case aO => exact HO1.out); (case aR => exact Kd.C_below HR0.out HB1.out); (case aB => exact HB1.out); (case aS => exact below_size HB1.out); (case aL => have := hl.out; simp only [List.length_nil]; omega); intro v2 w2 ho hb hg hat; clear hg hat; have HO2 := Aside0.mk ho; have HB2 := Aside0.mk hb; clear ho hb)
  | (go_at_call 78; refine (slices_Sort_.calls w.heap.size (fun _ => True) v2 l0 _ HO2.out (by have := hl.out; omega)).mono ?_; rintro e w3 ⟨rfl, ho, hb⟩; have HO3 := Aside0.mk ho; have HB3 := Aside0.mk (hb w (below_size HB2.out) HB2.out); clear ho hb)
  | (go_at_call 79; refine (slices_Compact_.calls w.heap.size (fun _ => True) v2 _ _ HO3.out).mono ?_; rintro e w4 ⟨v4, rfl, ho, hb⟩; have HO4 := Aside0.mk ho; have HB4 := Aside0.mk (hb w (below_size HB3.out) HB3.out); clear ho hb))
 go_ret
 exact ⟨_, rfl, HO4.out, HB4.out⟩
end Go.Proofs.Ytppkokbhgkeknaa.PA
end
