-- Bundled by shake.py from this session's printed and written texts; Lean checks it.
import Derived.Test.YtppkokbhgkeknaaZFnArfx1
import Derived.Test.YtppkokbhgkeknaaZFnArfx7
section
namespace Go.Proofs.Ytppkokbhgkeknaa.PA
open Go.RowKit Go.Proofs.YtppkokbhgkeknaaW.PrintWords Go.Proofs.YtppkokbhgkeknaaW.PrintLast Go.Proofs.YtppkokbhgkeknaaW.PrintMore
attribute [local go_sem] max2_int min2_int max_two min_two max_three min_three max_four min_four
set_option linter.unusedVariables false
set_option linter.unusedSimpArgs false
set_option maxHeartbeats 8000000
set_option maxRecDepth 100000
mutual
def impl_GapClash.j0 : Nat → List Int → Bool → Option (Int × Int × Bool)
 | 0, _, _ => none
 | k + 1, x0, x17 => if x17 = true then (some (0, 0, false)) else (if 201 ≤ 281474976710656 then (impl_GapClash.l0 k x0 (List.replicate 201 false) x0 (x0.length : Int) 0) else (none))
def impl_GapClash.l0 : Nat → List Int → List Bool → List Int → Int → Int → Option (Int × Int × Bool)
 | 0, _, _, _, _, _ => none
 | k + 1, x0, x4, x20, x21, x22 => if x22 < x21 then (if 0 ≤ x22 then (if x22 < (x20.length : Int) then (if 0 ≤ (rd x20 x22) then (if (rd x20 x22) < (x4.length : Int) then (impl_GapClash.l0 k x0 (x4.set ((rd x20 x22) : Int).toNat true) x20 x21 (wrap64 (x22 + 1))) else (none)) else (none)) else (none)) else (none)) else (if 0 ≤ (wrap64 ((x0.length : Int) - 1)) then (if (wrap64 ((x0.length : Int) - 1)) < (x0.length : Int) then (impl_GapClash.l1 k x4 (rd x0 (wrap64 ((x0.length : Int) - 1))) 1) else (none)) else (none))
def impl_GapClash.l1 : Nat → List Bool → Int → Int → Option (Int × Int × Bool)
 | 0, _, _, _ => none
 | k + 1, x4, x7, x8 => if x8 ≤ x7 then (impl_GapClash.l2 k x4 x7 x8 x8) else (some (0, 0, false))
def impl_GapClash.l2 : Nat → List Bool → Int → Int → Int → Option (Int × Int × Bool)
 | 0, _, _, _, _ => none
 | k + 1, x4, x7, x8, x9 => if (wrap64 (x8 + x9)) ≤ x7 then (if 0 ≤ x8 then (if x8 < (x4.length : Int) then (if rdOf false x4 x8 = true then (impl_GapClash.l2 k x4 x7 x8 (wrap64 (x9 + 1))) else (if 0 ≤ x9 then (if x9 < (x4.length : Int) then (if rdOf false x4 x9 = true then (impl_GapClash.l2 k x4 x7 x8 (wrap64 (x9 + 1))) else (if 0 ≤ (wrap64 (x8 + x9)) then (if (wrap64 (x8 + x9)) < (x4.length : Int) then (if rdOf false x4 (wrap64 (x8 + x9)) = true then (some (x8, x9, true)) else (impl_GapClash.l2 k x4 x7 x8 (wrap64 (x9 + 1)))) else (none)) else (none))) else (none)) else (none))) else (none)) else (none)) else (impl_GapClash.l1 k x4 x7 (wrap64 (x8 + 1)))
end
def impl_GapClash.f (k : Nat) (l0 : List Int) : Option (Int × Int × Bool) := (impl_gapList.f k l0).bind fun t609 => (if t609 = true then (impl_GapClash.j0 k l0 ((l0.length : Int) == 0)) else (impl_GapClash.j0 k l0 true))
theorem impl_GapClash.calls (k : Nat) (A0 : Option Addr) (c0 : Nat) (l0 : List Int) (r1 : Int) (r2 : Int) (r3 : Bool) (w : World) (hr0 : Kd.C (Kd.int .i64) w A0 l0.length l0) (hc0 : l0.length ≤ c0) (h : impl_GapClash.f k l0 = some (r1, r2, r3)) :
 Calls Try.prog 51 #[.slice A0 l0.length c0] w fun e w' => e = .returned (.tuple #[.agg #[.int .i64 r1, .int .i64 r2], .bool r3]) ∧ Below w.heap.size w w' := by
 have hu61 := Try.underlying61
 have HR0 := Aside0.mk hr0
 have HC0 := Aside0.mk hc0
 clear hr0 hc0
 have HB := Aside0.mk (Below.refl w.heap.size w)
 have H := h
 clear h
 unfold impl_GapClash.f at H
 have HC2 := Aside0.mk H
 clear H
 go_enter Try.func51, Try.ntmps51
 go_upto_region 1 with (first | ((with_reducible refine gate_dst (N := 2) rfl ?_); (try (refine gate_guard (by rfl) ?_; dsimp only)); refine bx_ 2 #[.int .i64 0, .int .i64 0] 61 ?_; intro gb608 hg w3 hbox hb; have BK608 := Aside0.mk (hbox); have GW608 := gw_ hg HB; have GE608 := gw_ hg HB; replace HB := bo_ HB hb; clear hb hbox hg))
 (try simp only [Act.put, z1_, z2_, z3_])
 go_cut [17] (fun v17 wc => ∃ (kq : Nat) (x17_1 : Bool), v17 = .bool x17_1 ∧ Aside0 (impl_GapClash.j0 kq l0 x17_1 = some (r1, r2, r3)) ∧ Aside0 (kq ≤ k) ∧ Aside0 (wc.heap[gb608]? = some (.cells #[.int .i64 0, .int .i64 0] 61 (0, 0))) ∧ Aside0 (Below w.heap.size w wc))
 case first =>
  have H := HC2.out
  clear HC2
  obtain ⟨t609, A4, H⟩ := ob_ H
  by_cases c5 : t609 = true
  · subst c5
    rw [if_pos rfl] at H
    have H' := Aside0.mk H
    clear H
    go_wp2_with (first | ((with_reducible refine gate_callee (f := 52) rfl ?_); refine gL_ (some 11) Try.func52 #[.slice A0 l0.length c0] ?_; (with_reducible refine (impl_gapList.calls k _ _ l0 true _ ?side1 ?side2 A4.out).mono ?_); (case side1 => exact ch_ HR0 HB); (case side2 => exact HC0.out); rintro e w' ⟨rfl, ⟨nd, rfl⟩⟩; refine ⟨_, rfl, ?_⟩))
    go_meet
    case rel => exact ⟨_, (((l0.length : Int) == 0)), rs_, H', ⟨by first | omega | exact Nat.le_refl _⟩, ⟨be_ BK608.out⟩, ⟨bq_ HB⟩⟩
  replace c5 := Bool.eq_false_iff.mpr c5
  subst c5
  rw [if_neg (show ¬ (false = true) by decide)] at H
  have H' := Aside0.mk H
  clear H
  go_wp2_with (first | ((with_reducible refine gate_callee (f := 52) rfl ?_); refine gL_ (some 11) Try.func52 #[.slice A0 l0.length c0] ?_; (with_reducible refine (impl_gapList.calls k _ _ l0 false _ ?side1 ?side2 A4.out).mono ?_); (case side1 => exact ch_ HR0 HB); (case side2 => exact HC0.out); rintro e w' ⟨rfl, ⟨nd, rfl⟩⟩; refine ⟨_, rfl, ?_⟩))
  go_meet
  case rel => exact ⟨_, (true), rs_, H', ⟨by first | omega | exact Nat.le_refl _⟩, ⟨be_ BK608.out⟩, ⟨bq_ HB⟩⟩
 case rest =>
  clear HC2
  obtain ⟨kq, x17_1, rfl, HA, HJ1, BK608, HB⟩ := hcut
  cases kq with
  | zero => exact absurd HA.out (by simp [impl_GapClash.j0])
  | succ kj1 =>
   have H := HA.out
   clear HA
   simp only [impl_GapClash.j0] at H
   by_cases c6 : x17_1 = true
   · subst c6
     rw [if_pos rfl] at H
     simp only [Option.some.injEq, Prod.mk.injEq] at H
     obtain ⟨rfl, rfl, rfl⟩ := H
     have hcz7_0 : wc.cell? ⟨gb608, 0, none⟩ = some (.int .i64 0) := (blk_cell BK608.out 0).trans rfl
     have hcz7_1 : wc.cell? ⟨gb608, 1, none⟩ = some (.int .i64 0) := (blk_cell BK608.out 1).trans rfl
     have hfz7_0 := blk_frozen BK608.out 0
     have hfz7_1 := blk_frozen BK608.out 1
     go_wp2
     refine bodyPost_ret (results_ct rfl _ _ gb608 61 #[.int .i64 0, .int .i64 0] (0, 0) _ rfl (by (with_reducible repeat (first | refine blk_drewN ?_ _ | refine blk_drew ?_ | refine blk_alloc ?_ _)); refine blk_put (cs := #[.int .i64 0, .int .i64 0]) ?_ 1 _ rfl; (with_reducible repeat (first | refine blk_drewN ?_ _ | refine blk_drew ?_ | refine blk_alloc ?_ _)); refine blk_put (cs := #[.int .i64 0, .int .i64 0]) ?_ 0 _ rfl; (with_reducible repeat (first | refine blk_drewN ?_ _ | refine blk_drew ?_ | refine blk_alloc ?_ _)); exact BK608.out) Try.underlying61 rfl (by kernel_rfl)) rfl ?_
     exact ⟨rf_, bq_ HB⟩
   replace c6 := Bool.eq_false_iff.mpr c6
   subst c6
   rw [if_neg (show ¬ (false = true) by decide)] at H
   obtain ⟨c8, H⟩ := ip_ H
   have c8b0 := eq_true c8
   have c8b1 : decide (201 ≤ 281474976710656) = true := decide_eq_true c8
   clear c8
   obtain ⟨y610, hy610⟩ : ∃ y_ : List Bool, y_ = (List.replicate 201 false) := ⟨_, rfl⟩
   replace H : (impl_GapClash.l0 kj1 l0 y610 l0 (l0.length : Int) 0) = some (r1, r2, r3) := by subst hy610; exact H
   have Ny610 := Aside0.mk hy610
   clear hy610
   have H' := Aside0.mk H
   clear H
   go_wp2_with (first | ((with_reducible refine gate_dst (N := 19) rfl ?_); (try (refine gate_guard (by rfl) ?_; dsimp only)); refine Kd.R_make Kd.bool _ 4 rfl (N := 19) rfl 42 _ _ rfl 201 rfl rfl Try.underlying42 (.bool false) 1 info4 rfl (by decide) (by omega) false (ok := fun _ => True) (okp := fun _ => True) rfl (fun _ hk => hk) trivial (by omega) (by omega) (Below.refl _ _) (Nat.le_refl _) ?_; intro v611 w9 ho10 hb hg_ hnew_; clear hg_ hnew_; (first | rw [← Ny610.out] at ho10 | (simp only [Int.reduceToNat] at ho10; rw [← Ny610.out] at ho10)); have HO612 := Aside0.mk (Kd.R_lower ho10 (below_size (bq_ HB))); replace BK608 := bk_ BK608 hb; replace HB := bp_ HB hb; clear hb ho10))
   go_loopg [22] kj1 (fun kq v22 w' => ∃ (x4_2 : List Bool) (x22_2 : Int), v22 = .int .i64 x22_2 ∧ Aside0 (impl_GapClash.l0 kq l0 x4_2 l0 (l0.length : Int) x22_2 = some (r1, r2, r3)) ∧ Aside0 (kq ≤ kj1) ∧ Aside0 (Kd.R Kd.bool 4 w' w.heap.size (fun _ => True) v611 x4_2) ∧ Aside0 (w'.heap[gb608]? = some (.cells #[.int .i64 0, .int .i64 0] 61 (0, 0))) ∧ Aside0 (Below w.heap.size w w'))
   case atStart => exact ⟨(y610), (0), rs_, H', ⟨Nat.le_refl _⟩, ⟨re_ HO612.out⟩, ⟨be_ BK608.out⟩, ⟨bq_ HB⟩⟩
   case round =>
    clear H'
    try clear c8b0
    try clear c8b1
    obtain ⟨x4_2, x22_2, rfl, HA, HK2, HO_4, BK608, HB⟩ := hrel
    cases gk with
    | zero => exact absurd HA.out (by simp [impl_GapClash.l0])
    | succ k2 =>
     have H := HA.out
     clear HA
     simp only [impl_GapClash.l0] at H
     by_cases c11 : x22_2 < (l0.length : Int)
     · rw [if_pos c11] at H
       have c11b0 : decide (x22_2 < (l0.length : Int)) = true := decide_eq_true c11
       clear c11
       obtain ⟨c12b0, H⟩ := ipd_ H
       obtain ⟨c13b0, H⟩ := ipd_ H
       obtain ⟨c14b0, H⟩ := ipd_ H
       obtain ⟨c15b0, H⟩ := ipd_ H
       obtain ⟨y614, hy614⟩ : ∃ y_ : List Bool, y_ = (x4_2.set ((rd l0 x22_2) : Int).toNat true) := ⟨_, rfl⟩
       replace H : (impl_GapClash.l0 k2 l0 y614 l0 (l0.length : Int) (wrap64 (x22_2 + 1))) = some (r1, r2, r3) := by subst hy614; exact H
       have Ny614 := Aside0.mk hy614
       clear hy614
       have H' := Aside0.mk H
       clear H
       have p613 : 0 ≤ (x22_2 : Int) := od_
       have q613 : x22_2 < (l0.length : Int) := od_
       obtain ⟨ad613, e613, hx613_0⟩ := Kd.at_int HR0.out x22_2 p613 q613
       cases e613
       (try replace hx613_0 := (HB.out.cell (World.block_lt_of_cell? w _ hx613_0)).trans hx613_0)
       replace p613 := eq_true p613
       replace q613 := eq_true q613
       have p16 : 0 ≤ ((rd l0 x22_2) : Int) := od_
       have q16 : ((rd l0 x22_2) : Int) < ((x4_2.length : Int) : Int) := od_
       obtain ⟨go16, co16, eo16, gb16, gl16, cl16, HG16⟩ := Kd.R_form HO_4.out (by omega)
       (first | cases eo16 | (injection eo16 with ea_ en_ ec_; (first | subst ea_ | (injection ea_ with ea_; subst ea_)); subst ec_; clear en_))
       have GB16 := Aside0.mk gb16
       have GG16 := Aside0.mk HG16
       clear gb16 gl16 HG16
       obtain ⟨hx16_0, hf16_0⟩ := Kd.R_celln false HO_4.out ((rd l0 x22_2) : Int) p16 q16
       replace p16 := eq_true p16
       replace q16 := eq_true q16
       have HP17 := Kd.R_putg HO_4.out ((rd l0 x22_2) : Int) true
       go_wp2_with (first | ((with_reducible refine gate_store (t := 4) (p := 28) rfl ?_); refine store_event (t := 4) (p := 28) (v := ?vo_w18) (w1 := (wr.setCell ⟨go16, ((rd l0 x22_2) : Int).toNat, none⟩ (.bool true))) ?hg ?ho ?hn ?hr ?_; (case ho => rfl); (case hg => rfl); (case hn => rfl); (case hr => first | (go_simp; done) | (go_simp; rfl)); intro w18 hw; have hg : wr.grownBy w18 (some go16) := (by rw [hw]; exact HP17.2); have hp_ : Kd.R Kd.bool 4 w18 w.heap.size (fun _ => True) (.slice (some ⟨go16, 0, none⟩) x4_2.length co16) y614 := (by rw [hw, Ny614.out]; exact HP17.1); clear HP17; replace BK608 := Aside0.mk (blk_grown (be_ BK608.out) hg (Kd.R_ne HO_4.out BK608.out (by decide))); replace HO_4 := Aside0.mk (hp_); replace HB := Aside0.mk ((by rw [hw]; exact below_set (HB.out) GB16.out : Below w.heap.size w w18)); clear hg hw hp_))
       go_roundg k2
       case measure => have := HJ1.out; have := HK2.out; omega
       case rel => exact ⟨(y614), (wrap64 (x22_2 + 1)), rs_, H', ⟨by have := HJ1.out; have := HK2.out; omega⟩, ⟨re_ HO_4.out⟩, ⟨be_ BK608.out⟩, ⟨bq_ HB⟩⟩
     rw [if_neg c11] at H
     have c11b0 : decide (x22_2 < (l0.length : Int)) = false := decide_eq_false c11
     clear c11
     obtain ⟨ji19, hji19⟩ : ∃ j_ : Int, (wrap64 ((l0.length : Int) - 1)) = j_ := ⟨_, rfl⟩
     replace H : (if 0 ≤ (ji19) then (if (ji19) < (l0.length : Int) then (impl_GapClash.l1 k2 x4_2 (rd l0 (ji19)) 1) else (none)) else (none)) = some (r1, r2, r3) := by first | (rw [hji19] at H; exact H) | (simp only [hji19] at H ⊢; exact H)
     have hji19w : (IntKind.i64.wrap ((l0.length : Int) - 1)) = ji19 := (i64_w _).trans hji19
     obtain ⟨c20b0, H⟩ := ipd_ H
     obtain ⟨c21b0, H⟩ := ipd_ H
     have H' := Aside0.mk H
     clear H
     have p615 : 0 ≤ ((ji19) : Int) := od_
     have q615 : (ji19) < (l0.length : Int) := od_
     obtain ⟨ad615, e615, hx615_0⟩ := Kd.at_int HR0.out (ji19) p615 q615
     cases e615
     (try replace hx615_0 := (HB.out.cell (World.block_lt_of_cell? w _ hx615_0)).trans hx615_0)
     replace p615 := eq_true p615
     replace q615 := eq_true q615
     go_wp2
     go_loopg [8] k2 (fun kq v8 w' => ∃ (x8_3 : Int) (x609000_3 : Int) (x609001_3 : Int), v8 = .int .i64 x8_3 ∧ Aside0 (impl_GapClash.l1 kq x4_2 (rd l0 (ji19)) x8_3 = some (r1, r2, r3)) ∧ Aside0 (kq ≤ k2) ∧ Aside0 (Kd.R Kd.bool 4 w' w.heap.size (fun _ => True) v611 x4_2) ∧ Aside0 (w'.heap[gb608]? = some (.cells #[.int .i64 x609000_3, .int .i64 x609001_3] 61 (0, 0))) ∧ Aside0 (Below w.heap.size w w'))
     case atStart => exact ⟨(1), (0), (0), rs_, H', ⟨Nat.le_refl _⟩, ⟨re_ HO_4.out⟩, ⟨be_ BK608.out⟩, ⟨bq_ HB⟩⟩
     case round =>
      clear H'
      try clear c11b0
      try clear c20b0
      try clear c21b0
      try clear hx615_0
      try clear p615
      try clear q615
      obtain ⟨x8_3, x609000_3, x609001_3, rfl, HA, HK3, HO_4, BK608, HB⟩ := hrel
      cases gk with
      | zero => exact absurd HA.out (by simp [impl_GapClash.l1])
      | succ k3 =>
       have H := HA.out
       clear HA
       simp only [impl_GapClash.l1] at H
       by_cases c22 : x8_3 ≤ (rd l0 (ji19))
       rotate_left
       · rw [if_neg c22] at H
         have c22b0 : decide (x8_3 ≤ (rd l0 (ji19))) = false := decide_eq_false c22
         clear c22
         simp only [Option.some.injEq, Prod.mk.injEq] at H
         obtain ⟨rfl, rfl, rfl⟩ := H
         have hcz42_0 : wr.cell? ⟨gb608, 0, none⟩ = some (.int .i64 x609000_3) := (blk_cell BK608.out 0).trans rfl
         have hcz42_1 : wr.cell? ⟨gb608, 1, none⟩ = some (.int .i64 x609001_3) := (blk_cell BK608.out 1).trans rfl
         have hfz42_0 := blk_frozen BK608.out 0
         have hfz42_1 := blk_frozen BK608.out 1
         go_wp2
         refine bodyPost_ret (results_ct rfl _ _ gb608 61 #[.int .i64 0, .int .i64 0] (0, 0) _ rfl (by (with_reducible repeat (first | refine blk_drewN ?_ _ | refine blk_drew ?_ | refine blk_alloc ?_ _)); refine blk_put (cs := #[.int .i64 0, .int .i64 x609001_3]) ?_ 1 _ rfl; (with_reducible repeat (first | refine blk_drewN ?_ _ | refine blk_drew ?_ | refine blk_alloc ?_ _)); refine blk_put (cs := #[.int .i64 x609000_3, .int .i64 x609001_3]) ?_ 0 _ rfl; (with_reducible repeat (first | refine blk_drewN ?_ _ | refine blk_drew ?_ | refine blk_alloc ?_ _)); exact BK608.out) Try.underlying61 rfl (by kernel_rfl)) rfl ?_
         exact ⟨by first | rfl | (simp [errW_none, errW_some] <;> rfl) | (simp only [← hji19]; first | rfl | (simp [errW_none, errW_some] <;> rfl)) | (simp [*, errW_none, errW_some] <;> rfl), bq_ HB⟩
       rw [if_pos c22] at H
       have c22b0 : decide (x8_3 ≤ (rd l0 (ji19))) = true := decide_eq_true c22
       clear c22
       have H' := Aside0.mk H
       clear H
       go_wp2
       go_loopg [9] k3 (fun kq v9 w' => ∃ (x9_4 : Int) (x609000_4 : Int) (x609001_4 : Int), v9 = .int .i64 x9_4 ∧ Aside0 (impl_GapClash.l2 kq x4_2 (rd l0 (ji19)) x8_3 x9_4 = some (r1, r2, r3)) ∧ Aside0 (kq ≤ k3) ∧ Aside0 (Kd.R Kd.bool 4 w' w.heap.size (fun _ => True) v611 x4_2) ∧ Aside0 (w'.heap[gb608]? = some (.cells #[.int .i64 x609000_4, .int .i64 x609001_4] 61 (0, 0))) ∧ Aside0 (Below w.heap.size w w'))
       case atStart => exact ⟨(x8_3), (x609000_3), (x609001_3), rs_, H', ⟨Nat.le_refl _⟩, ⟨re_ HO_4.out⟩, ⟨be_ BK608.out⟩, ⟨bq_ HB⟩⟩
       case round =>
        clear H'
        try clear c22b0
        obtain ⟨x9_4, x609000_4, x609001_4, rfl, HA, HK4, HO_4, BK608, HB⟩ := hrel
        cases gk with
        | zero => exact absurd HA.out (by simp [impl_GapClash.l2])
        | succ k4 =>
         have H := HA.out
         clear HA
         simp only [impl_GapClash.l2] at H
         by_cases c23 : (wrap64 (x8_3 + x9_4)) ≤ (rd l0 (ji19))
         rotate_left
         · rw [if_neg c23] at H
           have c23b0 : decide ((wrap64 (x8_3 + x9_4)) ≤ (rd l0 (ji19))) = false := decide_eq_false c23
           clear c23
           have H' := Aside0.mk H
           clear H
           go_wp2
           go_roundg k4
           case measure => have := HJ1.out; have := HK2.out; have := HK3.out; have := HK4.out; omega
           case rel => exact ⟨(wrap64 (x8_3 + 1)), (x609000_4), (x609001_4), rs_, H', ⟨by have := HJ1.out; have := HK2.out; have := HK3.out; have := HK4.out; omega⟩, ⟨re_ HO_4.out⟩, ⟨be_ BK608.out⟩, ⟨bq_ HB⟩⟩
         rw [if_pos c23] at H
         have c23b0 : decide ((wrap64 (x8_3 + x9_4)) ≤ (rd l0 (ji19))) = true := decide_eq_true c23
         clear c23
         obtain ⟨c24b0, H⟩ := ipd_ H
         obtain ⟨c25b0, H⟩ := ipd_ H
         obtain ⟨bq26, hbq26⟩ : ∃ b_ : Bool, b_ = (rdOf false x4_2 x8_3) := ⟨_, rfl⟩
         replace H : (if bq26 = true then (impl_GapClash.l2 k4 x4_2 (rd l0 (ji19)) x8_3 (wrap64 (x9_4 + 1))) else (if 0 ≤ x9_4 then (if x9_4 < (x4_2.length : Int) then (if rdOf false x4_2 x9_4 = true then (impl_GapClash.l2 k4 x4_2 (rd l0 (ji19)) x8_3 (wrap64 (x9_4 + 1))) else (if 0 ≤ (wrap64 (x8_3 + x9_4)) then (if (wrap64 (x8_3 + x9_4)) < (x4_2.length : Int) then (if rdOf false x4_2 (wrap64 (x8_3 + x9_4)) = true then (some (x8_3, x9_4, true)) else (impl_GapClash.l2 k4 x4_2 (rd l0 (ji19)) x8_3 (wrap64 (x9_4 + 1)))) else (none)) else (none))) else (none)) else (none))) = some (r1, r2, r3) := by rw [← hbq26] at H; exact H
         have Nbq26 := Aside0.mk hbq26
         clear hbq26
         by_cases c27 : bq26 = true
         · subst c27
           rw [if_pos rfl] at H
           have H' := Aside0.mk H
           clear H
           obtain ⟨Ao28, co28, eo28⟩ := Kd.R_slice HO_4.out
           subst eo28
           have p616 : 0 ≤ (x8_3 : Int) := od_
           have q616 : x8_3 < (x4_2.length : Int) := od_
           obtain ⟨ad616, e616, hx616_0⟩ := Kd.at_bool (Kd.R_reads' HO_4.out).2.2 x8_3 p616 q616
           (try rw [← Nbq26.out] at hx616_0)
           cases e616
           replace p616 := eq_true p616
           replace q616 := eq_true q616
           go_wp2
           go_roundg k4
           case measure => have := HJ1.out; have := HK2.out; have := HK3.out; have := HK4.out; omega
           case rel => exact ⟨(wrap64 (x9_4 + 1)), (x609000_4), (x609001_4), rs_, H', ⟨by have := HJ1.out; have := HK2.out; have := HK3.out; have := HK4.out; omega⟩, ⟨re_ HO_4.out⟩, ⟨be_ BK608.out⟩, ⟨bq_ HB⟩⟩
         replace c27 := Bool.eq_false_iff.mpr c27
         subst c27
         rw [if_neg (show ¬ (false = true) by decide)] at H
         obtain ⟨c29b0, H⟩ := ipd_ H
         obtain ⟨c30b0, H⟩ := ipd_ H
         obtain ⟨bq31, hbq31⟩ : ∃ b_ : Bool, b_ = (rdOf false x4_2 x9_4) := ⟨_, rfl⟩
         replace H : (if bq31 = true then (impl_GapClash.l2 k4 x4_2 (rd l0 (ji19)) x8_3 (wrap64 (x9_4 + 1))) else (if 0 ≤ (wrap64 (x8_3 + x9_4)) then (if (wrap64 (x8_3 + x9_4)) < (x4_2.length : Int) then (if rdOf false x4_2 (wrap64 (x8_3 + x9_4)) = true then (some (x8_3, x9_4, true)) else (impl_GapClash.l2 k4 x4_2 (rd l0 (ji19)) x8_3 (wrap64 (x9_4 + 1)))) else (none)) else (none))) = some (r1, r2, r3) := by rw [← hbq31] at H; exact H
         have Nbq31 := Aside0.mk hbq31
         clear hbq31
         by_cases c32 : bq31 = true
         · subst c32
           rw [if_pos rfl] at H
           have H' := Aside0.mk H
           clear H
           obtain ⟨Ao33, co33, eo33⟩ := Kd.R_slice HO_4.out
           subst eo33
           have p616 : 0 ≤ (x8_3 : Int) := od_
           have q616 : x8_3 < (x4_2.length : Int) := od_
           obtain ⟨ad616, e616, hx616_0⟩ := Kd.at_bool (Kd.R_reads' HO_4.out).2.2 x8_3 p616 q616
           (try rw [← Nbq26.out] at hx616_0)
           (try rw [← Nbq31.out] at hx616_0)
           cases e616
           replace p616 := eq_true p616
           replace q616 := eq_true q616
           have p617 : 0 ≤ (x9_4 : Int) := od_
           have q617 : x9_4 < (x4_2.length : Int) := od_
           obtain ⟨ad617, e617, hx617_0⟩ := Kd.at_bool (Kd.R_reads' HO_4.out).2.2 x9_4 p617 q617
           (try rw [← Nbq26.out] at hx617_0)
           (try rw [← Nbq31.out] at hx617_0)
           obtain rfl : ad616 = ad617 := (by injection e617)
           replace p617 := eq_true p617
           replace q617 := eq_true q617
           go_wp2
           go_roundg k4
           case measure => have := HJ1.out; have := HK2.out; have := HK3.out; have := HK4.out; omega
           case rel => exact ⟨(wrap64 (x9_4 + 1)), (x609000_4), (x609001_4), rs_, H', ⟨by have := HJ1.out; have := HK2.out; have := HK3.out; have := HK4.out; omega⟩, ⟨re_ HO_4.out⟩, ⟨be_ BK608.out⟩, ⟨bq_ HB⟩⟩
         replace c32 := Bool.eq_false_iff.mpr c32
         subst c32
         rw [if_neg (show ¬ (false = true) by decide)] at H
         obtain ⟨ji34, hji34⟩ : ∃ j_ : Int, (wrap64 (x8_3 + x9_4)) = j_ := ⟨_, rfl⟩
         replace H : (if 0 ≤ (ji34) then (if (ji34) < (x4_2.length : Int) then (if rdOf false x4_2 (ji34) = true then (some (x8_3, x9_4, true)) else (impl_GapClash.l2 k4 x4_2 (rd l0 (ji19)) x8_3 (wrap64 (x9_4 + 1)))) else (none)) else (none)) = some (r1, r2, r3) := by first | (rw [hji34] at H; exact H) | (simp only [hji34] at H ⊢; exact H)
         (try rw [hji34] at c23b0)
         have hji34w : (IntKind.i64.wrap (x8_3 + x9_4)) = ji34 := (i64_w _).trans hji34
         obtain ⟨c35b0, H⟩ := ipd_ H
         obtain ⟨c36b0, H⟩ := ipd_ H
         obtain ⟨bq37, hbq37⟩ : ∃ b_ : Bool, b_ = (rdOf false x4_2 (ji34)) := ⟨_, rfl⟩
         replace H : (if bq37 = true then (some (x8_3, x9_4, true)) else (impl_GapClash.l2 k4 x4_2 (rd l0 (ji19)) x8_3 (wrap64 (x9_4 + 1)))) = some (r1, r2, r3) := by rw [← hbq37] at H; exact H
         have Nbq37 := Aside0.mk hbq37
         clear hbq37
         by_cases c38 : bq37 = true
         rotate_left
         · replace c38 := Bool.eq_false_iff.mpr c38
           subst c38
           rw [if_neg (show ¬ (false = true) by decide)] at H
           have H' := Aside0.mk H
           clear H
           obtain ⟨Ao41, co41, eo41⟩ := Kd.R_slice HO_4.out
           subst eo41
           have p616 : 0 ≤ (x8_3 : Int) := od_
           have q616 : x8_3 < (x4_2.length : Int) := od_
           obtain ⟨ad616, e616, hx616_0⟩ := Kd.at_bool (Kd.R_reads' HO_4.out).2.2 x8_3 p616 q616
           (try rw [← Nbq26.out] at hx616_0)
           (try rw [← Nbq31.out] at hx616_0)
           (try rw [← Nbq37.out] at hx616_0)
           cases e616
           replace p616 := eq_true p616
           replace q616 := eq_true q616
           have p617 : 0 ≤ (x9_4 : Int) := od_
           have q617 : x9_4 < (x4_2.length : Int) := od_
           obtain ⟨ad617, e617, hx617_0⟩ := Kd.at_bool (Kd.R_reads' HO_4.out).2.2 x9_4 p617 q617
           (try rw [← Nbq26.out] at hx617_0)
           (try rw [← Nbq31.out] at hx617_0)
           (try rw [← Nbq37.out] at hx617_0)
           obtain rfl : ad616 = ad617 := (by injection e617)
           replace p617 := eq_true p617
           replace q617 := eq_true q617
           have p618 : 0 ≤ ((ji34) : Int) := od_
           have q618 : (ji34) < (x4_2.length : Int) := od_
           obtain ⟨ad618, e618, hx618_0⟩ := Kd.at_bool (Kd.R_reads' HO_4.out).2.2 (ji34) p618 q618
           (try rw [← Nbq26.out] at hx618_0)
           (try rw [← Nbq31.out] at hx618_0)
           (try rw [← Nbq37.out] at hx618_0)
           obtain rfl : ad616 = ad618 := (by injection e618)
           replace p618 := eq_true p618
           replace q618 := eq_true q618
           go_wp2
           go_roundg k4
           case measure => have := HJ1.out; have := HK2.out; have := HK3.out; have := HK4.out; omega
           case rel => exact ⟨(wrap64 (x9_4 + 1)), (x609000_4), (x609001_4), rs_, H', ⟨by have := HJ1.out; have := HK2.out; have := HK3.out; have := HK4.out; omega⟩, ⟨re_ HO_4.out⟩, ⟨be_ BK608.out⟩, ⟨bq_ HB⟩⟩
         subst c38
         rw [if_pos rfl] at H
         simp only [Option.some.injEq, Prod.mk.injEq] at H
         obtain ⟨rfl, rfl, rfl⟩ := H
         obtain ⟨Ao39, co39, eo39⟩ := Kd.R_slice HO_4.out
         subst eo39
         have p616 : 0 ≤ (x8_3 : Int) := od_
         have q616 : x8_3 < (x4_2.length : Int) := od_
         obtain ⟨ad616, e616, hx616_0⟩ := Kd.at_bool (Kd.R_reads' HO_4.out).2.2 x8_3 p616 q616
         (try rw [← Nbq26.out] at hx616_0)
         (try rw [← Nbq31.out] at hx616_0)
         (try rw [← Nbq37.out] at hx616_0)
         cases e616
         replace p616 := eq_true p616
         replace q616 := eq_true q616
         have p617 : 0 ≤ (x9_4 : Int) := od_
         have q617 : x9_4 < (x4_2.length : Int) := od_
         obtain ⟨ad617, e617, hx617_0⟩ := Kd.at_bool (Kd.R_reads' HO_4.out).2.2 x9_4 p617 q617
         (try rw [← Nbq26.out] at hx617_0)
         (try rw [← Nbq31.out] at hx617_0)
         (try rw [← Nbq37.out] at hx617_0)
         obtain rfl : ad616 = ad617 := (by injection e617)
         replace p617 := eq_true p617
         replace q617 := eq_true q617
         have p618 : 0 ≤ ((ji34) : Int) := od_
         have q618 : (ji34) < (x4_2.length : Int) := od_
         obtain ⟨ad618, e618, hx618_0⟩ := Kd.at_bool (Kd.R_reads' HO_4.out).2.2 (ji34) p618 q618
         (try rw [← Nbq26.out] at hx618_0)
         (try rw [← Nbq31.out] at hx618_0)
         (try rw [← Nbq37.out] at hx618_0)
         obtain rfl : ad616 = ad618 := (by injection e618)
         replace p618 := eq_true p618
         replace q618 := eq_true q618
         have hcz40_0 : wr.cell? ⟨gb608, 0, none⟩ = some (.int .i64 x609000_4) := (blk_cell BK608.out 0).trans rfl
         have hcz40_1 : wr.cell? ⟨gb608, 1, none⟩ = some (.int .i64 x609001_4) := (blk_cell BK608.out 1).trans rfl
         have hfz40_0 := blk_frozen BK608.out 0
         have hfz40_1 := blk_frozen BK608.out 1
         go_wp2
         refine bodyPost_ret (results_ct rfl _ _ gb608 61 #[.int .i64 x8_3, .int .i64 x9_4] (0, 0) _ rfl (by (with_reducible repeat (first | refine blk_drewN ?_ _ | refine blk_drew ?_ | refine blk_alloc ?_ _)); refine blk_put (cs := #[.int .i64 x8_3, .int .i64 x609001_4]) ?_ 1 _ rfl; (with_reducible repeat (first | refine blk_drewN ?_ _ | refine blk_drew ?_ | refine blk_alloc ?_ _)); refine blk_put (cs := #[.int .i64 x609000_4, .int .i64 x609001_4]) ?_ 0 _ rfl; (with_reducible repeat (first | refine blk_drewN ?_ _ | refine blk_drew ?_ | refine blk_alloc ?_ _)); exact BK608.out) Try.underlying61 rfl (by kernel_rfl)) rfl ?_
         exact ⟨by first | rfl | (simp [errW_none, errW_some] <;> rfl) | (simp only [← hji19, ← hji34]; first | rfl | (simp [errW_none, errW_some] <;> rfl)) | (simp [*, errW_none, errW_some] <;> rfl), bq_ HB⟩
def slices_Equal_int_int.l0 : Nat → List Int → List Int → Int → Int → Option (Bool)
 | 0, _, _, _, _ => none
 | k + 1, x0, x1, x12, x13 => if x13 < x12 then (if 0 ≤ x13 then (if x13 < (x0.length : Int) then (if x13 < (x1.length : Int) then (if (rd x0 x13) = (rd x1 x13) then (slices_Equal_int_int.l0 k x0 x1 x12 (wrap64 (x13 + 1))) else (some false)) else (none)) else (none)) else (none)) else (some true)
def slices_Equal_int_int.f (k : Nat) (l0 : List Int) (l1 : List Int) : Option (Bool) := if (l0.length : Int) = (l1.length : Int) then (slices_Equal_int_int.l0 k l0 l1 (l0.length : Int) 0) else (some false)
theorem slices_Equal_int_int.calls (k : Nat) (A0 : Option Addr) (c0 : Nat) (l0 : List Int) (A1 : Option Addr) (c1 : Nat) (l1 : List Int) (r : Bool) (w : World) (hr0 : Kd.C (Kd.int .i64) w A0 l0.length l0) (hc0 : l0.length ≤ c0) (hr1 : Kd.C (Kd.int .i64) w A1 l1.length l1) (hc1 : l1.length ≤ c1) (h : slices_Equal_int_int.f k l0 l1 = some r) :
 Calls Try.prog 53 #[.slice A0 l0.length c0, .slice A1 l1.length c1] w fun e w' => e = .returned (.bool r) ∧ Drawn0 w w' := by
 have HR0 := Aside0.mk hr0
 have HC0 := Aside0.mk hc0
 clear hr0 hc0
 have HR1 := Aside0.mk hr1
 have HC1 := Aside0.mk hc1
 clear hr1 hc1
 have H := h
 clear h
 unfold slices_Equal_int_int.f at H
 by_cases c3 : (l0.length : Int) = (l1.length : Int)
 rotate_left
 · rw [if_neg c3] at H
   have c3b0 : ((l0.length : Int) == (l1.length : Int)) = false := beq_eq_false_iff_ne.mpr c3
   have c3b1 : ((l0.length : Int) != (l1.length : Int)) = true := bne_iff_ne.mpr c3
   have c3b2 : (l0.length == l1.length) = false := by first | simpa using c3 | (simp at c3 ⊢; omega)
   obtain rfl := Option.some.inj H
   go_enter Try.func53, Try.ntmps53
   go_wp2
   repeat (go_quiet (fail); try go_wp2)
   go_ret
   exact ⟨by first | rfl | (simp; done) | (simp [*]; done), by repeat (first | exact Drawn0.refl _ | apply Drawn0.step)⟩
 rw [if_pos c3] at H
 have c3b0 : ((l0.length : Int) == (l1.length : Int)) = true := beq_iff_eq.mpr c3
 have c3b1 : ((l0.length : Int) != (l1.length : Int)) = false := bne_eq_false_iff_eq.mpr c3
 have c3b2 : (l0.length == l1.length) = true := by first | simpa using c3 | (simp at c3 ⊢; omega)
 clear c3
 have H' := Aside0.mk H
 clear H
 go_enter Try.func53, Try.ntmps53
 go_wp2
 repeat (go_quiet (fail); try go_wp2)
 go_loopg [13] k (fun kq v13 w' => ∃ (x13_1 : Int), v13 = .int .i64 x13_1 ∧ Aside0 (slices_Equal_int_int.l0 kq l0 l1 (l0.length : Int) x13_1 = some r) ∧ Aside0 (kq ≤ k) ∧ Drawn0 w w')
 case atStart => exact ⟨(0), rs_, H', ⟨Nat.le_refl _⟩, by repeat (first | exact Drawn0.refl _ | apply Drawn0.step)⟩
 case round =>
  clear H'
  try clear c1
  try clear c3b0
  try clear c3b1
  try clear c3b2
  obtain ⟨x13_1, rfl, HA, HK1, ⟨m1, rfl⟩⟩ := hrel
  cases gk with
  | zero => exact absurd HA.out (by simp [slices_Equal_int_int.l0])
  | succ k1 =>
   have H := HA.out
   clear HA
   simp only [slices_Equal_int_int.l0] at H
   by_cases c4 : x13_1 < (l0.length : Int)
   rotate_left
   · rw [if_neg c4] at H
     have c4b0 : decide (x13_1 < (l0.length : Int)) = false := decide_eq_false c4
     clear c4
     obtain rfl := Option.some.inj H
     go_wp2
     repeat (go_quiet (fail); try go_wp2)
     go_ret
     exact ⟨by first | rfl | (simp; done) | (simp [*]; done), by repeat (first | exact Drawn0.refl _ | apply Drawn0.step)⟩
   rw [if_pos c4] at H
   have c4b0 : decide (x13_1 < (l0.length : Int)) = true := decide_eq_true c4
   clear c4
   obtain ⟨c5b0, H⟩ := ipd_ H
   obtain ⟨c6b0, H⟩ := ipd_ H
   obtain ⟨c7b0, H⟩ := ipd_ H
   by_cases c8 : (rd l0 x13_1) = (rd l1 x13_1)
   rotate_left
   · rw [if_neg c8] at H
     have c8b0 : ((rd l0 x13_1) == (rd l1 x13_1)) = false := beq_eq_false_iff_ne.mpr c8
     have c8b1 : ((rd l0 x13_1) != (rd l1 x13_1)) = true := bne_iff_ne.mpr c8
     obtain rfl := Option.some.inj H
     have p619 : 0 ≤ (x13_1 : Int) := od_
     have q619 : x13_1 < (l0.length : Int) := od_
     obtain ⟨ad619, e619, hx619_0⟩ := Kd.at_int HR0.out x13_1 p619 q619
     cases e619
     replace p619 := eq_true p619
     replace q619 := eq_true q619
     have p620 : 0 ≤ (x13_1 : Int) := od_
     have q620 : x13_1 < (l1.length : Int) := od_
     obtain ⟨ad620, e620, hx620_0⟩ := Kd.at_int HR1.out x13_1 p620 q620
     cases e620
     replace p620 := eq_true p620
     replace q620 := eq_true q620
     go_wp2
     repeat (go_quiet (fail); try go_wp2)
     go_ret
     exact ⟨by first | rfl | (simp; done) | (simp [*]; done), by repeat (first | exact Drawn0.refl _ | apply Drawn0.step)⟩
   rw [if_pos c8] at H
   have c8b0 : ((rd l0 x13_1) == (rd l1 x13_1)) = true := beq_iff_eq.mpr c8
   have c8b1 : ((rd l0 x13_1) != (rd l1 x13_1)) = false := bne_eq_false_iff_eq.mpr c8
   clear c8
   have H' := Aside0.mk H
   clear H
   have p619 : 0 ≤ (x13_1 : Int) := od_
   have q619 : x13_1 < (l0.length : Int) := od_
   obtain ⟨ad619, e619, hx619_0⟩ := Kd.at_int HR0.out x13_1 p619 q619
   cases e619
   replace p619 := eq_true p619
   replace q619 := eq_true q619
   have p620 : 0 ≤ (x13_1 : Int) := od_
   have q620 : x13_1 < (l1.length : Int) := od_
   obtain ⟨ad620, e620, hx620_0⟩ := Kd.at_int HR1.out x13_1 p620 q620
   cases e620
   replace p620 := eq_true p620
   replace q620 := eq_true q620
   go_wp2
   repeat (go_quiet (fail); try go_wp2)
   go_roundg k1
   case measure => have := HK1.out; omega
   case rel => exact ⟨(wrap64 (x13_1 + 1)), rs_, H', ⟨by have := HK1.out; omega⟩, by repeat (first | exact Drawn0.refl _ | apply Drawn0.step)⟩
def impl_Gaps.l0 : Nat → List Int → List Bool → Int → Int → Option (List Int)
 | 0, _, _, _, _ => none
 | k + 1, x3, x11, x12, x13 => if x13 < x12 then (if 0 ≤ x13 then (if x13 < (x11.length : Int) then (if rdOf false x11 x13 = true then (impl_Gaps.l0 k x3 x11 x12 (wrap64 (x13 + 1))) else (if x3.length < 17592186044416 then (impl_Gaps.l0 k (x3 ++ [x13]) x11 x12 (wrap64 (x13 + 1))) else (none))) else (none)) else (none)) else (some x3)
def impl_Gaps.f (k : Nat) (l0_0 : List Int) : Option (List Int) := (impl_IsSemigroup.f k l0_0).bind fun t622 => (if t622 = true then ((impl_table.f k l0_0 200).bind fun t626 => (impl_Gaps.l0 k (([] : List Int)) t626 (t626.length : Int) 0)) else (some ([] : List Int)))
theorem impl_Gaps.calls (k : Nat) (A0_0 : Option Addr) (c0_0 : Nat) (l0_0 : List Int) (r : List Int) (w : World) (hr0_0 : Kd.C (Kd.int .i64) w A0_0 l0_0.length l0_0) (hc0_0 : l0_0.length ≤ c0_0) (h : impl_Gaps.f k l0_0 = some r) :
 Calls Try.prog 54 #[.agg #[.slice A0_0 l0_0.length c0_0]] w fun e w' => ∃ v0_ : Value, e = .returned (v0_) ∧ Kd.R (Kd.int .i64) 3 w' w.heap.size (fun _ => True) v0_ r ∧ Below w.heap.size w w' := by
 have hu26 := Try.underlying26
 have HR0_0 := Aside0.mk hr0_0
 have HC0_0 := Aside0.mk hc0_0
 clear hr0_0 hc0_0
 have HB := Aside0.mk (Below.refl w.heap.size w)
 have H := h
 clear h
 unfold impl_Gaps.f at H
 obtain ⟨t622, A2, H⟩ := ob_ H
 by_cases c3 : t622 = true
 rotate_left
 · replace c3 := Bool.eq_false_iff.mpr c3
   subst c3
   rw [if_neg (show ¬ (false = true) by decide)] at H
   obtain rfl := Option.some.inj H
   go_enter Try.func54, Try.ntmps54
   go_wp2_with (first | ((with_reducible refine gate_dst (N := 1) rfl ?_); refine bx_ 1 #[.slice A0_0 l0_0.length c0_0] 26 ?_; intro gb621 hg w20 hbox hb; have BK621 := Aside0.mk (hbox); have GW621 := gw_ hg HB; have GE621 := gw_ hg HB; replace HB := bo_ HB hb; clear hb hbox hg; have hcz21_0 := cz_ BK621; have hfz21_0 := blk_frozen BK621.out 0) | ((with_reducible refine gate_callee (f := 24) rfl ?_); refine gL_ (some 7) Try.func24 #[.agg #[.slice A0_0 l0_0.length c0_0]] ?_; (with_reducible refine (impl_IsSemigroup.calls k _ _ l0_0 false _ ?side1 ?side2 A2.out).mono ?_); (case side1 => exact ch_ HR0_0 HB); (case side2 => exact HC0_0.out); rintro e w22 ⟨rfl, hb⟩; refine ⟨_, rfl, ?_⟩; replace BK621 := bk_ BK621 hb; replace HB := bp_ HB hb; (try clear hb)))
   go_ret
   exact ⟨_, rf_, by first | exact Kd.R_nil _ _ _ _ _ | exact Kd.N_nil _ _ _ _ _ | exact Kd.V_nil _ _ _ _ _ | exact Kd.Q_nil _ _ _ _ _ | exact Kd.S_nil _ _ _ _ _, bq_ HB⟩
 subst c3
 rw [if_pos rfl] at H
 obtain ⟨y623, hy623⟩ : ∃ y_ : List Int, y_ = (([] : List Int)) := ⟨_, rfl⟩
 replace H : ((impl_table.f k l0_0 200).bind fun t626 => (impl_Gaps.l0 k y623 t626 (t626.length : Int) 0)) = some r := by subst hy623; exact H
 have Ny623 := Aside0.mk hy623
 clear hy623
 obtain ⟨t626, A4, H⟩ := ob_ H
 have H' := Aside0.mk H
 clear H
 go_enter Try.func54, Try.ntmps54
 go_wp2_with (first | ((with_reducible refine gate_dst (N := 1) rfl ?_); refine bx_ 1 #[.slice A0_0 l0_0.length c0_0] 26 ?_; intro gb621 hg w5 hbox hb; have BK621 := Aside0.mk (hbox); have GW621 := gw_ hg HB; have GE621 := gw_ hg HB; replace HB := bo_ HB hb; clear hb hbox hg; have hcz6_0 := cz_ BK621; have hfz6_0 := blk_frozen BK621.out 0) | ((with_reducible refine gate_callee (f := 24) rfl ?_); refine gL_ (some 7) Try.func24 #[.agg #[.slice A0_0 l0_0.length c0_0]] ?_; (with_reducible refine (impl_IsSemigroup.calls k _ _ l0_0 true _ ?side1 ?side2 A2.out).mono ?_); (case side1 => exact ch_ HR0_0 HB); (case side2 => exact HC0_0.out); rintro e w7 ⟨rfl, hb⟩; refine ⟨_, rfl, ?_⟩; replace BK621 := bk_ BK621 hb; replace HB := bp_ HB hb; (try clear hb)) | ((with_reducible refine gate_dst (N := 9) rfl ?_); refine Kd.R_lit (Kd.int .i64) _ 3 ?hg (N := 9) ?hd (xs := ([] : List Int)) (inner := []) (ok := fun _ => True) (okp := fun _ => True) ?hr ?hp (fun _ hk => hk) trivial (Below.refl _ _) (Nat.le_refl _) (by simp) ?_; (case hd => rfl); (case hg => rfl); (case hr => first | (go_simp; done) | (go_simp; rfl)); (case hp => exact (Reps.none _ _)); intro v624 w8 ho9 hb hg_ hnew_; clear hg_ hnew_; (first | rw [← Ny623.out] at ho9 | (simp only [Int.reduceToNat] at ho9; rw [← Ny623.out] at ho9)); have HO625 := Aside0.mk (Kd.R_lower ho9 (below_size (bq_ HB))); replace BK621 := bk_ BK621 hb; replace HB := bp_ HB hb; clear hb ho9; have hcz10_0 := cz_ BK621; have hfz10_0 := blk_frozen BK621.out 0) | ((with_reducible refine gate_callee (f := 25) rfl ?_); refine gL_ (some 11) Try.func25 #[.agg #[.slice A0_0 l0_0.length c0_0], .int .i64 200] ?_; (with_reducible refine (impl_table.calls k _ _ l0_0 200 t626 _ ?side1 ?side2 A4.out).mono ?_); (case side1 => exact ch_ HR0_0 HB); (case side2 => exact HC0_0.out); rintro e w11 ⟨v627, rfl, ho0, hb⟩; refine ⟨_, rfl, ?_⟩; replace HO625 := Aside0.mk (Kd.R_below (re_ HO625.out) hb); have HO628 := Aside0.mk (Kd.R_lower ho0 (below_size (bq_ HB))); replace BK621 := bk_ BK621 hb; replace HB := bp_ HB hb; (try clear hb); (try clear ho0); obtain ⟨Ao12, co12, eo12⟩ := Kd.R_slice HO628.out; subst eo12))
 go_loopg [3, 13] k (fun kq v3 v13 w' => ∃ (x3_1 : List Int) (x13_1 : Int), v13 = .int .i64 x13_1 ∧ Aside0 (impl_Gaps.l0 kq x3_1 t626 (t626.length : Int) x13_1 = some r) ∧ Aside0 (kq ≤ k) ∧ Aside0 (Kd.R (Kd.int .i64) 3 w' w.heap.size (fun _ => True) v3 x3_1) ∧ Aside0 (Kd.R Kd.bool 4 w' w.heap.size (fun _ => True) (.slice Ao12 t626.length co12) t626) ∧ Aside0 (w'.heap[gb621]? = some (.cells #[(.slice A0_0 l0_0.length c0_0)] 26 (0, 0))) ∧ Aside0 (Below w.heap.size w w'))
 case atStart => exact ⟨(y623), (0), rs_, H', ⟨Nat.le_refl _⟩, ⟨re_ HO625.out⟩, ⟨re_ HO628.out⟩, ⟨be_ BK621.out⟩, ⟨bq_ HB⟩⟩
 case round =>
  clear H'
  try clear hcz10_0
  try clear hcz6_0
  try clear hfz10_0
  try clear hfz6_0
  obtain ⟨x3_1, x13_1, rfl, HA, HK1, HO_3, HO_11, BK621, HB⟩ := hrel
  cases gk with
  | zero => exact absurd HA.out (by simp [impl_Gaps.l0])
  | succ k1 =>
   have H := HA.out
   clear HA
   simp only [impl_Gaps.l0] at H
   by_cases c13 : x13_1 < (t626.length : Int)
   rotate_left
   · rw [if_neg c13] at H
     have c13b0 : decide (x13_1 < (t626.length : Int)) = false := decide_eq_false c13
     clear c13
     obtain rfl := Option.some.inj H
     go_wp2
     go_ret
     exact ⟨_, rf_, re_ HO_3.out, bq_ HB⟩
   rw [if_pos c13] at H
   have c13b0 : decide (x13_1 < (t626.length : Int)) = true := decide_eq_true c13
   clear c13
   obtain ⟨c14b0, H⟩ := ipd_ H
   obtain ⟨c15b0, H⟩ := ipd_ H
   obtain ⟨bq16, hbq16⟩ : ∃ b_ : Bool, b_ = (rdOf false t626 x13_1) := ⟨_, rfl⟩
   replace H : (if bq16 = true then (impl_Gaps.l0 k1 x3_1 t626 (t626.length : Int) (wrap64 (x13_1 + 1))) else (if x3_1.length < 17592186044416 then (impl_Gaps.l0 k1 (x3_1 ++ [x13_1]) t626 (t626.length : Int) (wrap64 (x13_1 + 1))) else (none))) = some r := by rw [← hbq16] at H; exact H
   have Nbq16 := Aside0.mk hbq16
   clear hbq16
   by_cases c17 : bq16 = true
   · subst c17
     rw [if_pos rfl] at H
     have H' := Aside0.mk H
     clear H
     have p629 : 0 ≤ (x13_1 : Int) := od_
     have q629 : x13_1 < (t626.length : Int) := od_
     obtain ⟨ad629, e629, hx629_0⟩ := Kd.at_bool (Kd.R_reads' HO_11.out).2.2 x13_1 p629 q629
     (try rw [← Nbq16.out] at hx629_0)
     cases e629
     replace p629 := eq_true p629
     replace q629 := eq_true q629
     go_wp2
     go_roundg k1
     case measure => have := HK1.out; omega
     case rel => exact ⟨(x3_1), (wrap64 (x13_1 + 1)), rs_, H', ⟨by have := HK1.out; omega⟩, ⟨re_ HO_3.out⟩, ⟨re_ HO_11.out⟩, ⟨be_ BK621.out⟩, ⟨bq_ HB⟩⟩
   replace c17 := Bool.eq_false_iff.mpr c17
   subst c17
   rw [if_neg (show ¬ (false = true) by decide)] at H
   obtain ⟨c18, H⟩ := ip_ H
   have LMc18 := Aside0.mk c18
   clear c18
   obtain ⟨y630, hy630⟩ : ∃ y_ : List Int, y_ = (x3_1 ++ [x13_1]) := ⟨_, rfl⟩
   replace H : (impl_Gaps.l0 k1 y630 t626 (t626.length : Int) (wrap64 (x13_1 + 1))) = some r := by subst hy630; exact H
   have Ny630 := Aside0.mk hy630
   clear hy630
   have H' := Aside0.mk H
   clear H
   have p629 : 0 ≤ (x13_1 : Int) := od_
   have q629 : x13_1 < (t626.length : Int) := od_
   obtain ⟨ad629, e629, hx629_0⟩ := Kd.at_bool (Kd.R_reads' HO_11.out).2.2 x13_1 p629 q629
   (try rw [← Nbq16.out] at hx629_0)
   cases e629
   replace p629 := eq_true p629
   replace q629 := eq_true q629
   go_wp2_with (first | ((with_reducible refine gate_builtin (b := .append) (xs := #[.tmp 20, .tmp 22]) rfl ?_); at_builtin; refine Kd.R_append (Kd.int .i64) (w0 := w) w.heap.size rfl (.tmp 20) (.tmp 22) 24 3 (.int .i64 0) 8 rfl Try.underlying24 info3 rfl (by decide) (by omega) u3 x3_1 x13_1 [.int .i64 x13_1] (fun _ => True) (fun _ => False) rfl rfl ?aP (fun _ hk => hk.elim) ?aF ?aO ?aB ?aS ?aL ?_; (case aP => exact rfl); (case aB => exact (bq_ HB)); (case aF => exact (fun _ _ => trivial)); (case aO => exact (re_ HO_3.out)); (case aS => exact (below_size (bq_ HB))); (case aL => have := LMc18.out; omega); intro v631 w19 ho hb hg hat; rw [← Ny630.out] at ho; replace HO_11 := Aside0.mk (Kd.R_over' (re_ HO_11.out) (Kd.R_typed (re_ HO_3.out)) (by decide) hg); replace BK621 := Aside0.mk (blk_grown (be_ BK621.out) hg (Kd.R_ne HO_3.out BK621.out (by decide))); replace HB := Aside0.mk (hb); have HO632 := Aside0.mk (ho); clear HO_3; clear ho hb hg hat))
   go_roundg k1
   case measure => have := HK1.out; omega
   case rel => exact ⟨(y630), (wrap64 (x13_1 + 1)), rs_, H', ⟨by have := HK1.out; omega⟩, ⟨re_ HO632.out⟩, ⟨re_ HO_11.out⟩, ⟨be_ BK621.out⟩, ⟨bq_ HB⟩⟩
mutual
def impl_FromGaps.j0 : Nat → List Int → Bool → Option (List Int × Bool)
 | 0, _, _ => none
 | k + 1, x0, x23 => if x23 = true then (some (([] : List Int), false)) else (if 401 ≤ 281474976710656 then (impl_FromGaps.l0 k x0 (List.replicate 401 false) x0 (x0.length : Int) 0) else (none))
def impl_FromGaps.l0 : Nat → List Int → List Bool → List Int → Int → Int → Option (List Int × Bool)
 | 0, _, _, _, _, _ => none
 | k + 1, x0, x6, x26, x27, x28 => if x28 < x27 then (if 0 ≤ x28 then (if x28 < (x26.length : Int) then (if 0 ≤ (rd x26 x28) then (if (rd x26 x28) < (x6.length : Int) then (impl_FromGaps.l0 k x0 (x6.set ((rd x26 x28) : Int).toNat true) x26 x27 (wrap64 (x28 + 1))) else (none)) else (none)) else (none)) else (none)) else (impl_FromGaps.l1 k x0 x6 1 ([] : List Int))
def impl_FromGaps.l1 : Nat → List Int → List Bool → Int → List Int → Option (List Int × Bool)
 | 0, _, _, _, _ => none
 | k + 1, x0, x6, x10, x645000 => if x10 < (x6.length : Int) then (if 0 ≤ x10 then (impl_FromGaps.l2 k x0 x6 x10 (rdOf false x6 x10) 1 x645000) else (none)) else ((impl_IsSemigroup.f k x645000).bind fun t651 => (if t651 = true then ((impl_Gaps.f k x645000).bind fun t652 => ((slices_Equal_int_int.f k t652 x0).bind fun t655 => (if t655 = true then (some (x645000, true)) else (some (([] : List Int), false))))) else (some (([] : List Int), false))))
def impl_FromGaps.l2 : Nat → List Int → List Bool → Int → Bool → Int → List Int → Option (List Int × Bool)
 | 0, _, _, _, _, _, _ => none
 | k + 1, x0, x6, x10, x11, x12, x645000 => if (wrap64 (2 * x12)) ≤ x10 then (if x11 = true then (impl_FromGaps.l1 k x0 x6 (wrap64 (x10 + 1)) x645000) else (if 0 ≤ x12 then (if x12 < (x6.length : Int) then (if rdOf false x6 x12 = true then (impl_FromGaps.l2 k x0 x6 x10 false (wrap64 (x12 + 1)) x645000) else (if 0 ≤ (wrap64 (x10 - x12)) then (if (wrap64 (x10 - x12)) < (x6.length : Int) then (impl_FromGaps.l2 k x0 x6 x10 (!(rdOf false x6 (wrap64 (x10 - x12)))) (wrap64 (x12 + 1)) x645000) else (none)) else (none))) else (none)) else (none))) else (if x11 = true then (impl_FromGaps.l1 k x0 x6 (wrap64 (x10 + 1)) x645000) else (if x645000.length < 17592186044416 then (impl_FromGaps.l1 k x0 x6 (wrap64 (x10 + 1)) (x645000 ++ [x10])) else (none)))
end
def impl_FromGaps.f (k : Nat) (l0 : List Int) : Option (List Int × Bool) := (impl_GapClash.f k l0).bind fun bt634 => (if bt634.2.2 = true then (impl_FromGaps.j0 k l0 true) else ((impl_gapList.f k l0).bind fun t638 => (impl_FromGaps.j0 k l0 (!t638))))
theorem impl_FromGaps.calls (k : Nat) (A0 : Option Addr) (c0 : Nat) (l0 : List Int) (r1 : List Int) (r2 : Bool) (w : World) (hr0 : Kd.C (Kd.int .i64) w A0 l0.length l0) (hc0 : l0.length ≤ c0) (h : impl_FromGaps.f k l0 = some (r1, r2)) :
 Calls Try.prog 26 #[.slice A0 l0.length c0] w fun e w' => ∃ v0_ : Value, e = .returned (.tuple #[.agg #[v0_], .bool r2]) ∧ Kd.R (Kd.int .i64) 3 w' w.heap.size (fun _ => True) v0_ r1 ∧ Below w.heap.size w w' := by
 have hu26 := Try.underlying26
 have hu61 := Try.underlying61
 have HR0 := Aside0.mk hr0
 have HC0 := Aside0.mk hc0
 clear hr0 hc0
 have HB := Aside0.mk (Below.refl w.heap.size w)
 have H := h
 clear h
 unfold impl_FromGaps.f at H
 obtain ⟨⟨t634, t635, t636⟩, A2, H⟩ := ob_ H
 (try dsimp only at H)
 have HC3 := Aside0.mk H
 clear H
 go_enter Try.func26, Try.ntmps26
 go_upto_region 2 with (first | ((with_reducible refine gate_dst (N := 2) rfl ?_); refine bx_ 2 #[.slice none 0 0] 26 ?_; intro gb633 hg w4 hbox hb; have BK633 := Aside0.mk (hbox); have GW633 := gw_ hg HB; have GE633 := gw_ hg HB; replace HB := bo_ HB hb; clear hb hbox hg) | ((with_reducible refine gate_callee (f := 51) rfl ?_); refine gL_ (some 15) Try.func51 #[.slice A0 l0.length c0] ?_; (with_reducible refine (impl_GapClash.calls k _ _ l0 t634 t635 t636 _ ?side1 ?side2 A2.out).mono ?_); (case side1 => exact ch_ HR0 HB); (case side2 => exact HC0.out); rintro e w5 ⟨rfl, hb⟩; refine ⟨_, rfl, ?_⟩; replace BK633 := bk_ BK633 hb; replace HB := bp_ HB hb; (try clear hb)) | ((with_reducible refine gate_dst (N := 4) rfl ?_); refine bx_ 4 #[.int .i64 0, .int .i64 0] 61 ?_; intro gb637 hg w6 hbox hb; have BK637 := Aside0.mk (hbox); have GW637 := gq_ hg (bq_ HB); have GE637 := gq_ hg (bq_ HB); replace HB := bp_ HB hb; have NB633_637 := nl_ hg BK633; have NB637_633 := ng_ hg BK633; replace BK633 := bk_ BK633 hb; clear hb hbox hg; have hnb7 := NB637_633.out; have hnc7 := NB633_637.out; have hcz8_0 : w6.cell? ⟨gb637, 0, none⟩ = some (.int .i64 0) := (blk_cell BK637.out 0).trans rfl; have hcz8_1 : w6.cell? ⟨gb637, 1, none⟩ = some (.int .i64 0) := (blk_cell BK637.out 1).trans rfl; have hfz8_0 := blk_frozen BK637.out 0; have hfz8_1 := blk_frozen BK637.out 1))
 (try simp only [Act.put, z1_, z2_, z3_])
 go_cut [23] (fun v23 wc => ∃ (kq : Nat) (x23_2 : Bool), v23 = .bool x23_2 ∧ Aside0 (impl_FromGaps.j0 kq l0 x23_2 = some (r1, r2)) ∧ Aside0 (kq ≤ k) ∧ Aside0 (wc.heap[gb633]? = some (.cells #[(.slice none 0 0)] 26 (0, 0))) ∧ Aside0 (wc.heap[gb637]? = some (.cells #[.int .i64 t634, .int .i64 t635] 61 (0, 0))) ∧ Aside0 (Below w.heap.size w wc))
 case first =>
  have H := HC3.out
  clear HC3
  by_cases c9 : t636 = true
  · subst c9
    rw [if_pos rfl] at H
    have H' := Aside0.mk H
    clear H
    go_wp2
    go_meet
    case rel => exact ⟨_, (true), rs_, H', ⟨by first | omega | exact Nat.le_refl _⟩, ⟨ba_ BK633⟩, ⟨by (with_reducible repeat (first | refine blk_drewN ?_ _ | refine blk_drew ?_ | refine blk_alloc ?_ _)); refine blk_put (cs := #[.int .i64 t634, .int .i64 0]) ?_ 1 _ rfl; (with_reducible repeat (first | refine blk_drewN ?_ _ | refine blk_drew ?_ | refine blk_alloc ?_ _)); refine blk_put (cs := #[.int .i64 0, .int .i64 0]) ?_ 0 _ rfl; (with_reducible repeat (first | refine blk_drewN ?_ _ | refine blk_drew ?_ | refine blk_alloc ?_ _)); exact BK637.out⟩, ⟨bq_ HB⟩⟩
  replace c9 := Bool.eq_false_iff.mpr c9
  subst c9
  rw [if_neg (show ¬ (false = true) by decide)] at H
  obtain ⟨t638, A10, H⟩ := ob_ H
  have H' := Aside0.mk H
  clear H
  go_wp2_with (first | (go_at_call 52; (with_reducible refine (impl_gapList.calls k _ _ l0 t638 _ ?side1 ?side2 A10.out).mono ?_); (case side1 => exact Kd.C_below HR0.out (bq_ HB)); (case side2 => exact HC0.out); rintro e w' ⟨rfl, ⟨nd, rfl⟩⟩))
  go_meet
  case rel => exact ⟨_, (!t638), rs_, H', ⟨by first | omega | exact Nat.le_refl _⟩, ⟨ba_ BK633⟩, ⟨by (with_reducible repeat (first | refine blk_drewN ?_ _ | refine blk_drew ?_ | refine blk_alloc ?_ _)); refine blk_put (cs := #[.int .i64 t634, .int .i64 0]) ?_ 1 _ rfl; (with_reducible repeat (first | refine blk_drewN ?_ _ | refine blk_drew ?_ | refine blk_alloc ?_ _)); refine blk_put (cs := #[.int .i64 0, .int .i64 0]) ?_ 0 _ rfl; (with_reducible repeat (first | refine blk_drewN ?_ _ | refine blk_drew ?_ | refine blk_alloc ?_ _)); exact BK637.out⟩, ⟨bq_ HB⟩⟩
 case rest =>
  clear HC3
  try clear hcz8_0
  try clear hcz8_1
  try clear hfz8_0
  try clear hfz8_1
  obtain ⟨kq, x23_2, rfl, HA, HJ2, BK633, BK637, HB⟩ := hcut
  cases kq with
  | zero => exact absurd HA.out (by simp [impl_FromGaps.j0])
  | succ kj2 =>
   have H := HA.out
   clear HA
   simp only [impl_FromGaps.j0] at H
   by_cases c11 : x23_2 = true
   · subst c11
     rw [if_pos rfl] at H
     simp only [Option.some.injEq, Prod.mk.injEq] at H
     obtain ⟨rfl, rfl⟩ := H
     have hnb12 := NB633_637.out
     have hnc12 := NB637_633.out
     have hcz13_0 := cz_ BK633
     have hfz13_0 := blk_frozen BK633.out 0
     go_wp2
     refine bodyPost_ret (results_ct rfl _ _ gb633 26 #[.slice none 0 0] (0, 0) _ rfl (bz_ BK633) Try.underlying26 rfl (by kernel_rfl)) rfl ?_
     exact ⟨_, rf_, by first | exact Kd.R_nil _ _ _ _ _ | exact Kd.N_nil _ _ _ _ _ | exact Kd.V_nil _ _ _ _ _ | exact Kd.Q_nil _ _ _ _ _ | exact Kd.S_nil _ _ _ _ _, bq_ HB⟩
   replace c11 := Bool.eq_false_iff.mpr c11
   subst c11
   rw [if_neg (show ¬ (false = true) by decide)] at H
   obtain ⟨c14, H⟩ := ip_ H
   have c14b0 := eq_true c14
   have c14b1 : decide (401 ≤ 281474976710656) = true := decide_eq_true c14
   clear c14
   obtain ⟨y639, hy639⟩ : ∃ y_ : List Bool, y_ = (List.replicate 401 false) := ⟨_, rfl⟩
   replace H : (impl_FromGaps.l0 kj2 l0 y639 l0 (l0.length : Int) 0) = some (r1, r2) := by subst hy639; exact H
   have Ny639 := Aside0.mk hy639
   clear hy639
   have H' := Aside0.mk H
   clear H
   go_wp2_with (first | ((with_reducible refine gate_dst (N := 25) rfl ?_); refine Kd.R_make Kd.bool _ 4 rfl (N := 25) rfl 42 _ _ rfl 401 rfl rfl Try.underlying42 (.bool false) 1 info4 rfl (by decide) (by omega) false (ok := fun _ => True) (okp := fun _ => True) rfl (fun _ hk => hk) trivial (by omega) (by omega) (Below.refl _ _) (Nat.le_refl _) ?_; intro v640 w15 ho16 hb hg_ hnew_; clear hg_ hnew_; (first | rw [← Ny639.out] at ho16 | (simp only [Int.reduceToNat] at ho16; rw [← Ny639.out] at ho16)); have HO641 := Aside0.mk (Kd.R_lower ho16 (below_size (bq_ HB))); replace BK633 := bk_ BK633 hb; replace BK637 := bk_ BK637 hb; replace HB := bp_ HB hb; clear hb ho16))
   go_loopg [28] kj2 (fun kq v28 w' => ∃ (x6_2 : List Bool) (x28_2 : Int), v28 = .int .i64 x28_2 ∧ Aside0 (impl_FromGaps.l0 kq l0 x6_2 l0 (l0.length : Int) x28_2 = some (r1, r2)) ∧ Aside0 (kq ≤ kj2) ∧ Aside0 (Kd.R Kd.bool 4 w' w.heap.size (fun _ => True) v640 x6_2) ∧ Aside0 (w'.heap[gb633]? = some (.cells #[(.slice none 0 0)] 26 (0, 0))) ∧ Aside0 (w'.heap[gb637]? = some (.cells #[.int .i64 t634, .int .i64 t635] 61 (0, 0))) ∧ Aside0 (Below w.heap.size w w'))
   case atStart => exact ⟨(y639), (0), rs_, H', ⟨Nat.le_refl _⟩, ⟨re_ HO641.out⟩, ⟨be_ BK633.out⟩, ⟨be_ BK637.out⟩, ⟨bq_ HB⟩⟩
   case round =>
    clear H'
    try clear c14b0
    try clear c14b1
    obtain ⟨x6_2, x28_2, rfl, HA, HK2, HO_6, BK633, BK637, HB⟩ := hrel
    cases gk with
    | zero => exact absurd HA.out (by simp [impl_FromGaps.l0])
    | succ k2 =>
     have H := HA.out
     clear HA
     simp only [impl_FromGaps.l0] at H
     by_cases c17 : x28_2 < (l0.length : Int)
     · rw [if_pos c17] at H
       have c17b0 : decide (x28_2 < (l0.length : Int)) = true := decide_eq_true c17
       clear c17
       obtain ⟨c18b0, H⟩ := ipd_ H
       obtain ⟨c19b0, H⟩ := ipd_ H
       obtain ⟨c20b0, H⟩ := ipd_ H
       obtain ⟨c21b0, H⟩ := ipd_ H
       obtain ⟨y643, hy643⟩ : ∃ y_ : List Bool, y_ = (x6_2.set ((rd l0 x28_2) : Int).toNat true) := ⟨_, rfl⟩
       replace H : (impl_FromGaps.l0 k2 l0 y643 l0 (l0.length : Int) (wrap64 (x28_2 + 1))) = some (r1, r2) := by subst hy643; exact H
       have Ny643 := Aside0.mk hy643
       clear hy643
       have H' := Aside0.mk H
       clear H
       have p642 : 0 ≤ (x28_2 : Int) := od_
       have q642 : x28_2 < (l0.length : Int) := od_
       obtain ⟨ad642, e642, hx642_0⟩ := Kd.at_int HR0.out x28_2 p642 q642
       cases e642
       (try replace hx642_0 := (HB.out.cell (World.block_lt_of_cell? w _ hx642_0)).trans hx642_0)
       replace p642 := eq_true p642
       replace q642 := eq_true q642
       have p22 : 0 ≤ ((rd l0 x28_2) : Int) := od_
       have q22 : ((rd l0 x28_2) : Int) < ((x6_2.length : Int) : Int) := od_
       obtain ⟨go22, co22, eo22, gb22, gl22, cl22, HG22⟩ := Kd.R_form HO_6.out (by omega)
       (first | cases eo22 | (injection eo22 with ea_ en_ ec_; (first | subst ea_ | (injection ea_ with ea_; subst ea_)); subst ec_; clear en_))
       have GB22 := Aside0.mk gb22
       have GG22 := Aside0.mk HG22
       clear gb22 gl22 HG22
       obtain ⟨hx22_0, hf22_0⟩ := Kd.R_celln false HO_6.out ((rd l0 x28_2) : Int) p22 q22
       replace p22 := eq_true p22
       replace q22 := eq_true q22
       have HP23 := Kd.R_putg HO_6.out ((rd l0 x28_2) : Int) true
       go_wp2_with (first | ((with_reducible refine gate_store (t := 4) (p := 34) rfl ?_); refine store_event (t := 4) (p := 34) (v := ?vo_w24) (w1 := (wr.setCell ⟨go22, ((rd l0 x28_2) : Int).toNat, none⟩ (.bool true))) ?hg ?ho ?hn ?hr ?_; (case ho => rfl); (case hg => rfl); (case hn => rfl); (case hr => first | (go_simp; done) | (go_simp; rfl)); intro w24 hw; have hg : wr.grownBy w24 (some go22) := (by rw [hw]; exact HP23.2); have hp_ : Kd.R Kd.bool 4 w24 w.heap.size (fun _ => True) (.slice (some ⟨go22, 0, none⟩) x6_2.length co22) y643 := (by rw [hw, Ny643.out]; exact HP23.1); clear HP23; replace BK633 := Aside0.mk (blk_grown (be_ BK633.out) hg (Kd.R_ne HO_6.out BK633.out (by decide))); replace BK637 := Aside0.mk (blk_grown (be_ BK637.out) hg (Kd.R_ne HO_6.out BK637.out (by decide))); replace HO_6 := Aside0.mk (hp_); replace HB := Aside0.mk ((by rw [hw]; exact below_set (HB.out) GB22.out : Below w.heap.size w w24)); clear hg hw hp_))
       go_roundg k2
       case measure => have := HJ2.out; have := HK2.out; omega
       case rel => exact ⟨(y643), (wrap64 (x28_2 + 1)), rs_, H', ⟨by have := HJ2.out; have := HK2.out; omega⟩, ⟨re_ HO_6.out⟩, ⟨be_ BK633.out⟩, ⟨be_ BK637.out⟩, ⟨bq_ HB⟩⟩
     rw [if_neg c17] at H
     have c17b0 : decide (x28_2 < (l0.length : Int)) = false := decide_eq_false c17
     clear c17
     have H' := Aside0.mk H
     clear H
     go_wp2_with (first | ((with_reducible refine gate_dst (N := 9) rfl ?_); refine bx_ 9 #[.slice none 0 0] 26 ?_; intro gb644 hg w25 hbox hb; replace HO_6 := Aside0.mk (Kd.R_below (re_ HO_6.out) hb); have BK644 := Aside0.mk (hbox); have GW644 := gq_ hg (bq_ HB); have GE644 := gq_ hg (bq_ HB); replace HB := bp_ HB hb; have NB633_644 := nl_ hg BK633; have NB644_633 := ng_ hg BK633; replace BK633 := bk_ BK633 hb; have NB637_644 := nl_ hg BK637; have NB644_637 := ng_ hg BK637; replace BK637 := bk_ BK637 hb; clear hb hbox hg; have hnb26 := NB644_633.out; have hnc26 := NB633_644.out; have hnb27 := NB644_637.out; have hnc27 := NB637_644.out; have hcz28_0 := cz_ BK644; have hfz28_0 := blk_frozen BK644.out 0))
     go_loopg [10] k2 (fun kq v10 w' => ∃ (x10_3 : Int) (x645000_3 : List Int) (u645000 : Value), v10 = .int .i64 x10_3 ∧ Aside0 (impl_FromGaps.l1 kq l0 x6_2 x10_3 x645000_3 = some (r1, r2)) ∧ Aside0 (kq ≤ k2) ∧ Aside0 (Kd.R Kd.bool 4 w' w.heap.size (fun _ => True) v640 x6_2) ∧ Aside0 (Kd.R (Kd.int .i64) 3 w' w.heap.size (fun _ => True) u645000 x645000_3) ∧ Aside0 (w'.heap[gb633]? = some (.cells #[(.slice none 0 0)] 26 (0, 0))) ∧ Aside0 (w'.heap[gb637]? = some (.cells #[.int .i64 t634, .int .i64 t635] 61 (0, 0))) ∧ Aside0 (w'.heap[gb644]? = some (.cells #[u645000] 26 (0, 0))) ∧ Aside0 (Below w.heap.size w w'))
     case atStart => exact ⟨(1), (([] : List Int)), (.slice none 0 0), rs_, H', ⟨Nat.le_refl _⟩, ⟨by (with_reducible repeat (first | apply Kd.R_alloc | apply Kd.R_drewN | apply Kd.R_drew)); exact Kd.R_mono (Kd.R_far (p := ⟨gb644, 0, none⟩) (Kd.R_types HO_6.out BK644.out (by decide)) (fun _ hk => hk.2) (.slice none 0 0)) (fun _ hk => trivial)⟩, ⟨by first | exact Kd.R_nil _ _ _ _ _ | exact Kd.N_nil _ _ _ _ _ | exact Kd.V_nil _ _ _ _ _ | exact Kd.Q_nil _ _ _ _ _ | exact Kd.S_nil _ _ _ _ _⟩, ⟨ba_ BK633⟩, ⟨ba_ BK637⟩, ⟨bz_ BK644⟩, ⟨bq_ HB⟩⟩
     case round =>
      clear H'
      try clear c17b0
      try clear hcz28_0
      try clear hfz28_0
      obtain ⟨x10_3, x645000_3, u645000, rfl, HA, HK3, HO_6, HO_645000, BK633, BK637, BK644, HB⟩ := hrel
      cases gk with
      | zero => exact absurd HA.out (by simp [impl_FromGaps.l1])
      | succ k3 =>
       have H := HA.out
       clear HA
       simp only [impl_FromGaps.l1] at H
       by_cases c29 : x10_3 < (x6_2.length : Int)
       rotate_left
       · rw [if_neg c29] at H
         have c29b0 : decide (x10_3 < (x6_2.length : Int)) = false := decide_eq_false c29
         clear c29
         obtain ⟨t651, A49, H⟩ := ob_ H
         by_cases c50 : t651 = true
         rotate_left
         · replace c50 := Bool.eq_false_iff.mpr c50
           subst c50
           rw [if_neg (show ¬ (false = true) by decide)] at H
           simp only [Option.some.injEq, Prod.mk.injEq] at H
           obtain ⟨rfl, rfl⟩ := H
           obtain ⟨Ao77, co77, eo77⟩ := Kd.R_slice HO_6.out
           subst eo77
           have hnb78 := NB644_633.out
           have hnc78 := NB633_644.out
           have hnb79 := NB644_637.out
           have hnc79 := NB637_644.out
           have hcz80_0 := cz_ BK644
           have hfz80_0 := blk_frozen BK644.out 0
           obtain ⟨Ao81, co81, eo81⟩ := Kd.R_slice HO_645000.out
           subst eo81
           go_wp2_with (first | ((with_reducible refine gate_callee (f := 24) rfl ?_); refine gL_ (some 80) Try.func24 #[.agg #[.slice Ao81 x645000_3.length co81]] ?_; (with_reducible refine (impl_IsSemigroup.calls k3 _ _ x645000_3 false _ ?side1 ?side2 A49.out).mono ?_); (case side1 => exact ce_ ((Kd.R_reads' HO_645000.out).2.2)); (case side2 => exact (Kd.R_reads' HO_645000.out).2.1); rintro e w82 ⟨rfl, hb⟩; refine ⟨_, rfl, ?_⟩; replace HO_6 := Aside0.mk (Kd.R_below (re_ HO_6.out) hb); replace HO_645000 := Aside0.mk (Kd.R_below (re_ HO_645000.out) hb); replace BK633 := bk_ BK633 hb; replace BK637 := bk_ BK637 hb; replace BK644 := bk_ BK644 hb; replace HB := bp_ HB hb; (try clear hb); have hnb83 := NB633_637.out; have hnc83 := NB637_633.out; have hcz84_0 := cz_ BK633; have hfz84_0 := blk_frozen BK633.out 0))
           refine bodyPost_ret (results_ct rfl _ _ gb633 26 #[.slice none 0 0] (0, 0) _ rfl (bz_ BK633) Try.underlying26 rfl (by kernel_rfl)) rfl ?_
           exact ⟨_, rf_, by first | exact Kd.R_nil _ _ _ _ _ | exact Kd.N_nil _ _ _ _ _ | exact Kd.V_nil _ _ _ _ _ | exact Kd.Q_nil _ _ _ _ _ | exact Kd.S_nil _ _ _ _ _, bq_ HB⟩
         subst c50
         rw [if_pos rfl] at H
         obtain ⟨t652, A51, H⟩ := ob_ H
         obtain ⟨t655, A52, H⟩ := ob_ H
         by_cases c53 : t655 = true
         · subst c53
           rw [if_pos rfl] at H
           simp only [Option.some.injEq, Prod.mk.injEq] at H
           obtain ⟨rfl, rfl⟩ := H
           obtain ⟨Ao54, co54, eo54⟩ := Kd.R_slice HO_6.out
           subst eo54
           have hnb55 := NB644_633.out
           have hnc55 := NB633_644.out
           have hnb56 := NB644_637.out
           have hnc56 := NB637_644.out
           have hcz57_0 := cz_ BK644
           have hfz57_0 := blk_frozen BK644.out 0
           obtain ⟨Ao58, co58, eo58⟩ := Kd.R_slice HO_645000.out
           subst eo58
           go_wp2_with (first | ((with_reducible refine gate_callee (f := 24) rfl ?_); refine gL_ (some 80) Try.func24 #[.agg #[.slice Ao58 x645000_3.length co58]] ?_; (with_reducible refine (impl_IsSemigroup.calls k3 _ _ x645000_3 true _ ?side1 ?side2 A49.out).mono ?_); (case side1 => exact ce_ ((Kd.R_reads' HO_645000.out).2.2)); (case side2 => exact (Kd.R_reads' HO_645000.out).2.1); rintro e w59 ⟨rfl, hb⟩; refine ⟨_, rfl, ?_⟩; replace HO_6 := Aside0.mk (Kd.R_below (re_ HO_6.out) hb); replace HO_645000 := Aside0.mk (Kd.R_below (re_ HO_645000.out) hb); replace BK633 := bk_ BK633 hb; replace BK637 := bk_ BK637 hb; replace BK644 := bk_ BK644 hb; replace HB := bp_ HB hb; (try clear hb); have hcz60_0 := cz_ BK644; have hfz60_0 := blk_frozen BK644.out 0) | (go_at_call 54; (with_reducible refine (impl_Gaps.calls k3 _ _ x645000_3 t652 _ ?side1 ?side2 A51.out).mono ?_); (case side1 => exact ce_ ((Kd.R_reads' HO_645000.out).2.2)); (case side2 => exact (Kd.R_reads' HO_645000.out).2.1); rintro e w61 ⟨v653, rfl, ho0, hb⟩; replace HO_6 := Aside0.mk (Kd.R_below (re_ HO_6.out) hb); have HO654 := Aside0.mk (Kd.R_lower (Kd.R_new' ho0 (Kd.R_lt (re_ HO_645000.out))) (below_size (bq_ HB))); replace HO_645000 := Aside0.mk (Kd.R_elder' (re_ HO_645000.out) (Kd.R_base ho0) hb); replace BK633 := bk_ BK633 hb; replace BK637 := bk_ BK637 hb; replace BK644 := bk_ BK644 hb; replace HB := bp_ HB hb; (try clear hb); (try clear ho0); obtain ⟨Ao62, co62, eo62⟩ := Kd.R_slice HO654.out; subst eo62) | (go_at_call 53; (with_reducible refine (slices_Equal_int_int.calls k3 _ _ t652 _ _ l0 true _ ?side1 ?side2 ?side3 ?side4 A52.out).mono ?_); (case side1 => exact ce_ ((Kd.R_reads' HO654.out).2.2)); (case side2 => exact (Kd.R_reads' HO654.out).2.1); (case side3 => exact ch_ HR0 HB); (case side4 => exact HC0.out); rintro e w' ⟨rfl, ⟨nd, rfl⟩⟩; (try (rw [drewN_self w61]; generalize hq_ : World.drewN w61 _ = w61; have n0_ : Aside0 (Kd.R (Kd.int .i64) 3 w61 w.heap.size (fun k_ => some k_ ≠ (.slice Ao58 x645000_3.length co58 : Value).ownBlock) (.slice Ao62 t652.length co62) t652) := ⟨by rw [← hq_]; exact (by (with_reducible repeat (first | apply Kd.R_alloc | apply Kd.R_drewN | apply Kd.R_drew)); exact Kd.R_mono HO654.out (fun _ hk => hk.2))⟩; have n1_ : Aside0 (Kd.R Kd.bool 4 w61 w.heap.size (fun _ => True) (.slice Ao54 x6_2.length co54) x6_2) := ⟨by rw [← hq_]; exact (re_ HO_6.out)⟩; have n2_ : Aside0 (Kd.R (Kd.int .i64) 3 w61 w.heap.size (fun k_ => some k_ ≠ (.slice Ao62 t652.length co62 : Value).ownBlock) (.slice Ao58 x645000_3.length co58) x645000_3) := ⟨by rw [← hq_]; exact (by (with_reducible repeat (first | apply Kd.R_alloc | apply Kd.R_drewN | apply Kd.R_drew)); exact Kd.R_mono HO_645000.out (fun _ hk => hk.2))⟩; have n3_ : Aside0 (w61.heap[gb633]? = some (.cells #[.slice none 0 0] 26 (0, 0))) := ⟨by rw [← hq_]; exact (be_ BK633.out)⟩; have n4_ : Aside0 (w61.heap[gb637]? = some (.cells #[.int .i64 t634, .int .i64 t635] 61 (0, 0))) := ⟨by rw [← hq_]; exact (be_ BK637.out)⟩; have n5_ : Aside0 (w61.heap[gb644]? = some (.cells #[.slice Ao58 x645000_3.length co58] 26 (0, 0))) := ⟨by rw [← hq_]; exact (be_ BK644.out)⟩; have n6_ : Aside0 (Below w.heap.size w w61) := ⟨by rw [← hq_]; exact (bq_ HB)⟩; clear HO654 HO_6 HO_645000 BK633 BK637 BK644 HB hq_; have HO654 := n0_; have HO_6 := n1_; have HO_645000 := n2_; have BK633 := n3_; have BK637 := n4_; have BK644 := n5_; have HB := n6_; clear n0_ n1_ n2_ n3_ n4_ n5_ n6_)); have hcz63_0 := cz_ BK644; have hfz63_0 := blk_frozen BK644.out 0; have hnb64 := NB633_637.out; have hnc64 := NB637_633.out; have hcz65_0 := cz_ BK633; have hfz65_0 := blk_frozen BK633.out 0))
           refine bodyPost_ret (results_ct rfl _ _ gb633 26 #[.slice Ao58 x645000_3.length co58] (0, 0) _ rfl (bz_ BK633) Try.underlying26 rfl (by kernel_rfl)) rfl ?_
           exact ⟨_, rf_, by (with_reducible repeat (first | apply Kd.R_alloc | apply Kd.R_drewN | apply Kd.R_drew)); exact Kd.R_mono (Kd.R_far (p := ⟨gb633, 0, none⟩) (Kd.R_types HO_645000.out BK633.out (by decide)) (fun _ hk => hk.2) (.slice Ao58 x645000_3.length co58)) (fun _ hk => trivial), bq_ HB⟩
         replace c53 := Bool.eq_false_iff.mpr c53
         subst c53
         rw [if_neg (show ¬ (false = true) by decide)] at H
         simp only [Option.some.injEq, Prod.mk.injEq] at H
         obtain ⟨rfl, rfl⟩ := H
         obtain ⟨Ao66, co66, eo66⟩ := Kd.R_slice HO_6.out
         subst eo66
         have hnb67 := NB644_633.out
         have hnc67 := NB633_644.out
         have hnb68 := NB644_637.out
         have hnc68 := NB637_644.out
         have hcz69_0 := cz_ BK644
         have hfz69_0 := blk_frozen BK644.out 0
         obtain ⟨Ao70, co70, eo70⟩ := Kd.R_slice HO_645000.out
         subst eo70
         go_wp2_with (first | ((with_reducible refine gate_callee (f := 24) rfl ?_); refine gL_ (some 80) Try.func24 #[.agg #[.slice Ao70 x645000_3.length co70]] ?_; (with_reducible refine (impl_IsSemigroup.calls k3 _ _ x645000_3 true _ ?side1 ?side2 A49.out).mono ?_); (case side1 => exact ce_ ((Kd.R_reads' HO_645000.out).2.2)); (case side2 => exact (Kd.R_reads' HO_645000.out).2.1); rintro e w71 ⟨rfl, hb⟩; refine ⟨_, rfl, ?_⟩; replace HO_6 := Aside0.mk (Kd.R_below (re_ HO_6.out) hb); replace HO_645000 := Aside0.mk (Kd.R_below (re_ HO_645000.out) hb); replace BK633 := bk_ BK633 hb; replace BK637 := bk_ BK637 hb; replace BK644 := bk_ BK644 hb; replace HB := bp_ HB hb; (try clear hb); have hcz72_0 := cz_ BK644; have hfz72_0 := blk_frozen BK644.out 0) | (go_at_call 54; (with_reducible refine (impl_Gaps.calls k3 _ _ x645000_3 t652 _ ?side1 ?side2 A51.out).mono ?_); (case side1 => exact ce_ ((Kd.R_reads' HO_645000.out).2.2)); (case side2 => exact (Kd.R_reads' HO_645000.out).2.1); rintro e w73 ⟨v653, rfl, ho0, hb⟩; replace HO_6 := Aside0.mk (Kd.R_below (re_ HO_6.out) hb); have HO654 := Aside0.mk (Kd.R_lower (Kd.R_new' ho0 (Kd.R_lt (re_ HO_645000.out))) (below_size (bq_ HB))); replace HO_645000 := Aside0.mk (Kd.R_elder' (re_ HO_645000.out) (Kd.R_base ho0) hb); replace BK633 := bk_ BK633 hb; replace BK637 := bk_ BK637 hb; replace BK644 := bk_ BK644 hb; replace HB := bp_ HB hb; (try clear hb); (try clear ho0); obtain ⟨Ao74, co74, eo74⟩ := Kd.R_slice HO654.out; subst eo74) | (go_at_call 53; (with_reducible refine (slices_Equal_int_int.calls k3 _ _ t652 _ _ l0 false _ ?side1 ?side2 ?side3 ?side4 A52.out).mono ?_); (case side1 => exact ce_ ((Kd.R_reads' HO654.out).2.2)); (case side2 => exact (Kd.R_reads' HO654.out).2.1); (case side3 => exact ch_ HR0 HB); (case side4 => exact HC0.out); rintro e w' ⟨rfl, ⟨nd, rfl⟩⟩; (try (rw [drewN_self w73]; generalize hq_ : World.drewN w73 _ = w73; have n0_ : Aside0 (Kd.R (Kd.int .i64) 3 w73 w.heap.size (fun k_ => some k_ ≠ (.slice Ao70 x645000_3.length co70 : Value).ownBlock) (.slice Ao74 t652.length co74) t652) := ⟨by rw [← hq_]; exact (by (with_reducible repeat (first | apply Kd.R_alloc | apply Kd.R_drewN | apply Kd.R_drew)); exact Kd.R_mono HO654.out (fun _ hk => hk.2))⟩; have n1_ : Aside0 (Kd.R Kd.bool 4 w73 w.heap.size (fun _ => True) (.slice Ao66 x6_2.length co66) x6_2) := ⟨by rw [← hq_]; exact (re_ HO_6.out)⟩; have n2_ : Aside0 (Kd.R (Kd.int .i64) 3 w73 w.heap.size (fun k_ => some k_ ≠ (.slice Ao74 t652.length co74 : Value).ownBlock) (.slice Ao70 x645000_3.length co70) x645000_3) := ⟨by rw [← hq_]; exact (by (with_reducible repeat (first | apply Kd.R_alloc | apply Kd.R_drewN | apply Kd.R_drew)); exact Kd.R_mono HO_645000.out (fun _ hk => hk.2))⟩; have n3_ : Aside0 (w73.heap[gb633]? = some (.cells #[.slice none 0 0] 26 (0, 0))) := ⟨by rw [← hq_]; exact (be_ BK633.out)⟩; have n4_ : Aside0 (w73.heap[gb637]? = some (.cells #[.int .i64 t634, .int .i64 t635] 61 (0, 0))) := ⟨by rw [← hq_]; exact (be_ BK637.out)⟩; have n5_ : Aside0 (w73.heap[gb644]? = some (.cells #[.slice Ao70 x645000_3.length co70] 26 (0, 0))) := ⟨by rw [← hq_]; exact (be_ BK644.out)⟩; have n6_ : Aside0 (Below w.heap.size w w73) := ⟨by rw [← hq_]; exact (bq_ HB)⟩; clear HO654 HO_6 HO_645000 BK633 BK637 BK644 HB hq_; have HO654 := n0_; have HO_6 := n1_; have HO_645000 := n2_; have BK633 := n3_; have BK637 := n4_; have BK644 := n5_; have HB := n6_; clear n0_ n1_ n2_ n3_ n4_ n5_ n6_)); have hnb75 := NB633_637.out; have hnc75 := NB637_633.out; have hcz76_0 := cz_ BK633; have hfz76_0 := blk_frozen BK633.out 0))
         refine bodyPost_ret (results_ct rfl _ _ gb633 26 #[.slice none 0 0] (0, 0) _ rfl (bz_ BK633) Try.underlying26 rfl (by kernel_rfl)) rfl ?_
         exact ⟨_, rf_, by first | exact Kd.R_nil _ _ _ _ _ | exact Kd.N_nil _ _ _ _ _ | exact Kd.V_nil _ _ _ _ _ | exact Kd.Q_nil _ _ _ _ _ | exact Kd.S_nil _ _ _ _ _, bq_ HB⟩
       rw [if_pos c29] at H
       have c29b0 : decide (x10_3 < (x6_2.length : Int)) = true := decide_eq_true c29
       clear c29
       obtain ⟨c30b0, H⟩ := ipd_ H
       have H' := Aside0.mk H
       clear H
       obtain ⟨Ao31, co31, eo31⟩ := Kd.R_slice HO_6.out
       subst eo31
       have p645 : 0 ≤ (x10_3 : Int) := od_
       have q645 : x10_3 < (x6_2.length : Int) := od_
       obtain ⟨ad645, e645, hx645_0⟩ := Kd.at_bool (Kd.R_reads' HO_6.out).2.2 x10_3 p645 q645
       cases e645
       replace p645 := eq_true p645
       replace q645 := eq_true q645
       go_wp2
       go_loopg [11, 12] k3 (fun kq v11 v12 w' => ∃ (x11_4 : Bool) (x12_4 : Int), v11 = .bool x11_4 ∧ v12 = .int .i64 x12_4 ∧ Aside0 (impl_FromGaps.l2 kq l0 x6_2 x10_3 x11_4 x12_4 x645000_3 = some (r1, r2)) ∧ Aside0 (kq ≤ k3) ∧ Aside0 (Kd.R Kd.bool 4 w' w.heap.size (fun _ => True) (.slice (some ad645) x6_2.length co31) x6_2) ∧ Aside0 (Kd.R (Kd.int .i64) 3 w' w.heap.size (fun _ => True) u645000 x645000_3) ∧ Aside0 (w'.heap[gb633]? = some (.cells #[(.slice none 0 0)] 26 (0, 0))) ∧ Aside0 (w'.heap[gb637]? = some (.cells #[.int .i64 t634, .int .i64 t635] 61 (0, 0))) ∧ Aside0 (w'.heap[gb644]? = some (.cells #[u645000] 26 (0, 0))) ∧ Aside0 (Below w.heap.size w w'))
       case atStart => exact ⟨(rdOf false x6_2 x10_3), (1), rs_, rs_, H', ⟨Nat.le_refl _⟩, ⟨re_ HO_6.out⟩, ⟨re_ HO_645000.out⟩, ⟨be_ BK633.out⟩, ⟨be_ BK637.out⟩, ⟨be_ BK644.out⟩, ⟨bq_ HB⟩⟩
       case round =>
        clear H'
        try clear c29b0
        try clear c30b0
        try clear hx645_0
        try clear p645
        try clear q645
        obtain ⟨x11_4, x12_4, rfl, rfl, HA, HK4, HO_6, HO_645000, BK633, BK637, BK644, HB⟩ := hrel
        cases gk with
        | zero => exact absurd HA.out (by simp [impl_FromGaps.l2])
        | succ k4 =>
         have H := HA.out
         clear HA
         simp only [impl_FromGaps.l2] at H
         by_cases c32 : (wrap64 (2 * x12_4)) ≤ x10_3
         rotate_left
         · rw [if_neg c32] at H
           have c32b0 : decide ((wrap64 (2 * x12_4)) ≤ x10_3) = false := decide_eq_false c32
           clear c32
           by_cases c41 : x11_4 = true
           · subst c41
             rw [if_pos rfl] at H
             have H' := Aside0.mk H
             clear H
             go_wp2
             go_roundg k4
             case measure => have := HJ2.out; have := HK2.out; have := HK3.out; have := HK4.out; omega
             case rel => exact ⟨(wrap64 (x10_3 + 1)), (x645000_3), (u645000), rs_, H', ⟨by have := HJ2.out; have := HK2.out; have := HK3.out; have := HK4.out; omega⟩, ⟨re_ HO_6.out⟩, ⟨re_ HO_645000.out⟩, ⟨be_ BK633.out⟩, ⟨be_ BK637.out⟩, ⟨be_ BK644.out⟩, ⟨bq_ HB⟩⟩
           replace c41 := Bool.eq_false_iff.mpr c41
           subst c41
           rw [if_neg (show ¬ (false = true) by decide)] at H
           obtain ⟨c42, H⟩ := ip_ H
           have LMc42 := Aside0.mk c42
           clear c42
           obtain ⟨y648, hy648⟩ : ∃ y_ : List Int, y_ = (x645000_3 ++ [x10_3]) := ⟨_, rfl⟩
           replace H : (impl_FromGaps.l1 k4 l0 x6_2 (wrap64 (x10_3 + 1)) y648) = some (r1, r2) := by subst hy648; exact H
           have Ny648 := Aside0.mk hy648
           clear hy648
           have H' := Aside0.mk H
           clear H
           have hnb43 := NB644_633.out
           have hnc43 := NB633_644.out
           have hnb44 := NB644_637.out
           have hnc44 := NB637_644.out
           have hcz45_0 := cz_ BK644
           have hfz45_0 := blk_frozen BK644.out 0
           go_wp2_with (first | ((with_reducible refine gate_builtin (b := .append) (xs := #[.tmp 74, .tmp 76]) rfl ?_); at_builtin; refine Kd.R_append (Kd.int .i64) (w0 := w) w.heap.size rfl (.tmp 74) (.tmp 76) 24 3 (.int .i64 0) 8 rfl Try.underlying24 info3 rfl (by decide) (by omega) u645000 x645000_3 x10_3 [.int .i64 x10_3] (fun _ => True) (fun _ => False) rfl rfl ?aP (fun _ hk => hk.elim) ?aF ?aO ?aB ?aS ?aL ?_; (case aP => exact rfl); (case aB => exact (bq_ HB)); (case aF => exact (fun _ _ => trivial)); (case aO => exact (re_ HO_645000.out)); (case aS => exact (below_size (bq_ HB))); (case aL => have := LMc42.out; omega); intro v649 w46 ho hb hg hat; rw [← Ny648.out] at ho; replace HO_6 := Aside0.mk (Kd.R_over' (re_ HO_6.out) (Kd.R_typed (re_ HO_645000.out)) (by decide) hg); replace BK633 := Aside0.mk (blk_grown (be_ BK633.out) hg (Kd.R_ne HO_645000.out BK633.out (by decide))); replace BK637 := Aside0.mk (blk_grown (be_ BK637.out) hg (Kd.R_ne HO_645000.out BK637.out (by decide))); replace BK644 := Aside0.mk (blk_grown (be_ BK644.out) hg (Kd.R_ne HO_645000.out BK644.out (by decide))); replace HB := Aside0.mk (hb); have HO650 := Aside0.mk (ho); clear HO_645000; clear ho hb hg hat; obtain ⟨Ao47, co47, eo47⟩ := Kd.R_slice HO650.out; subst eo47; have hcz48_0 := cz_ BK644; have hfz48_0 := blk_frozen BK644.out 0))
           go_roundg k4
           case measure => have := HJ2.out; have := HK2.out; have := HK3.out; have := HK4.out; omega
           case rel => exact ⟨(wrap64 (x10_3 + 1)), (y648), (.slice Ao47 y648.length co47), rs_, H', ⟨by have := HJ2.out; have := HK2.out; have := HK3.out; have := HK4.out; omega⟩, ⟨by (with_reducible repeat (first | apply Kd.R_alloc | apply Kd.R_drewN | apply Kd.R_drew)); exact Kd.R_mono (Kd.R_far (p := ⟨gb644, 0, none⟩) (Kd.R_types HO_6.out BK644.out (by decide)) (fun _ hk => hk.2) (.slice Ao47 y648.length co47)) (fun _ hk => trivial)⟩, ⟨by (with_reducible repeat (first | apply Kd.R_alloc | apply Kd.R_drewN | apply Kd.R_drew)); exact Kd.R_mono (Kd.R_far (p := ⟨gb644, 0, none⟩) (Kd.R_types HO650.out BK644.out (by decide)) (fun _ hk => hk.2) (.slice Ao47 y648.length co47)) (fun _ hk => trivial)⟩, ⟨ba_ BK633⟩, ⟨ba_ BK637⟩, ⟨bz_ BK644⟩, ⟨bq_ HB⟩⟩
         rw [if_pos c32] at H
         have c32b0 : decide ((wrap64 (2 * x12_4)) ≤ x10_3) = true := decide_eq_true c32
         clear c32
         by_cases c33 : x11_4 = true
         · subst c33
           rw [if_pos rfl] at H
           have H' := Aside0.mk H
           clear H
           go_wp2
           go_roundg k4
           case measure => have := HJ2.out; have := HK2.out; have := HK3.out; have := HK4.out; omega
           case rel => exact ⟨(wrap64 (x10_3 + 1)), (x645000_3), (u645000), rs_, H', ⟨by have := HJ2.out; have := HK2.out; have := HK3.out; have := HK4.out; omega⟩, ⟨re_ HO_6.out⟩, ⟨re_ HO_645000.out⟩, ⟨be_ BK633.out⟩, ⟨be_ BK637.out⟩, ⟨be_ BK644.out⟩, ⟨bq_ HB⟩⟩
         replace c33 := Bool.eq_false_iff.mpr c33
         subst c33
         rw [if_neg (show ¬ (false = true) by decide)] at H
         obtain ⟨c34b0, H⟩ := ipd_ H
         obtain ⟨c35b0, H⟩ := ipd_ H
         obtain ⟨bq36, hbq36⟩ : ∃ b_ : Bool, b_ = (rdOf false x6_2 x12_4) := ⟨_, rfl⟩
         replace H : (if bq36 = true then (impl_FromGaps.l2 k4 l0 x6_2 x10_3 false (wrap64 (x12_4 + 1)) x645000_3) else (if 0 ≤ (wrap64 (x10_3 - x12_4)) then (if (wrap64 (x10_3 - x12_4)) < (x6_2.length : Int) then (impl_FromGaps.l2 k4 l0 x6_2 x10_3 (!(rdOf false x6_2 (wrap64 (x10_3 - x12_4)))) (wrap64 (x12_4 + 1)) x645000_3) else (none)) else (none))) = some (r1, r2) := by rw [← hbq36] at H; exact H
         have Nbq36 := Aside0.mk hbq36
         clear hbq36
         by_cases c37 : bq36 = true
         · subst c37
           rw [if_pos rfl] at H
           have H' := Aside0.mk H
           clear H
           have p646 : 0 ≤ (x12_4 : Int) := od_
           have q646 : x12_4 < (x6_2.length : Int) := od_
           obtain ⟨ad646, e646, hx646_0⟩ := Kd.at_bool (Kd.R_reads' HO_6.out).2.2 x12_4 p646 q646
           (try rw [← Nbq36.out] at hx646_0)
           obtain rfl : ad645 = ad646 := (by injection e646)
           replace p646 := eq_true p646
           replace q646 := eq_true q646
           go_wp2
           go_roundg k4
           case measure => have := HJ2.out; have := HK2.out; have := HK3.out; have := HK4.out; omega
           case rel => exact ⟨(false), (wrap64 (x12_4 + 1)), rs_, rs_, H', ⟨by have := HJ2.out; have := HK2.out; have := HK3.out; have := HK4.out; omega⟩, ⟨re_ HO_6.out⟩, ⟨re_ HO_645000.out⟩, ⟨be_ BK633.out⟩, ⟨be_ BK637.out⟩, ⟨be_ BK644.out⟩, ⟨bq_ HB⟩⟩
         replace c37 := Bool.eq_false_iff.mpr c37
         subst c37
         rw [if_neg (show ¬ (false = true) by decide)] at H
         obtain ⟨ji38, hji38⟩ : ∃ j_ : Int, (wrap64 (x10_3 - x12_4)) = j_ := ⟨_, rfl⟩
         replace H : (if 0 ≤ (ji38) then (if (ji38) < (x6_2.length : Int) then (impl_FromGaps.l2 k4 l0 x6_2 x10_3 (!(rdOf false x6_2 (ji38))) (wrap64 (x12_4 + 1)) x645000_3) else (none)) else (none)) = some (r1, r2) := by first | (rw [hji38] at H; exact H) | (simp only [hji38] at H ⊢; exact H)
         have hji38w : (IntKind.i64.wrap (x10_3 - x12_4)) = ji38 := (i64_w _).trans hji38
         obtain ⟨c39b0, H⟩ := ipd_ H
         obtain ⟨c40b0, H⟩ := ipd_ H
         have H' := Aside0.mk H
         clear H
         have p646 : 0 ≤ (x12_4 : Int) := od_
         have q646 : x12_4 < (x6_2.length : Int) := od_
         obtain ⟨ad646, e646, hx646_0⟩ := Kd.at_bool (Kd.R_reads' HO_6.out).2.2 x12_4 p646 q646
         (try rw [← Nbq36.out] at hx646_0)
         obtain rfl : ad645 = ad646 := (by injection e646)
         replace p646 := eq_true p646
         replace q646 := eq_true q646
         have p647 : 0 ≤ ((ji38) : Int) := od_
         have q647 : (ji38) < (x6_2.length : Int) := od_
         obtain ⟨ad647, e647, hx647_0⟩ := Kd.at_bool (Kd.R_reads' HO_6.out).2.2 (ji38) p647 q647
         (try rw [← Nbq36.out] at hx647_0)
         obtain rfl : ad645 = ad647 := (by injection e647)
         replace p647 := eq_true p647
         replace q647 := eq_true q647
         go_wp2
         go_roundg k4
         case measure => have := HJ2.out; have := HK2.out; have := HK3.out; have := HK4.out; omega
         case rel => exact ⟨(!(rdOf false x6_2 (ji38))), (wrap64 (x12_4 + 1)), (by first | rfl | (simp; done) | (simp only [← hji38] <;> (first | rfl | simp)) | (simp [*]; done)), rs_, H', ⟨by have := HJ2.out; have := HK2.out; have := HK3.out; have := HK4.out; omega⟩, ⟨re_ HO_6.out⟩, ⟨re_ HO_645000.out⟩, ⟨be_ BK633.out⟩, ⟨be_ BK637.out⟩, ⟨be_ BK644.out⟩, ⟨bq_ HB⟩⟩
end Go.Proofs.Ytppkokbhgkeknaa.PA
end
