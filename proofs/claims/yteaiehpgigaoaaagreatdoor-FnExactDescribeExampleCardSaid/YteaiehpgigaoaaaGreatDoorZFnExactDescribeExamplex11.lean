-- Bundled by shake.py from this session's printed and written texts; Lean checks it.
import Derived.Test.YteaiehpgigaoaaaGreatDoorZFnExactDescribeExamplex1
import Derived.Test.YteaiehpgigaoaaaGreatDoorZFnExactDescribeExamplex10
import Derived.Test.YteaiehpgigaoaaaGreatDoorZFnExactDescribeExamplex7
import Derived.Test.YteaiehpgigaoaaaGreatDoorZFnExactDescribeExamplex9
section
namespace Go.Proofs.YteaiehpgigaoaaaGreatDoor.PA
open Go.RowKit Go.Proofs.YteaiehpgigaoaaaGreatDoorW.PrintWords Go.Proofs.YteaiehpgigaoaaaGreatDoorW.PrintLast Go.Proofs.YteaiehpgigaoaaaGreatDoorW.PrintMore
attribute [local go_sem] max2_int min2_int max_two min_two max_three min_three max_four min_four
set_option linter.unusedVariables false
set_option linter.unusedSimpArgs false
mutual
def impl_AperySet.j0 : Nat → Int → Bool → List Int → Option (List Int)
 | 0, _, _, _ => none
 | k + 1, x1, x16, x617000 => if x16 = true then (some ([] : List Int)) else (if 0 ≤ x1 then (if (x1 : Int).toNat ≤ 35184372088832 then ((some (List.replicate (x1 : Int).toNat 0 : List Int)).bind fun y619 => ((impl_table.f k x617000 (wrap64 (200 + x1))).bind fun t622 => (impl_AperySet.l0 k x1 y619 t622 (y619.length : Int) 0))) else (none)) else (none))
def impl_AperySet.l0 : Nat → Int → List Int → List Bool → Int → Int → Option (List Int)
 | 0, _, _, _, _, _ => none
 | k + 1, x1, x5, x6, x24, x25 => if x25 < x24 then (impl_AperySet.l1 k x1 x5 x6 x25 x24 x25) else (some x5)
def impl_AperySet.l1 : Nat → Int → List Int → List Bool → Int → Int → Int → Option (List Int)
 | 0, _, _, _, _, _, _ => none
 | k + 1, x1, x5, x6, x7, x24, x25 => if 0 ≤ x7 then (if x7 < (x5.length : Int) then (if 0 ≤ (rd x5 x7) then (if (rd x5 x7) < (x6.length : Int) then (if (rdOf false x6 (rd x5 x7) = true) then (if x1 = 0 then (none) else (if (Int.tmod (rd x5 x7) x1) = x7 then (impl_AperySet.l0 k x1 x5 x6 x24 (wrap64 (x25 + 1))) else (impl_AperySet.l1 k x1 (x5.set (x7 : Int).toNat (wrap64 ((rd x5 x7) + 1))) x6 x7 x24 x25))) else (impl_AperySet.l1 k x1 (x5.set (x7 : Int).toNat (wrap64 ((rd x5 x7) + 1))) x6 x7 x24 x25)) else (none)) else (none)) else (none)) else (none)
end
def impl_AperySet.f (k : Nat) (l0_0 : List Int) (a1 : Int) : Option (List Int) := (impl_within.f a1 1 60).bind fun t617 => (if t617 = true then ((impl_Contains.f k l0_0 a1).bind fun t618 => (impl_AperySet.j0 k a1 (!t618) l0_0)) else (impl_AperySet.j0 k a1 true l0_0))
set_option maxHeartbeats 8000000 in
set_option maxRecDepth 100000 in
theorem impl_AperySet.calls (k : Nat) (A0_0 : Option Addr) (c0_0 : Nat) (l0_0 : List Int) (a1 : Int) (r : List Int) (w : World) (hr0_0 : Kd.C (Kd.int .i64) w A0_0 l0_0.length l0_0) (hc0_0 : l0_0.length ≤ c0_0) (h : impl_AperySet.f k l0_0 a1 = some r) :
 Calls Tryz.prog 32 #[.agg #[.slice A0_0 l0_0.length c0_0], .int .i64 a1] w fun e w' => ∃ v0_ : Value, e = .returned (v0_) ∧ Kd.R (Kd.int .i64) 3 w' w.heap.size (fun _ => True) v0_ r ∧ Below w.heap.size w w' := by
 have hu29 := Tryz.underlying29
 have HR0_0 := Aside0.mk hr0_0
 have HC0_0 := Aside0.mk hc0_0
 clear hr0_0 hc0_0
 have HB := Aside0.mk (Below.refl w.heap.size w)
 have H : ((impl_within.f a1 1 60).bind fun t617 => (if t617 = true then ((impl_Contains.f k l0_0 a1).bind fun t618 => (impl_AperySet.j0 k a1 (!t618) l0_0)) else (impl_AperySet.j0 k a1 true l0_0))) = some r := h
 clear h
 have HC3 := Aside0.mk H
 clear H
 go_enter Tryz.func32, Tryz.ntmps32
 go_upto_region 1 with (first | ((with_reducible refine gate_dst (N := 2) rfl ?_); refine box_event ?hg (N := 2) ?hd (cs := #[.slice A0_0 l0_0.length c0_0]) (t := 29) ?hr ?_; (case hd => rfl); (case hg => rfl); (case hr => first | (go_simp; done) | (go_simp; rfl)); intro gb616 hg w4 hbox hb; have BK616 := Aside0.mk (hbox); have GW616 := Aside0.mk ((by rw [hg]; exact (below_size (bl_ HB.out)) : w.heap.size ≤ gb616)); have GE616 := Aside0.mk ((by rw [hg]; exact (below_size (bl_ HB.out)) : w.heap.size ≤ gb616)); replace HB := Aside0.mk (below_step (bl_ HB.out) hb); clear hb hbox hg))
 (try simp only [Act.put, z1_, z2_, z3_])
 go_cut [16] (fun v16 wc => ∃ (kq : Nat) (x16_2 : Bool), v16 = .bool x16_2 ∧ Aside0 (impl_AperySet.j0 kq a1 x16_2 l0_0 = some r) ∧ Aside0 (kq ≤ k) ∧ Aside0 (wc.heap[gb616]? = some (.cells #[(.slice A0_0 l0_0.length c0_0)] 29 (0, 0))) ∧ Aside0 (Below w.heap.size w wc))
 case first =>
  have H := HC3.out
  clear HC3
  replace H := Option.bind_eq_some_iff.mp H
  obtain ⟨t617, A50, H⟩ := H
  replace H : (if t617 = true then ((impl_Contains.f k l0_0 a1).bind fun t618 => (impl_AperySet.j0 k a1 (!t618) l0_0)) else (impl_AperySet.j0 k a1 true l0_0)) = some r := H
  have A5 := Aside0.mk A50
  clear A50
  by_cases c6 : t617 = true
  · subst c6
    have H1 : ((impl_Contains.f k l0_0 a1).bind fun t618 => (impl_AperySet.j0 k a1 (!t618) l0_0)) = some r := by rw [if_pos rfl] at H; exact H
    clear H
    have H := H1
    clear H1
    replace H := Option.bind_eq_some_iff.mp H
    obtain ⟨t618, A70, H⟩ := H
    replace H : (impl_AperySet.j0 k a1 (!t618) l0_0) = some r := H
    have A7 := Aside0.mk A70
    clear A70
    have H' := Aside0.mk H
    clear H
    go_wp2_with (first | ((with_reducible refine gate_callee (f := 21) rfl ?_); refine gL_ (some 9) Tryz.func21 #[.int .i64 a1, .int .i64 1, .int .i64 60] ?_; (with_reducible refine (impl_within.calls a1 1 60 true _ A5.out).mono ?_); rintro e w' ⟨rfl, ⟨nd, rfl⟩⟩; refine ⟨_, rfl, ?_⟩; have hcz8_0 : w4.cell? ⟨gb616, 0, none⟩ = some (.slice A0_0 l0_0.length c0_0) := (blk_cell BK616.out 0).trans rfl; have hfz8_0 := blk_frozen BK616.out 0) | (go_at_call 62; (with_reducible refine (impl_Contains.calls k _ _ l0_0 a1 t618 _ ?side1 ?side2 A7.out).mono ?_); (case side1 => repeat (first | exact (Kd.C_below HR0_0.out (by repeat (first | (with_reducible first | exact HB.out | apply below_alloc | apply pw_below_drewN | apply below_drew1 | refine below_set ?_ GE616.out) | exact HB.out))) | (with_reducible refine Kd.C_alloc ?_ _) | (with_reducible refine Kd.C_drewN ?_ _) | (with_reducible refine Kd.C_drew ?_))); (case side2 => exact HC0_0.out); rintro e w9 ⟨rfl, hb⟩; replace BK616 := Aside0.mk (blk_below (be_ BK616.out) hb); replace HB := Aside0.mk (below_step (by repeat (first | (with_reducible first | exact HB.out | apply below_alloc | apply pw_below_drewN | apply below_drew1 | refine below_set ?_ GE616.out) | exact HB.out)) hb); (try clear hb); (try clear hb2); (try clear hk); (try clear hi)))
    go_meet
    case rel => exact ⟨_, (!t618), (by first | rfl | (simp; done) | (simp [*]; done)), H', ⟨by first | omega | exact Nat.le_refl _⟩, ⟨be_ BK616.out⟩, ⟨by repeat (first | (with_reducible first | exact HB.out | apply below_alloc | apply pw_below_drewN | apply below_drew1 | refine below_set ?_ GE616.out) | exact HB.out)⟩⟩
  · replace c6 := Bool.eq_false_iff.mpr c6
    subst c6
    have H1 : (impl_AperySet.j0 k a1 true l0_0) = some r := by rw [if_neg (show ¬ (false = true) by decide)] at H; exact H
    clear H
    have H := H1
    clear H1
    have H' := Aside0.mk H
    clear H
    go_wp2_with (first | ((with_reducible refine gate_callee (f := 21) rfl ?_); refine gL_ (some 9) Tryz.func21 #[.int .i64 a1, .int .i64 1, .int .i64 60] ?_; (with_reducible refine (impl_within.calls a1 1 60 false _ A5.out).mono ?_); rintro e w' ⟨rfl, ⟨nd, rfl⟩⟩; refine ⟨_, rfl, ?_⟩))
    go_meet
    case rel => exact ⟨_, (true), (by first | rfl | (simp; done) | (simp [*]; done)), H', ⟨by first | omega | exact Nat.le_refl _⟩, ⟨be_ BK616.out⟩, ⟨by repeat (first | (with_reducible first | exact HB.out | apply below_alloc | apply pw_below_drewN | apply below_drew1 | refine below_set ?_ GE616.out) | exact HB.out)⟩⟩
 case rest =>
  clear HC3
  try clear c2
  try clear p2
  try clear c3
  try clear c6
  try clear hcz8_0
  try clear hfz8_0
  obtain ⟨kq, x16_2, rfl, HA, HJ2, BK616, HB⟩ := hcut
  cases kq with
  | zero => exact absurd HA.out (by simp [impl_AperySet.j0])
  | succ kj2 =>
   have H := HA.out
   clear HA
   simp only [impl_AperySet.j0] at H
   by_cases c10 : x16_2 = true
   · subst c10
     have H1 : (some ([] : List Int)) = some r := by rw [if_pos rfl] at H; exact H
     clear H
     have H := H1
     clear H1
     obtain rfl := Option.some.inj H
     go_wp2
     go_ret
     exact ⟨_, by first | rfl | (simp [errW_none, errW_some] <;> rfl) | (simp [*, errW_none, errW_some] <;> rfl), by first | exact Kd.R_nil _ _ _ _ _ | exact Kd.N_nil _ _ _ _ _ | exact Kd.V_nil _ _ _ _ _ | exact Kd.Q_nil _ _ _ _ _ | exact Kd.S_nil _ _ _ _ _, by repeat (first | (with_reducible first | exact HB.out | apply below_alloc | apply pw_below_drewN | apply below_drew1 | refine below_set ?_ GE616.out) | exact HB.out)⟩
   · replace c10 := Bool.eq_false_iff.mpr c10
     subst c10
     have H1 : (if 0 ≤ a1 then (if (a1 : Int).toNat ≤ 35184372088832 then ((some (List.replicate (a1 : Int).toNat 0 : List Int)).bind fun y619 => ((impl_table.f kj2 l0_0 (wrap64 (200 + a1))).bind fun t622 => (impl_AperySet.l0 kj2 a1 y619 t622 (y619.length : Int) 0))) else (none)) else (none)) = some r := by rw [if_neg (show ¬ (false = true) by decide)] at H; exact H
     clear H
     have H := H1
     clear H1
     by_cases c11 : 0 ≤ a1
     · rw [if_pos c11] at H
       have c11b0 := eq_true c11
       have c11b1 : decide (0 ≤ a1) = true := decide_eq_true c11
       clear c11
       by_cases c12 : (a1 : Int).toNat ≤ 35184372088832
       · rw [if_pos c12] at H
         have c12b0 := eq_true c12
         have c12b1 : decide ((a1 : Int).toNat ≤ 35184372088832) = true := decide_eq_true c12
         clear c12
         obtain ⟨y619, hy619⟩ : ∃ y_ : List Int, y_ = (List.replicate (a1 : Int).toNat 0) := ⟨_, rfl⟩
         replace H : ((impl_table.f kj2 l0_0 (wrap64 (200 + a1))).bind fun t622 => (impl_AperySet.l0 kj2 a1 y619 t622 (y619.length : Int) 0)) = some r := by subst hy619; exact H
         have Ny619 := Aside0.mk hy619
         clear hy619
         replace H := Option.bind_eq_some_iff.mp H
         obtain ⟨t622, A130, H⟩ := H
         replace H : (impl_AperySet.l0 kj2 a1 y619 t622 (y619.length : Int) 0) = some r := H
         have A13 := Aside0.mk A130
         clear A130
         have H' := Aside0.mk H
         clear H
         go_wp2_with (first | ((with_reducible refine gate_dst (N := 18) rfl ?_); refine Kd.R_make (Kd.int .i64) _ 3 rfl (N := 18) rfl 27 _ _ rfl a1 rfl rfl Tryz.underlying27 (.int .i64 0) 8 info3 rfl (by decide) (by omega) 0 (ok := fun _ => True) (okp := fun _ => True) rfl (fun _ hk => hk) trivial (od_) (Nat.le_trans (Nat.mul_le_mul_right _ (od_ : a1.toNat ≤ 35184372088832)) (by omega)) (Below.refl _ _) (Nat.le_refl _) ?_; intro v620 w14 ho15 hb hg_ hnew_; clear hg_ hnew_; (first | rw [← Ny619.out] at ho15 | (simp only [Int.reduceToNat] at ho15; rw [← Ny619.out] at ho15)); have HO621 := Aside0.mk (Kd.R_lower ho15 (below_size (by repeat (first | (with_reducible first | exact HB.out | apply below_alloc | apply pw_below_drewN | apply below_drew1 | refine below_set ?_ GE616.out) | exact HB.out)))); replace BK616 := Aside0.mk (blk_below (be_ BK616.out) hb); replace HB := Aside0.mk (below_step (by repeat (first | (with_reducible first | exact HB.out | apply below_alloc | apply pw_below_drewN | apply below_drew1 | refine below_set ?_ GE616.out) | exact HB.out)) hb); clear hb ho15; have hcz16_0 : w14.cell? ⟨gb616, 0, none⟩ = some (.slice A0_0 l0_0.length c0_0) := (blk_cell BK616.out 0).trans rfl; have hfz16_0 := blk_frozen BK616.out 0) | ((with_reducible refine gate_callee (f := 63) rfl ?_); refine gL_ (some 22) Tryz.func63 #[.agg #[.slice A0_0 l0_0.length c0_0], .int .i64 (wrap64 (200 + a1))] ?_; (with_reducible refine (impl_table.calls kj2 _ _ l0_0 (wrap64 (200 + a1)) t622 _ ?side1 ?side2 A13.out).mono ?_); (case side1 => exact ce_ ((Kd.C_below HR0_0.out HB.out))); (case side2 => exact HC0_0.out); rintro e w17 ⟨v623, rfl, ho0, hb⟩; refine ⟨_, rfl, ?_⟩; replace HO621 := Aside0.mk (Kd.R_below (re_ HO621.out) hb); have HO624 := Aside0.mk (Kd.R_lower ho0 (below_size (by repeat (first | (with_reducible first | exact HB.out | apply below_alloc | apply pw_below_drewN | apply below_drew1 | refine below_set ?_ GE616.out) | exact HB.out)))); replace BK616 := Aside0.mk (blk_below (be_ BK616.out) hb); replace HB := Aside0.mk (below_step (by repeat (first | (with_reducible first | exact HB.out | apply below_alloc | apply pw_below_drewN | apply below_drew1 | refine below_set ?_ GE616.out) | exact HB.out)) hb); (try clear hb); (try clear hb2); (try clear hk); (try clear hi); (try clear ho0); obtain ⟨Ao18, co18, eo18⟩ := Kd.R_slice HO621.out; subst eo18))
         go_loopg [25] kj2 (fun kq v25 w' => ∃ (x5_2 : List Int) (x25_2 : Int), v25 = .int .i64 x25_2 ∧ Aside0 (impl_AperySet.l0 kq a1 x5_2 t622 (y619.length : Int) x25_2 = some r) ∧ Aside0 (kq ≤ kj2) ∧ Aside0 (Kd.R (Kd.int .i64) 3 w' w.heap.size (fun _ => True) (.slice Ao18 y619.length co18) x5_2) ∧ Aside0 (Kd.R Kd.bool 4 w' w.heap.size (fun _ => True) v623 t622) ∧ Aside0 (w'.heap[gb616]? = some (.cells #[(.slice A0_0 l0_0.length c0_0)] 29 (0, 0))) ∧ Aside0 (Below w.heap.size w w'))
         case atStart => exact ⟨(y619), (0), (by first | rfl | (simp; done) | (simp [*]; done)), H', ⟨Nat.le_refl _⟩, ⟨re_ HO621.out⟩, ⟨re_ HO624.out⟩, ⟨be_ BK616.out⟩, ⟨by repeat (first | (with_reducible first | exact HB.out | apply below_alloc | apply pw_below_drewN | apply below_drew1 | refine below_set ?_ GE616.out) | exact HB.out)⟩⟩
         case round =>
          clear H'
          try clear c1
          try clear c2
          try clear p2
          try clear c3
          try clear c6
          try clear p6
          try clear c10
          try clear c11
          try clear c11b0
          try clear c11b1
          try clear c12
          try clear c12b0
          try clear c12b1
          try clear hcz16_0
          try clear hcz8_0
          try clear hfz16_0
          try clear hfz8_0
          try clear p2
          obtain ⟨x5_2, x25_2, rfl, HA, HK2, HO_5, HO_6, BK616, HB⟩ := hrel
          have hl5_2 := (Kd.R_reads' HO_5.out).1
          rw [hl5_2] at HO_5
          (try simp only [hl5_2])
          (try simp only [hl5_2] at BK616)
          (try simp only [hl5_2] at HO_6)
          cases gk with
          | zero => exact absurd HA.out (by simp [impl_AperySet.l0])
          | succ k2 =>
           have H := HA.out
           clear HA
           simp only [impl_AperySet.l0] at H
           by_cases c19 : x25_2 < (y619.length : Int)
           · rw [if_pos c19] at H
             have c19b0 : decide (x25_2 < (y619.length : Int)) = true := decide_eq_true c19
             (try (have c19h := c19b0; simp only [hl5_2] at c19h))
             clear c19
             have H' := Aside0.mk H
             clear H
             go_wp2
             go_loopg [] k2 (fun kq w' => ∃ (x5_3 : List Int), Aside0 (impl_AperySet.l1 kq a1 x5_3 t622 x25_2 (y619.length : Int) x25_2 = some r) ∧ Aside0 (kq ≤ k2) ∧ Aside0 (Kd.R (Kd.int .i64) 3 w' w.heap.size (fun _ => True) (.slice Ao18 x5_2.length co18) x5_3) ∧ Aside0 (Kd.R Kd.bool 4 w' w.heap.size (fun _ => True) v623 t622) ∧ Aside0 (w'.heap[gb616]? = some (.cells #[(.slice A0_0 l0_0.length c0_0)] 29 (0, 0))) ∧ Aside0 (Below w.heap.size w w'))
             case atStart => exact ⟨(x5_2), H', ⟨Nat.le_refl _⟩, ⟨by (try simp only [hl5_2]); (with_reducible repeat (first | apply Kd.R_alloc | apply Kd.R_drewN | apply Kd.R_drew)); exact HO_5.out⟩, ⟨by (try simp only [hl5_2]); (with_reducible repeat (first | apply Kd.R_alloc | apply Kd.R_drewN | apply Kd.R_drew)); exact HO_6.out⟩, ⟨by (try simp only [hl5_2]); (with_reducible repeat (first | refine blk_drewN ?_ _ | refine blk_drew ?_ | refine blk_alloc ?_ _)); exact BK616.out⟩, ⟨by repeat (first | (with_reducible first | exact HB.out | apply below_alloc | apply pw_below_drewN | apply below_drew1 | refine below_set ?_ GE616.out) | exact HB.out)⟩⟩
             case round =>
              clear H'
              try clear c1
              try clear c2
              try clear p2
              try clear c3
              try clear c6
              try clear p6
              try clear c10
              try clear c11
              try clear c11b0
              try clear c11b1
              try clear c12
              try clear c12b0
              try clear c12b1
              try clear c19
              try clear c19b0
              try clear hcz16_0
              try clear hcz8_0
              try clear hfz16_0
              try clear hfz8_0
              try clear p2
              try clear p6
              obtain ⟨x5_3, HA, HK3, HO_5, HO_6, BK616, HB⟩ := hrel
              have hl5_3 := (Kd.R_reads' HO_5.out).1
              rw [hl5_3] at HO_5
              (try simp only [hl5_3])
              (try simp only [hl5_3] at BK616)
              (try simp only [hl5_3] at HO_6)
              cases gk with
              | zero => exact absurd HA.out (by simp [impl_AperySet.l1])
              | succ k3 =>
               have H := HA.out
               clear HA
               simp only [impl_AperySet.l1] at H
               by_cases c20 : 0 ≤ x25_2
               · rw [if_pos c20] at H
                 have c20b0 : decide (0 ≤ x25_2) = true := decide_eq_true c20
                 clear c20
                 by_cases c21 : x25_2 < (x5_3.length : Int)
                 · rw [if_pos c21] at H
                   have c21b0 : decide (x25_2 < (x5_3.length : Int)) = true := decide_eq_true c21
                   (try (have c21h := c21b0; simp only [hl5_2, hl5_3] at c21h))
                   clear c21
                   by_cases c22 : 0 ≤ (rd x5_3 x25_2)
                   · rw [if_pos c22] at H
                     have c22b0 : decide (0 ≤ (rd x5_3 x25_2)) = true := decide_eq_true c22
                     clear c22
                     by_cases c23 : (rd x5_3 x25_2) < (t622.length : Int)
                     · rw [if_pos c23] at H
                       have c23b0 : decide ((rd x5_3 x25_2) < (t622.length : Int)) = true := decide_eq_true c23
                       (try (have c23h := c23b0; simp only [hl5_2, hl5_3] at c23h))
                       clear c23
                       obtain ⟨bq24, hbq24⟩ : ∃ b_ : Bool, b_ = (rdOf false t622 (rd x5_3 x25_2)) := ⟨_, rfl⟩
                       replace H : (if (bq24 = true) then (if a1 = 0 then (none) else (if (Int.tmod (rd x5_3 x25_2) a1) = x25_2 then (impl_AperySet.l0 k3 a1 x5_3 t622 (y619.length : Int) (wrap64 (x25_2 + 1))) else (impl_AperySet.l1 k3 a1 (x5_3.set (x25_2 : Int).toNat (wrap64 ((rd x5_3 x25_2) + 1))) t622 x25_2 (y619.length : Int) x25_2))) else (impl_AperySet.l1 k3 a1 (x5_3.set (x25_2 : Int).toNat (wrap64 ((rd x5_3 x25_2) + 1))) t622 x25_2 (y619.length : Int) x25_2)) = some r := by rw [← hbq24] at H; exact H
                       have Nbq24 := Aside0.mk hbq24
                       clear hbq24
                       by_cases c25 : (bq24 = true)
                       · subst c25
                         have H1 : (if a1 = 0 then (none) else (if (Int.tmod (rd x5_3 x25_2) a1) = x25_2 then (impl_AperySet.l0 k3 a1 x5_3 t622 (y619.length : Int) (wrap64 (x25_2 + 1))) else (impl_AperySet.l1 k3 a1 (x5_3.set (x25_2 : Int).toNat (wrap64 ((rd x5_3 x25_2) + 1))) t622 x25_2 (y619.length : Int) x25_2))) = some r := by rw [if_pos rfl] at H; exact H
                         clear H
                         have H := H1
                         clear H1
                         by_cases c26 : a1 = 0
                         · rw [if_pos c26] at H
                           exact absurd H (by simp)
                         · rw [if_neg c26] at H
                           have c26b0 : (a1 == 0) = false := beq_eq_false_iff_ne.mpr c26
                           have c26b1 : (a1 != 0) = true := bne_iff_ne.mpr c26
                           by_cases c27 : (Int.tmod (rd x5_3 x25_2) a1) = x25_2
                           · rw [if_pos c27] at H
                             have c27b0 : ((Int.tmod (rd x5_3 x25_2) a1) == x25_2) = true := beq_iff_eq.mpr c27
                             have c27b1 : ((Int.tmod (rd x5_3 x25_2) a1) != x25_2) = false := bne_eq_false_iff_eq.mpr c27
                             clear c27
                             have H' := Aside0.mk H
                             clear H
                             have p625 : 0 ≤ (x25_2 : Int) := od_
                             have q625 : x25_2 < (x5_3.length : Int) := od_
                             obtain ⟨ad625, e625, hx625_0⟩ := Kd.at_int (Kd.R_reads' HO_5.out).2.2 x25_2 p625 q625
                             cases e625
                             replace p625 := eq_true p625
                             replace q625 := eq_true q625
                             obtain ⟨Ao28, co28, eo28⟩ := Kd.R_slice HO_6.out
                             subst eo28
                             have p626 : 0 ≤ ((rd x5_3 x25_2) : Int) := od_
                             have q626 : (rd x5_3 x25_2) < (t622.length : Int) := od_
                             obtain ⟨ad626, e626, hx626_0⟩ := Kd.at_bool (Kd.R_reads' HO_6.out).2.2 (rd x5_3 x25_2) p626 q626
                             (try rw [← Nbq24.out] at hx626_0)
                             cases e626
                             replace p626 := eq_true p626
                             replace q626 := eq_true q626
                             have p627 : 0 ≤ (x25_2 : Int) := od_
                             have q627 : x25_2 < (x5_3.length : Int) := od_
                             obtain ⟨ad627, e627, hx627_0⟩ := Kd.at_int (Kd.R_reads' HO_5.out).2.2 x25_2 p627 q627
                             obtain rfl : ad625 = ad627 := (by injection e627)
                             replace p627 := eq_true p627
                             replace q627 := eq_true q627
                             go_wp2
                             (try simp only [← hl5_2, ← hl5_3])
                             go_roundg k3
                             case measure => have := HJ2.out; have := HK2.out; have := HK3.out; omega
                             case rel => exact ⟨(x5_3), (wrap64 (x25_2 + 1)), (by first | rfl | (simp; done) | (simp [*]; done)), H', ⟨by have := HJ2.out; have := HK2.out; have := HK3.out; omega⟩, ⟨by (try simp only [hl5_2]); (try simp only [hl5_3]); (with_reducible repeat (first | apply Kd.R_alloc | apply Kd.R_drewN | apply Kd.R_drew)); exact HO_5.out⟩, ⟨by (try simp only [hl5_2]); (try simp only [hl5_3]); (with_reducible repeat (first | apply Kd.R_alloc | apply Kd.R_drewN | apply Kd.R_drew)); exact HO_6.out⟩, ⟨by (try simp only [hl5_2]); (try simp only [hl5_3]); (with_reducible repeat (first | refine blk_drewN ?_ _ | refine blk_drew ?_ | refine blk_alloc ?_ _)); exact BK616.out⟩, ⟨by repeat (first | (with_reducible first | exact HB.out | apply below_alloc | apply pw_below_drewN | apply below_drew1 | refine below_set ?_ GE616.out) | exact HB.out)⟩⟩
                           · rw [if_neg c27] at H
                             have c27b0 : ((Int.tmod (rd x5_3 x25_2) a1) == x25_2) = false := beq_eq_false_iff_ne.mpr c27
                             have c27b1 : ((Int.tmod (rd x5_3 x25_2) a1) != x25_2) = true := bne_iff_ne.mpr c27
                             obtain ⟨y629, hy629⟩ : ∃ y_ : List Int, y_ = (x5_3.set (x25_2 : Int).toNat (wrap64 ((rd x5_3 x25_2) + 1))) := ⟨_, rfl⟩
                             replace H : (impl_AperySet.l1 k3 a1 y629 t622 x25_2 (y619.length : Int) x25_2) = some r := by subst hy629; exact H
                             have Ny629 := Aside0.mk hy629
                             clear hy629
                             have H' := Aside0.mk H
                             clear H
                             have p625 : 0 ≤ (x25_2 : Int) := od_
                             have q625 : x25_2 < (x5_3.length : Int) := od_
                             obtain ⟨ad625, e625, hx625_0⟩ := Kd.at_int (Kd.R_reads' HO_5.out).2.2 x25_2 p625 q625
                             cases e625
                             replace p625 := eq_true p625
                             replace q625 := eq_true q625
                             obtain ⟨Ao30, co30, eo30⟩ := Kd.R_slice HO_6.out
                             subst eo30
                             have p626 : 0 ≤ ((rd x5_3 x25_2) : Int) := od_
                             have q626 : (rd x5_3 x25_2) < (t622.length : Int) := od_
                             obtain ⟨ad626, e626, hx626_0⟩ := Kd.at_bool (Kd.R_reads' HO_6.out).2.2 (rd x5_3 x25_2) p626 q626
                             (try rw [← Nbq24.out] at hx626_0)
                             cases e626
                             replace p626 := eq_true p626
                             replace q626 := eq_true q626
                             have p627 : 0 ≤ (x25_2 : Int) := od_
                             have q627 : x25_2 < (x5_3.length : Int) := od_
                             obtain ⟨ad627, e627, hx627_0⟩ := Kd.at_int (Kd.R_reads' HO_5.out).2.2 x25_2 p627 q627
                             obtain rfl : ad625 = ad627 := (by injection e627)
                             replace p627 := eq_true p627
                             replace q627 := eq_true q627
                             have p628 : 0 ≤ (x25_2 : Int) := od_
                             have q628 : x25_2 < (x5_3.length : Int) := od_
                             obtain ⟨ad628, e628, hx628_0⟩ := Kd.at_int (Kd.R_reads' HO_5.out).2.2 x25_2 p628 q628
                             obtain rfl : ad625 = ad628 := (by injection e628)
                             replace p628 := eq_true p628
                             replace q628 := eq_true q628
                             have p29 : 0 ≤ (x25_2 : Int) := od_
                             have q29 : (x25_2 : Int) < ((x5_3.length : Int) : Int) := od_
                             obtain ⟨go29, co29, eo29, gb29, gl29, cl29, HG29⟩ := Kd.R_form HO_5.out (by omega)
                             (first | cases eo29 | (injection eo29 with ea_ en_ ec_; (first | subst ea_ | (injection ea_ with ea_; subst ea_)); subst ec_; clear en_))
                             have GB29 := Aside0.mk gb29
                             have GG29 := Aside0.mk HG29
                             clear gb29 gl29 HG29
                             (first | simp only [add_plain] at hx625_0 | skip)
                             (first | simp only [add_plain] at hx627_0 | skip)
                             (first | simp only [add_plain] at hx628_0 | skip)
                             obtain ⟨hx29_0, hf29_0⟩ := Kd.R_celln 0 HO_5.out (x25_2 : Int) p29 q29
                             replace p29 := eq_true p29
                             replace q29 := eq_true q29
                             have HP31 := Kd.R_putg HO_5.out (x25_2 : Int) (wrap64 ((rd x5_3 x25_2) + 1))
                             go_wp2_with (first | ((with_reducible refine gate_store (t := 3) (p := 51) rfl ?_); refine store_event (t := 3) (p := 51) (v := ?vo_w32) (w1 := (wr.setCell ⟨go29, (x25_2 : Int).toNat, none⟩ (.int .i64 (wrap64 ((rd x5_3 x25_2) + 1))))) ?hg ?ho ?hn ?hr ?_; (case ho => rfl); (case hg => rfl); (case hn => rfl); (case hr => first | (go_simp; done) | (go_simp; rfl)); intro w32 hw; have hg : wr.grownBy w32 (some go29) := (by rw [hw]; exact HP31.2); have hp_ : Kd.R (Kd.int .i64) 3 w32 w.heap.size (fun _ => True) (.slice (some ⟨go29, 0, none⟩) x5_3.length co18) y629 := (by rw [hw, Ny629.out]; exact HP31.1); clear HP31; replace HO_6 := Aside0.mk (Kd.R_over' (v := (.slice (some ⟨go29, 0, none⟩) x5_3.length co18)) (re_ HO_6.out) (Kd.R_typed HO_5.out) (by decide) hg); replace BK616 := Aside0.mk (blk_grown (be_ BK616.out) hg (Kd.R_ne HO_5.out BK616.out (by decide))); replace HO_5 := Aside0.mk (hp_); replace HB := Aside0.mk ((by rw [hw]; exact below_set (HB.out) GB29.out : Below w.heap.size w w32)); clear hg hw hp_))
                             (try simp only [← hl5_3])
                             go_roundg k3
                             case measure => have := HJ2.out; have := HK2.out; have := HK3.out; omega
                             case rel => exact ⟨(y629), H', ⟨by have := HJ2.out; have := HK2.out; have := HK3.out; omega⟩, ⟨by (try simp only [hl5_2]); (try simp only [hl5_3]); (with_reducible repeat (first | apply Kd.R_alloc | apply Kd.R_drewN | apply Kd.R_drew)); exact HO_5.out⟩, ⟨by (try simp only [hl5_2]); (try simp only [hl5_3]); (with_reducible repeat (first | apply Kd.R_alloc | apply Kd.R_drewN | apply Kd.R_drew)); exact HO_6.out⟩, ⟨by (try simp only [hl5_2]); (try simp only [hl5_3]); (with_reducible repeat (first | refine blk_drewN ?_ _ | refine blk_drew ?_ | refine blk_alloc ?_ _)); exact BK616.out⟩, ⟨by repeat (first | (with_reducible first | exact HB.out | apply below_alloc | apply pw_below_drewN | apply below_drew1 | refine below_set ?_ GE616.out) | exact HB.out)⟩⟩
                       · replace c25 := Bool.eq_false_iff.mpr c25
                         subst c25
                         have H1 : (impl_AperySet.l1 k3 a1 (x5_3.set (x25_2 : Int).toNat (wrap64 ((rd x5_3 x25_2) + 1))) t622 x25_2 (y619.length : Int) x25_2) = some r := by rw [if_neg (show ¬ (false = true) by decide)] at H; exact H
                         clear H
                         have H := H1
                         clear H1
                         obtain ⟨y631, hy631⟩ : ∃ y_ : List Int, y_ = (x5_3.set (x25_2 : Int).toNat (wrap64 ((rd x5_3 x25_2) + 1))) := ⟨_, rfl⟩
                         replace H : (impl_AperySet.l1 k3 a1 y631 t622 x25_2 (y619.length : Int) x25_2) = some r := by subst hy631; exact H
                         have Ny631 := Aside0.mk hy631
                         clear hy631
                         have H' := Aside0.mk H
                         clear H
                         have p625 : 0 ≤ (x25_2 : Int) := od_
                         have q625 : x25_2 < (x5_3.length : Int) := od_
                         obtain ⟨ad625, e625, hx625_0⟩ := Kd.at_int (Kd.R_reads' HO_5.out).2.2 x25_2 p625 q625
                         cases e625
                         replace p625 := eq_true p625
                         replace q625 := eq_true q625
                         obtain ⟨Ao34, co34, eo34⟩ := Kd.R_slice HO_6.out
                         subst eo34
                         have p626 : 0 ≤ ((rd x5_3 x25_2) : Int) := od_
                         have q626 : (rd x5_3 x25_2) < (t622.length : Int) := od_
                         obtain ⟨ad626, e626, hx626_0⟩ := Kd.at_bool (Kd.R_reads' HO_6.out).2.2 (rd x5_3 x25_2) p626 q626
                         (try rw [← Nbq24.out] at hx626_0)
                         cases e626
                         replace p626 := eq_true p626
                         replace q626 := eq_true q626
                         have p630 : 0 ≤ (x25_2 : Int) := od_
                         have q630 : x25_2 < (x5_3.length : Int) := od_
                         obtain ⟨ad630, e630, hx630_0⟩ := Kd.at_int (Kd.R_reads' HO_5.out).2.2 x25_2 p630 q630
                         obtain rfl : ad625 = ad630 := (by injection e630)
                         replace p630 := eq_true p630
                         replace q630 := eq_true q630
                         have p33 : 0 ≤ (x25_2 : Int) := od_
                         have q33 : (x25_2 : Int) < ((x5_3.length : Int) : Int) := od_
                         obtain ⟨go33, co33, eo33, gb33, gl33, cl33, HG33⟩ := Kd.R_form HO_5.out (by omega)
                         (first | cases eo33 | (injection eo33 with ea_ en_ ec_; (first | subst ea_ | (injection ea_ with ea_; subst ea_)); subst ec_; clear en_))
                         have GB33 := Aside0.mk gb33
                         have GG33 := Aside0.mk HG33
                         clear gb33 gl33 HG33
                         (first | simp only [add_plain] at hx625_0 | skip)
                         (first | simp only [add_plain] at hx630_0 | skip)
                         obtain ⟨hx33_0, hf33_0⟩ := Kd.R_celln 0 HO_5.out (x25_2 : Int) p33 q33
                         replace p33 := eq_true p33
                         replace q33 := eq_true q33
                         have HP35 := Kd.R_putg HO_5.out (x25_2 : Int) (wrap64 ((rd x5_3 x25_2) + 1))
                         go_wp2_with (first | ((with_reducible refine gate_store (t := 3) (p := 51) rfl ?_); refine store_event (t := 3) (p := 51) (v := ?vo_w36) (w1 := (wr.setCell ⟨go33, (x25_2 : Int).toNat, none⟩ (.int .i64 (wrap64 ((rd x5_3 x25_2) + 1))))) ?hg ?ho ?hn ?hr ?_; (case ho => rfl); (case hg => rfl); (case hn => rfl); (case hr => first | (go_simp; done) | (go_simp; rfl)); intro w36 hw; have hg : wr.grownBy w36 (some go33) := (by rw [hw]; exact HP35.2); have hp_ : Kd.R (Kd.int .i64) 3 w36 w.heap.size (fun _ => True) (.slice (some ⟨go33, 0, none⟩) x5_3.length co18) y631 := (by rw [hw, Ny631.out]; exact HP35.1); clear HP35; replace HO_6 := Aside0.mk (Kd.R_over' (v := (.slice (some ⟨go33, 0, none⟩) x5_3.length co18)) (re_ HO_6.out) (Kd.R_typed HO_5.out) (by decide) hg); replace BK616 := Aside0.mk (blk_grown (be_ BK616.out) hg (Kd.R_ne HO_5.out BK616.out (by decide))); replace HO_5 := Aside0.mk (hp_); replace HB := Aside0.mk ((by rw [hw]; exact below_set (HB.out) GB33.out : Below w.heap.size w w36)); clear hg hw hp_))
                         (try simp only [← hl5_3])
                         go_roundg k3
                         case measure => have := HJ2.out; have := HK2.out; have := HK3.out; omega
                         case rel => exact ⟨(y631), H', ⟨by have := HJ2.out; have := HK2.out; have := HK3.out; omega⟩, ⟨by (try simp only [hl5_2]); (try simp only [hl5_3]); (with_reducible repeat (first | apply Kd.R_alloc | apply Kd.R_drewN | apply Kd.R_drew)); exact HO_5.out⟩, ⟨by (try simp only [hl5_2]); (try simp only [hl5_3]); (with_reducible repeat (first | apply Kd.R_alloc | apply Kd.R_drewN | apply Kd.R_drew)); exact HO_6.out⟩, ⟨by (try simp only [hl5_2]); (try simp only [hl5_3]); (with_reducible repeat (first | refine blk_drewN ?_ _ | refine blk_drew ?_ | refine blk_alloc ?_ _)); exact BK616.out⟩, ⟨by repeat (first | (with_reducible first | exact HB.out | apply below_alloc | apply pw_below_drewN | apply below_drew1 | refine below_set ?_ GE616.out) | exact HB.out)⟩⟩
                     · rw [if_neg c23] at H
                       exact absurd H (by simp)
                   · rw [if_neg c22] at H
                     exact absurd H (by simp)
                 · rw [if_neg c21] at H
                   exact absurd H (by simp)
               · rw [if_neg c20] at H
                 exact absurd H (by simp)
           · rw [if_neg c19] at H
             have c19b0 : decide (x25_2 < (y619.length : Int)) = false := decide_eq_false c19
             (try (have c19h := c19b0; simp only [hl5_2] at c19h))
             clear c19
             obtain rfl := Option.some.inj H
             go_wp2
             go_ret
             exact ⟨_, by first | rfl | (simp [errW_none, errW_some] <;> rfl) | (simp [*, errW_none, errW_some] <;> rfl), re_ HO_5.out, by repeat (first | (with_reducible first | exact HB.out | apply below_alloc | apply pw_below_drewN | apply below_drew1 | refine below_set ?_ GE616.out) | exact HB.out)⟩
       · rw [if_neg c12] at H
         exact absurd H (by simp)
     · rw [if_neg c11] at H
       exact absurd H (by simp)
def impl_ConductorOf.f (k : Nat) (l0_0 : List Int) : Option (Int) := (impl_FrobeniusOf.f k l0_0).bind fun t633 => (some (wrap64 (t633 + 1)))
set_option maxHeartbeats 8000000 in
set_option maxRecDepth 100000 in
theorem impl_ConductorOf.calls (k : Nat) (A0_0 : Option Addr) (c0_0 : Nat) (l0_0 : List Int) (r : Int) (w : World) (hr0_0 : Kd.C (Kd.int .i64) w A0_0 l0_0.length l0_0) (hc0_0 : l0_0.length ≤ c0_0) (h : impl_ConductorOf.f k l0_0 = some r) :
 Calls Tryz.prog 65 #[.agg #[.slice A0_0 l0_0.length c0_0]] w fun e w' => e = .returned (.int .i64 r) ∧ Below w.heap.size w w' := by
 have hu29 := Tryz.underlying29
 have HR0_0 := Aside0.mk hr0_0
 have HC0_0 := Aside0.mk hc0_0
 clear hr0_0 hc0_0
 have HB := Aside0.mk (Below.refl w.heap.size w)
 have H : ((impl_FrobeniusOf.f k l0_0).bind fun t633 => (some (wrap64 (t633 + 1)))) = some r := h
 clear h
 replace H := Option.bind_eq_some_iff.mp H
 obtain ⟨t633, A20, H⟩ := H
 replace H : (some (wrap64 (t633 + 1))) = some r := H
 have A2 := Aside0.mk A20
 clear A20
 obtain rfl := Option.some.inj H
 go_enter Tryz.func65, Tryz.ntmps65
 go_wp2_with (first | ((with_reducible refine gate_dst (N := 1) rfl ?_); refine box_event ?hg (N := 1) ?hd (cs := #[.slice A0_0 l0_0.length c0_0]) (t := 29) ?hr ?_; (case hd => rfl); (case hg => rfl); (case hr => first | (go_simp; done) | (go_simp; rfl)); intro gb632 hg w3 hbox hb; have BK632 := Aside0.mk (hbox); have GW632 := Aside0.mk ((by rw [hg]; exact (below_size (bl_ HB.out)) : w.heap.size ≤ gb632)); have GE632 := Aside0.mk ((by rw [hg]; exact (below_size (bl_ HB.out)) : w.heap.size ≤ gb632)); replace HB := Aside0.mk (below_step (bl_ HB.out) hb); clear hb hbox hg; have hcz4_0 : w3.cell? ⟨gb632, 0, none⟩ = some (.slice A0_0 l0_0.length c0_0) := (blk_cell BK632.out 0).trans rfl; have hfz4_0 := blk_frozen BK632.out 0) | ((with_reducible refine gate_callee (f := 27) rfl ?_); refine gL_ (some 4) Tryz.func27 #[.agg #[.slice A0_0 l0_0.length c0_0]] ?_; (with_reducible refine (impl_FrobeniusOf.calls k _ _ l0_0 t633 _ ?side1 ?side2 A2.out).mono ?_); (case side1 => exact ce_ ((Kd.C_below HR0_0.out HB.out))); (case side2 => exact HC0_0.out); rintro e w5 ⟨rfl, hb⟩; refine ⟨_, rfl, ?_⟩; replace BK632 := Aside0.mk (blk_below (be_ BK632.out) hb); replace HB := Aside0.mk (below_step (by repeat (first | (with_reducible first | exact HB.out | apply below_alloc | apply pw_below_drewN | apply below_drew1 | refine below_set ?_ GE632.out) | exact HB.out)) hb); (try clear hb); (try clear hb2); (try clear hk); (try clear hi)))
 go_ret
 exact ⟨by first | rfl | (simp [errW_none, errW_some] <;> rfl) | (simp [*, errW_none, errW_some] <;> rfl), by repeat (first | (with_reducible first | exact HB.out | apply below_alloc | apply pw_below_drewN | apply below_drew1 | refine below_set ?_ GE632.out) | exact HB.out)⟩
def impl_SmallElements.l0 : Nat → List Int → List Bool → Int → Int → Option (List Int)
 | 0, _, _, _, _ => none
 | k + 1, x3, x4, x13, x14 => if x14 < x13 then (if 0 ≤ x14 then (if x14 < (x4.length : Int) then (if rdOf false x4 x14 = true then (if x3.length < 17592186044416 then (impl_SmallElements.l0 k (x3 ++ [x14]) x4 x13 (wrap64 (x14 + 1))) else (none)) else (impl_SmallElements.l0 k x3 x4 x13 (wrap64 (x14 + 1)))) else (none)) else (none)) else (some x3)
def impl_SmallElements.f (k : Nat) (l0_0 : List Int) : Option (List Int) := (impl_IsSemigroup.f k l0_0).bind fun t635 => (if t635 = true then ((impl_table.f k l0_0 200).bind fun t639 => ((impl_ConductorOf.f k l0_0).bind fun t642 => (impl_SmallElements.l0 k (([] : List Int)) t639 t642 0))) else (some ([] : List Int)))
set_option maxHeartbeats 8000000 in
set_option maxRecDepth 100000 in
theorem impl_SmallElements.calls (k : Nat) (A0_0 : Option Addr) (c0_0 : Nat) (l0_0 : List Int) (r : List Int) (w : World) (hr0_0 : Kd.C (Kd.int .i64) w A0_0 l0_0.length l0_0) (hc0_0 : l0_0.length ≤ c0_0) (h : impl_SmallElements.f k l0_0 = some r) :
 Calls Tryz.prog 98 #[.agg #[.slice A0_0 l0_0.length c0_0]] w fun e w' => ∃ v0_ : Value, e = .returned (v0_) ∧ Kd.R (Kd.int .i64) 3 w' w.heap.size (fun _ => True) v0_ r ∧ Below w.heap.size w w' := by
 have hu29 := Tryz.underlying29
 have HR0_0 := Aside0.mk hr0_0
 have HC0_0 := Aside0.mk hc0_0
 clear hr0_0 hc0_0
 have HB := Aside0.mk (Below.refl w.heap.size w)
 have H : ((impl_IsSemigroup.f k l0_0).bind fun t635 => (if t635 = true then ((impl_table.f k l0_0 200).bind fun t639 => ((impl_ConductorOf.f k l0_0).bind fun t642 => (impl_SmallElements.l0 k (([] : List Int)) t639 t642 0))) else (some ([] : List Int)))) = some r := h
 clear h
 replace H := Option.bind_eq_some_iff.mp H
 obtain ⟨t635, A20, H⟩ := H
 replace H : (if t635 = true then ((impl_table.f k l0_0 200).bind fun t639 => ((impl_ConductorOf.f k l0_0).bind fun t642 => (impl_SmallElements.l0 k (([] : List Int)) t639 t642 0))) else (some ([] : List Int))) = some r := H
 have A2 := Aside0.mk A20
 clear A20
 by_cases c3 : t635 = true
 · subst c3
   have H1 : ((impl_table.f k l0_0 200).bind fun t639 => ((impl_ConductorOf.f k l0_0).bind fun t642 => (impl_SmallElements.l0 k (([] : List Int)) t639 t642 0))) = some r := by rw [if_pos rfl] at H; exact H
   clear H
   have H := H1
   clear H1
   obtain ⟨y636, hy636⟩ : ∃ y_ : List Int, y_ = (([] : List Int)) := ⟨_, rfl⟩
   replace H : ((impl_table.f k l0_0 200).bind fun t639 => ((impl_ConductorOf.f k l0_0).bind fun t642 => (impl_SmallElements.l0 k y636 t639 t642 0))) = some r := by subst hy636; exact H
   have Ny636 := Aside0.mk hy636
   clear hy636
   replace H := Option.bind_eq_some_iff.mp H
   obtain ⟨t639, A40, H⟩ := H
   replace H : ((impl_ConductorOf.f k l0_0).bind fun t642 => (impl_SmallElements.l0 k y636 t639 t642 0)) = some r := H
   have A4 := Aside0.mk A40
   clear A40
   replace H := Option.bind_eq_some_iff.mp H
   obtain ⟨t642, A50, H⟩ := H
   replace H : (impl_SmallElements.l0 k y636 t639 t642 0) = some r := H
   have A5 := Aside0.mk A50
   clear A50
   have H' := Aside0.mk H
   clear H
   go_enter Tryz.func98, Tryz.ntmps98
   go_wp2_with (first | ((with_reducible refine gate_dst (N := 1) rfl ?_); refine box_event ?hg (N := 1) ?hd (cs := #[.slice A0_0 l0_0.length c0_0]) (t := 29) ?hr ?_; (case hd => rfl); (case hg => rfl); (case hr => first | (go_simp; done) | (go_simp; rfl)); intro gb634 hg w6 hbox hb; have BK634 := Aside0.mk (hbox); have GW634 := Aside0.mk ((by rw [hg]; exact (below_size (bl_ HB.out)) : w.heap.size ≤ gb634)); have GE634 := Aside0.mk ((by rw [hg]; exact (below_size (bl_ HB.out)) : w.heap.size ≤ gb634)); replace HB := Aside0.mk (below_step (bl_ HB.out) hb); clear hb hbox hg; have hcz7_0 : w6.cell? ⟨gb634, 0, none⟩ = some (.slice A0_0 l0_0.length c0_0) := (blk_cell BK634.out 0).trans rfl; have hfz7_0 := blk_frozen BK634.out 0) | ((with_reducible refine gate_callee (f := 22) rfl ?_); refine gL_ (some 7) Tryz.func22 #[.agg #[.slice A0_0 l0_0.length c0_0]] ?_; (with_reducible refine (impl_IsSemigroup.calls k _ _ l0_0 true _ ?side1 ?side2 A2.out).mono ?_); (case side1 => exact ce_ ((Kd.C_below HR0_0.out HB.out))); (case side2 => exact HC0_0.out); rintro e w8 ⟨rfl, hb⟩; refine ⟨_, rfl, ?_⟩; replace BK634 := Aside0.mk (blk_below (be_ BK634.out) hb); replace HB := Aside0.mk (below_step (by repeat (first | (with_reducible first | exact HB.out | apply below_alloc | apply pw_below_drewN | apply below_drew1 | refine below_set ?_ GE634.out) | exact HB.out)) hb); (try clear hb); (try clear hb2); (try clear hk); (try clear hi)) | ((with_reducible refine gate_dst (N := 9) rfl ?_); refine Kd.R_lit (Kd.int .i64) _ 3 ?hg (N := 9) ?hd (xs := ([] : List Int)) (inner := []) (ok := fun _ => True) (okp := fun _ => True) ?hr ?hp (fun _ hk => hk) trivial (Below.refl _ _) (Nat.le_refl _) (by simp) ?_; (case hd => rfl); (case hg => rfl); (case hr => first | (go_simp; done) | (go_simp; rfl)); (case hp => exact (Reps.none _ _)); intro v637 w9 ho10 hb hg_ hnew_; clear hg_ hnew_; (first | rw [← Ny636.out] at ho10 | (simp only [Int.reduceToNat] at ho10; rw [← Ny636.out] at ho10)); have HO638 := Aside0.mk (Kd.R_lower ho10 (below_size (by repeat (first | (with_reducible first | exact HB.out | apply below_alloc | apply pw_below_drewN | apply below_drew1 | refine below_set ?_ GE634.out) | exact HB.out)))); replace BK634 := Aside0.mk (blk_below (be_ BK634.out) hb); replace HB := Aside0.mk (below_step (by repeat (first | (with_reducible first | exact HB.out | apply below_alloc | apply pw_below_drewN | apply below_drew1 | refine below_set ?_ GE634.out) | exact HB.out)) hb); clear hb ho10; have hcz11_0 : w9.cell? ⟨gb634, 0, none⟩ = some (.slice A0_0 l0_0.length c0_0) := (blk_cell BK634.out 0).trans rfl; have hfz11_0 := blk_frozen BK634.out 0) | ((with_reducible refine gate_callee (f := 63) rfl ?_); refine gL_ (some 11) Tryz.func63 #[.agg #[.slice A0_0 l0_0.length c0_0], .int .i64 200] ?_; (with_reducible refine (impl_table.calls k _ _ l0_0 200 t639 _ ?side1 ?side2 A4.out).mono ?_); (case side1 => exact ce_ ((Kd.C_below HR0_0.out HB.out))); (case side2 => exact HC0_0.out); rintro e w12 ⟨v640, rfl, ho0, hb⟩; refine ⟨_, rfl, ?_⟩; replace HO638 := Aside0.mk (Kd.R_below (re_ HO638.out) hb); have HO641 := Aside0.mk (Kd.R_lower ho0 (below_size (by repeat (first | (with_reducible first | exact HB.out | apply below_alloc | apply pw_below_drewN | apply below_drew1 | refine below_set ?_ GE634.out) | exact HB.out)))); replace BK634 := Aside0.mk (blk_below (be_ BK634.out) hb); replace HB := Aside0.mk (below_step (by repeat (first | (with_reducible first | exact HB.out | apply below_alloc | apply pw_below_drewN | apply below_drew1 | refine below_set ?_ GE634.out) | exact HB.out)) hb); (try clear hb); (try clear hb2); (try clear hk); (try clear hi); (try clear ho0); have hcz13_0 : w12.cell? ⟨gb634, 0, none⟩ = some (.slice A0_0 l0_0.length c0_0) := (blk_cell BK634.out 0).trans rfl; have hfz13_0 := blk_frozen BK634.out 0) | ((with_reducible refine gate_callee (f := 65) rfl ?_); refine gL_ (some 13) Tryz.func65 #[.agg #[.slice A0_0 l0_0.length c0_0]] ?_; (with_reducible refine (impl_ConductorOf.calls k _ _ l0_0 t642 _ ?side1 ?side2 A5.out).mono ?_); (case side1 => exact ce_ ((Kd.C_below HR0_0.out HB.out))); (case side2 => exact HC0_0.out); rintro e w14 ⟨rfl, hb⟩; refine ⟨_, rfl, ?_⟩; replace HO638 := Aside0.mk (Kd.R_below (re_ HO638.out) hb); replace HO641 := Aside0.mk (Kd.R_below (re_ HO641.out) hb); replace BK634 := Aside0.mk (blk_below (be_ BK634.out) hb); replace HB := Aside0.mk (below_step (by repeat (first | (with_reducible first | exact HB.out | apply below_alloc | apply pw_below_drewN | apply below_drew1 | refine below_set ?_ GE634.out) | exact HB.out)) hb); (try clear hb); (try clear hb2); (try clear hk); (try clear hi)))
   go_loopg [3, 14] k (fun kq v3 v14 w' => ∃ (x3_1 : List Int) (x14_1 : Int), v14 = .int .i64 x14_1 ∧ Aside0 (impl_SmallElements.l0 kq x3_1 t639 t642 x14_1 = some r) ∧ Aside0 (kq ≤ k) ∧ Aside0 (Kd.R (Kd.int .i64) 3 w' w.heap.size (fun _ => True) v3 x3_1) ∧ Aside0 (Kd.R Kd.bool 4 w' w.heap.size (fun _ => True) v640 t639) ∧ Aside0 (w'.heap[gb634]? = some (.cells #[(.slice A0_0 l0_0.length c0_0)] 29 (0, 0))) ∧ Aside0 (Below w.heap.size w w'))
   case atStart => exact ⟨(y636), (0), (by first | rfl | (simp; done) | (simp [*]; done)), H', ⟨Nat.le_refl _⟩, ⟨re_ HO638.out⟩, ⟨re_ HO641.out⟩, ⟨be_ BK634.out⟩, ⟨by repeat (first | (with_reducible first | exact HB.out | apply below_alloc | apply pw_below_drewN | apply below_drew1 | refine below_set ?_ GE634.out) | exact HB.out)⟩⟩
   case round =>
    clear H'
    try clear c2
    try clear p2
    try clear c3
    try clear c6
    try clear c9
    try clear hcz11_0
    try clear hcz13_0
    try clear hcz7_0
    try clear hfz11_0
    try clear hfz13_0
    try clear hfz7_0
    obtain ⟨x3_1, x14_1, rfl, HA, HK1, HO_3, HO_4, BK634, HB⟩ := hrel
    cases gk with
    | zero => exact absurd HA.out (by simp [impl_SmallElements.l0])
    | succ k1 =>
     have H := HA.out
     clear HA
     simp only [impl_SmallElements.l0] at H
     by_cases c15 : x14_1 < t642
     · rw [if_pos c15] at H
       have c15b0 : decide (x14_1 < t642) = true := decide_eq_true c15
       clear c15
       by_cases c16 : 0 ≤ x14_1
       · rw [if_pos c16] at H
         have c16b0 : decide (0 ≤ x14_1) = true := decide_eq_true c16
         clear c16
         by_cases c17 : x14_1 < (t639.length : Int)
         · rw [if_pos c17] at H
           have c17b0 : decide (x14_1 < (t639.length : Int)) = true := decide_eq_true c17
           clear c17
           obtain ⟨bq18, hbq18⟩ : ∃ b_ : Bool, b_ = (rdOf false t639 x14_1) := ⟨_, rfl⟩
           replace H : (if bq18 = true then (if x3_1.length < 17592186044416 then (impl_SmallElements.l0 k1 (x3_1 ++ [x14_1]) t639 t642 (wrap64 (x14_1 + 1))) else (none)) else (impl_SmallElements.l0 k1 x3_1 t639 t642 (wrap64 (x14_1 + 1)))) = some r := by rw [← hbq18] at H; exact H
           have Nbq18 := Aside0.mk hbq18
           clear hbq18
           by_cases c19 : bq18 = true
           · subst c19
             have H1 : (if x3_1.length < 17592186044416 then (impl_SmallElements.l0 k1 (x3_1 ++ [x14_1]) t639 t642 (wrap64 (x14_1 + 1))) else (none)) = some r := by rw [if_pos rfl] at H; exact H
             clear H
             have H := H1
             clear H1
             by_cases c20 : x3_1.length < 17592186044416
             · rw [if_pos c20] at H
               have LMc20 := Aside0.mk c20
               clear c20
               obtain ⟨y644, hy644⟩ : ∃ y_ : List Int, y_ = (x3_1 ++ [x14_1]) := ⟨_, rfl⟩
               replace H : (impl_SmallElements.l0 k1 y644 t639 t642 (wrap64 (x14_1 + 1))) = some r := by subst hy644; exact H
               have Ny644 := Aside0.mk hy644
               clear hy644
               have H' := Aside0.mk H
               clear H
               obtain ⟨Ao21, co21, eo21⟩ := Kd.R_slice HO_4.out
               subst eo21
               have p643 : 0 ≤ (x14_1 : Int) := od_
               have q643 : x14_1 < (t639.length : Int) := od_
               obtain ⟨ad643, e643, hx643_0⟩ := Kd.at_bool (Kd.R_reads' HO_4.out).2.2 x14_1 p643 q643
               (try rw [← Nbq18.out] at hx643_0)
               cases e643
               replace p643 := eq_true p643
               replace q643 := eq_true q643
               go_wp2_with (first | ((with_reducible refine gate_builtin (b := .append) (xs := #[.tmp 21, .tmp 23]) rfl ?_); at_builtin; refine Kd.R_append (Kd.int .i64) (w0 := w) w.heap.size rfl (.tmp 21) (.tmp 23) 27 3 (.int .i64 0) 8 rfl Tryz.underlying27 info3 rfl (by decide) (by omega) u3 x3_1 x14_1 [.int .i64 x14_1] (fun _ => True) (fun _ => False) rfl rfl ?aP (fun _ hk => hk.elim) ?aF ?aO ?aB ?aS ?aL ?_; (case aP => exact rfl); (case aB => exact (by repeat (first | (with_reducible first | exact HB.out | apply below_alloc | apply pw_below_drewN | apply below_drew1 | refine below_set ?_ GE634.out) | exact HB.out))); (case aF => exact (fun _ _ => trivial)); (case aO => exact (re_ HO_3.out)); (case aS => exact (below_size (by repeat (first | (with_reducible first | exact HB.out | apply below_alloc | apply pw_below_drewN | apply below_drew1 | refine below_set ?_ GE634.out) | exact HB.out)))); (case aL => have := LMc20.out; omega); intro v645 w22 ho hb hg hat; rw [← Ny644.out] at ho; replace HO_4 := Aside0.mk (Kd.R_over' (re_ HO_4.out) (Kd.R_typed (re_ HO_3.out)) (by decide) hg); replace BK634 := Aside0.mk (blk_grown (be_ BK634.out) hg (Kd.R_ne HO_3.out BK634.out (by decide))); replace HB := Aside0.mk (hb); have HO646 := Aside0.mk (ho); clear HO_3; clear ho hb hg hat))
               go_roundg k1
               case measure => have := HK1.out; omega
               case rel => exact ⟨(y644), (wrap64 (x14_1 + 1)), (by first | rfl | (simp; done) | (simp [*]; done)), H', ⟨by have := HK1.out; omega⟩, ⟨re_ HO646.out⟩, ⟨re_ HO_4.out⟩, ⟨be_ BK634.out⟩, ⟨by repeat (first | (with_reducible first | exact HB.out | apply below_alloc | apply pw_below_drewN | apply below_drew1 | refine below_set ?_ GE634.out) | exact HB.out)⟩⟩
             · rw [if_neg c20] at H
               exact absurd H (by simp)
           · replace c19 := Bool.eq_false_iff.mpr c19
             subst c19
             have H1 : (impl_SmallElements.l0 k1 x3_1 t639 t642 (wrap64 (x14_1 + 1))) = some r := by rw [if_neg (show ¬ (false = true) by decide)] at H; exact H
             clear H
             have H := H1
             clear H1
             have H' := Aside0.mk H
             clear H
             obtain ⟨Ao23, co23, eo23⟩ := Kd.R_slice HO_4.out
             subst eo23
             have p643 : 0 ≤ (x14_1 : Int) := od_
             have q643 : x14_1 < (t639.length : Int) := od_
             obtain ⟨ad643, e643, hx643_0⟩ := Kd.at_bool (Kd.R_reads' HO_4.out).2.2 x14_1 p643 q643
             (try rw [← Nbq18.out] at hx643_0)
             cases e643
             replace p643 := eq_true p643
             replace q643 := eq_true q643
             go_wp2
             go_roundg k1
             case measure => have := HK1.out; omega
             case rel => exact ⟨(x3_1), (wrap64 (x14_1 + 1)), (by first | rfl | (simp; done) | (simp [*]; done)), H', ⟨by have := HK1.out; omega⟩, ⟨re_ HO_3.out⟩, ⟨re_ HO_4.out⟩, ⟨be_ BK634.out⟩, ⟨by repeat (first | (with_reducible first | exact HB.out | apply below_alloc | apply pw_below_drewN | apply below_drew1 | refine below_set ?_ GE634.out) | exact HB.out)⟩⟩
         · rw [if_neg c17] at H
           exact absurd H (by simp)
       · rw [if_neg c16] at H
         exact absurd H (by simp)
     · rw [if_neg c15] at H
       have c15b0 : decide (x14_1 < t642) = false := decide_eq_false c15
       clear c15
       obtain rfl := Option.some.inj H
       go_wp2
       go_ret
       exact ⟨_, by first | rfl | (simp [errW_none, errW_some] <;> rfl) | (simp [*, errW_none, errW_some] <;> rfl), re_ HO_3.out, by repeat (first | (with_reducible first | exact HB.out | apply below_alloc | apply pw_below_drewN | apply below_drew1 | refine below_set ?_ GE634.out) | exact HB.out)⟩
 · replace c3 := Bool.eq_false_iff.mpr c3
   subst c3
   have H1 : (some ([] : List Int)) = some r := by rw [if_neg (show ¬ (false = true) by decide)] at H; exact H
   clear H
   have H := H1
   clear H1
   obtain rfl := Option.some.inj H
   go_enter Tryz.func98, Tryz.ntmps98
   go_wp2_with (first | ((with_reducible refine gate_dst (N := 1) rfl ?_); refine box_event ?hg (N := 1) ?hd (cs := #[.slice A0_0 l0_0.length c0_0]) (t := 29) ?hr ?_; (case hd => rfl); (case hg => rfl); (case hr => first | (go_simp; done) | (go_simp; rfl)); intro gb634 hg w24 hbox hb; have BK634 := Aside0.mk (hbox); have GW634 := Aside0.mk ((by rw [hg]; exact (below_size (bl_ HB.out)) : w.heap.size ≤ gb634)); have GE634 := Aside0.mk ((by rw [hg]; exact (below_size (bl_ HB.out)) : w.heap.size ≤ gb634)); replace HB := Aside0.mk (below_step (bl_ HB.out) hb); clear hb hbox hg; have hcz25_0 : w24.cell? ⟨gb634, 0, none⟩ = some (.slice A0_0 l0_0.length c0_0) := (blk_cell BK634.out 0).trans rfl; have hfz25_0 := blk_frozen BK634.out 0) | ((with_reducible refine gate_callee (f := 22) rfl ?_); refine gL_ (some 7) Tryz.func22 #[.agg #[.slice A0_0 l0_0.length c0_0]] ?_; (with_reducible refine (impl_IsSemigroup.calls k _ _ l0_0 false _ ?side1 ?side2 A2.out).mono ?_); (case side1 => exact ce_ ((Kd.C_below HR0_0.out HB.out))); (case side2 => exact HC0_0.out); rintro e w26 ⟨rfl, hb⟩; refine ⟨_, rfl, ?_⟩; replace BK634 := Aside0.mk (blk_below (be_ BK634.out) hb); replace HB := Aside0.mk (below_step (by repeat (first | (with_reducible first | exact HB.out | apply below_alloc | apply pw_below_drewN | apply below_drew1 | refine below_set ?_ GE634.out) | exact HB.out)) hb); (try clear hb); (try clear hb2); (try clear hk); (try clear hi)))
   go_ret
   exact ⟨_, by first | rfl | (simp [errW_none, errW_some] <;> rfl) | (simp [*, errW_none, errW_some] <;> rfl), by first | exact Kd.R_nil _ _ _ _ _ | exact Kd.N_nil _ _ _ _ _ | exact Kd.V_nil _ _ _ _ _ | exact Kd.Q_nil _ _ _ _ _ | exact Kd.S_nil _ _ _ _ _, by repeat (first | (with_reducible first | exact HB.out | apply below_alloc | apply pw_below_drewN | apply below_drew1 | refine below_set ?_ GE634.out) | exact HB.out)⟩
def impl_LeftCount.f (k : Nat) (l0_0 : List Int) : Option (Int) := (impl_IsSemigroup.f k l0_0).bind fun t648 => (if t648 = true then ((impl_SmallElements.f k l0_0).bind fun t649 => (some (t649.length : Int))) else (some (-1)))
set_option maxHeartbeats 8000000 in
set_option maxRecDepth 100000 in
theorem impl_LeftCount.calls (k : Nat) (A0_0 : Option Addr) (c0_0 : Nat) (l0_0 : List Int) (r : Int) (w : World) (hr0_0 : Kd.C (Kd.int .i64) w A0_0 l0_0.length l0_0) (hc0_0 : l0_0.length ≤ c0_0) (h : impl_LeftCount.f k l0_0 = some r) :
 Calls Tryz.prog 64 #[.agg #[.slice A0_0 l0_0.length c0_0]] w fun e w' => e = .returned (.int .i64 r) ∧ Below w.heap.size w w' := by
 have hu29 := Tryz.underlying29
 have HR0_0 := Aside0.mk hr0_0
 have HC0_0 := Aside0.mk hc0_0
 clear hr0_0 hc0_0
 have HB := Aside0.mk (Below.refl w.heap.size w)
 have H : ((impl_IsSemigroup.f k l0_0).bind fun t648 => (if t648 = true then ((impl_SmallElements.f k l0_0).bind fun t649 => (some (t649.length : Int))) else (some (-1)))) = some r := h
 clear h
 replace H := Option.bind_eq_some_iff.mp H
 obtain ⟨t648, A20, H⟩ := H
 replace H : (if t648 = true then ((impl_SmallElements.f k l0_0).bind fun t649 => (some (t649.length : Int))) else (some (-1))) = some r := H
 have A2 := Aside0.mk A20
 clear A20
 by_cases c3 : t648 = true
 · subst c3
   have H1 : ((impl_SmallElements.f k l0_0).bind fun t649 => (some (t649.length : Int))) = some r := by rw [if_pos rfl] at H; exact H
   clear H
   have H := H1
   clear H1
   replace H := Option.bind_eq_some_iff.mp H
   obtain ⟨t649, A40, H⟩ := H
   replace H : (some (t649.length : Int)) = some r := H
   have A4 := Aside0.mk A40
   clear A40
   obtain rfl := Option.some.inj H
   go_enter Tryz.func64, Tryz.ntmps64
   go_wp2_with (first | ((with_reducible refine gate_dst (N := 1) rfl ?_); refine box_event ?hg (N := 1) ?hd (cs := #[.slice A0_0 l0_0.length c0_0]) (t := 29) ?hr ?_; (case hd => rfl); (case hg => rfl); (case hr => first | (go_simp; done) | (go_simp; rfl)); intro gb647 hg w5 hbox hb; have BK647 := Aside0.mk (hbox); have GW647 := Aside0.mk ((by rw [hg]; exact (below_size (bl_ HB.out)) : w.heap.size ≤ gb647)); have GE647 := Aside0.mk ((by rw [hg]; exact (below_size (bl_ HB.out)) : w.heap.size ≤ gb647)); replace HB := Aside0.mk (below_step (bl_ HB.out) hb); clear hb hbox hg; have hcz6_0 : w5.cell? ⟨gb647, 0, none⟩ = some (.slice A0_0 l0_0.length c0_0) := (blk_cell BK647.out 0).trans rfl; have hfz6_0 := blk_frozen BK647.out 0) | ((with_reducible refine gate_callee (f := 22) rfl ?_); refine gL_ (some 4) Tryz.func22 #[.agg #[.slice A0_0 l0_0.length c0_0]] ?_; (with_reducible refine (impl_IsSemigroup.calls k _ _ l0_0 true _ ?side1 ?side2 A2.out).mono ?_); (case side1 => exact ce_ ((Kd.C_below HR0_0.out HB.out))); (case side2 => exact HC0_0.out); rintro e w7 ⟨rfl, hb⟩; refine ⟨_, rfl, ?_⟩; replace BK647 := Aside0.mk (blk_below (be_ BK647.out) hb); replace HB := Aside0.mk (below_step (by repeat (first | (with_reducible first | exact HB.out | apply below_alloc | apply pw_below_drewN | apply below_drew1 | refine below_set ?_ GE647.out) | exact HB.out)) hb); (try clear hb); (try clear hb2); (try clear hk); (try clear hi); have hcz8_0 : w7.cell? ⟨gb647, 0, none⟩ = some (.slice A0_0 l0_0.length c0_0) := (blk_cell BK647.out 0).trans rfl; have hfz8_0 := blk_frozen BK647.out 0) | ((with_reducible refine gate_callee (f := 98) rfl ?_); refine gL_ (some 7) Tryz.func98 #[.agg #[.slice A0_0 l0_0.length c0_0]] ?_; (with_reducible refine (impl_SmallElements.calls k _ _ l0_0 t649 _ ?side1 ?side2 A4.out).mono ?_); (case side1 => exact ce_ ((Kd.C_below HR0_0.out HB.out))); (case side2 => exact HC0_0.out); rintro e w9 ⟨v650, rfl, ho0, hb⟩; refine ⟨_, rfl, ?_⟩; have HO651 := Aside0.mk (Kd.R_lower ho0 (below_size (by repeat (first | (with_reducible first | exact HB.out | apply below_alloc | apply pw_below_drewN | apply below_drew1 | refine below_set ?_ GE647.out) | exact HB.out)))); replace BK647 := Aside0.mk (blk_below (be_ BK647.out) hb); replace HB := Aside0.mk (below_step (by repeat (first | (with_reducible first | exact HB.out | apply below_alloc | apply pw_below_drewN | apply below_drew1 | refine below_set ?_ GE647.out) | exact HB.out)) hb); (try clear hb); (try clear hb2); (try clear hk); (try clear hi); (try clear ho0); obtain ⟨Ao10, co10, eo10⟩ := Kd.R_slice HO651.out; subst eo10))
   go_ret
   exact ⟨by first | rfl | (simp [errW_none, errW_some] <;> rfl) | (simp [*, errW_none, errW_some] <;> rfl), by repeat (first | (with_reducible first | exact HB.out | apply below_alloc | apply pw_below_drewN | apply below_drew1 | refine below_set ?_ GE647.out) | exact HB.out)⟩
 · replace c3 := Bool.eq_false_iff.mpr c3
   subst c3
   have H1 : (some (-1)) = some r := by rw [if_neg (show ¬ (false = true) by decide)] at H; exact H
   clear H
   have H := H1
   clear H1
   obtain rfl := Option.some.inj H
   go_enter Tryz.func64, Tryz.ntmps64
   go_wp2_with (first | ((with_reducible refine gate_dst (N := 1) rfl ?_); refine box_event ?hg (N := 1) ?hd (cs := #[.slice A0_0 l0_0.length c0_0]) (t := 29) ?hr ?_; (case hd => rfl); (case hg => rfl); (case hr => first | (go_simp; done) | (go_simp; rfl)); intro gb647 hg w11 hbox hb; have BK647 := Aside0.mk (hbox); have GW647 := Aside0.mk ((by rw [hg]; exact (below_size (bl_ HB.out)) : w.heap.size ≤ gb647)); have GE647 := Aside0.mk ((by rw [hg]; exact (below_size (bl_ HB.out)) : w.heap.size ≤ gb647)); replace HB := Aside0.mk (below_step (bl_ HB.out) hb); clear hb hbox hg; have hcz12_0 : w11.cell? ⟨gb647, 0, none⟩ = some (.slice A0_0 l0_0.length c0_0) := (blk_cell BK647.out 0).trans rfl; have hfz12_0 := blk_frozen BK647.out 0) | ((with_reducible refine gate_callee (f := 22) rfl ?_); refine gL_ (some 4) Tryz.func22 #[.agg #[.slice A0_0 l0_0.length c0_0]] ?_; (with_reducible refine (impl_IsSemigroup.calls k _ _ l0_0 false _ ?side1 ?side2 A2.out).mono ?_); (case side1 => exact ce_ ((Kd.C_below HR0_0.out HB.out))); (case side2 => exact HC0_0.out); rintro e w13 ⟨rfl, hb⟩; refine ⟨_, rfl, ?_⟩; replace BK647 := Aside0.mk (blk_below (be_ BK647.out) hb); replace HB := Aside0.mk (below_step (by repeat (first | (with_reducible first | exact HB.out | apply below_alloc | apply pw_below_drewN | apply below_drew1 | refine below_set ?_ GE647.out) | exact HB.out)) hb); (try clear hb); (try clear hb2); (try clear hk); (try clear hi)))
   go_ret
   exact ⟨by first | rfl | (simp [errW_none, errW_some] <;> rfl) | (simp [*, errW_none, errW_some] <;> rfl), by repeat (first | (with_reducible first | exact HB.out | apply below_alloc | apply pw_below_drewN | apply below_drew1 | refine below_set ?_ GE647.out) | exact HB.out)⟩
end Go.Proofs.YteaiehpgigaoaaaGreatDoor.PA
end
section
namespace Go.Proofs.YteaiehpgigaoaaaGreatDoor.PA
open Go.RowKit Go.Proofs.YteaiehpgigaoaaaGreatDoorW.PrintWords Go.Proofs.YteaiehpgigaoaaaGreatDoorW.PrintLast Go.Proofs.YteaiehpgigaoaaaGreatDoorW.PrintMore
attribute [local go_sem] max2_int min2_int max_two min_two max_three min_three max_four min_four
set_option linter.unusedVariables false
set_option linter.unusedSimpArgs false
def impl_WilfNumber.f (k : Nat) (l0_0 : List Int) : Option (Int) := (impl_IsSemigroup.f k l0_0).bind fun t653 => (if t653 = true then ((impl_LeftCount.f k l0_0).bind fun t654 => ((impl_ConductorOf.f k l0_0).bind fun t655 => (some (wrap64 ((wrap64 ((l0_0.length : Int) * t654)) - t655))))) else (some (-1)))
def impl_WilfNumber.T3 : Bool × List (List Nat × List Nat) := (true, [([], []), ([0], [0]), ([1], [1]), ([], []), ([3], [3]), ([2, 4], [2, 4]), ([], []), ([6, 4], [6]), ([5, 7], [5, 7]), ([8, 7, 0, 1, 2, 3, 4, 5, 6, 7, 8], [8])])
def impl_WilfNumber.B3 : List Nat := [0, 1, 3, 0, 8, 31, 0, 88, 255, 511]
theorem impl_WilfNumber.tab3 : rtab .any (opsOf Tryz.f33 3) = impl_WilfNumber.T3 := by kernel_rfl
theorem impl_WilfNumber.bits3 : waitsOk impl_WilfNumber.T3.2 impl_WilfNumber.B3 = true := by kernel_rfl
set_option maxHeartbeats 8000000 in
set_option maxRecDepth 100000 in
theorem impl_WilfNumber.calls (k : Nat) (A0_0 : Option Addr) (c0_0 : Nat) (l0_0 : List Int) (r : Int) (w : World) (hr0_0 : Kd.C (Kd.int .i64) w A0_0 l0_0.length l0_0) (hc0_0 : l0_0.length ≤ c0_0) (h : impl_WilfNumber.f k l0_0 = some r) :
 Calls Tryz.prog 33 #[.agg #[.slice A0_0 l0_0.length c0_0]] w fun e w' => e = .returned (.int .i64 r) ∧ Below w.heap.size w w' := by
 have hu29 := Tryz.underlying29
 have HR0_0 := Aside0.mk hr0_0
 have HC0_0 := Aside0.mk hc0_0
 clear hr0_0 hc0_0
 have HB := Aside0.mk (Below.refl w.heap.size w)
 have H : ((impl_IsSemigroup.f k l0_0).bind fun t653 => (if t653 = true then ((impl_LeftCount.f k l0_0).bind fun t654 => ((impl_ConductorOf.f k l0_0).bind fun t655 => (some (wrap64 ((wrap64 ((l0_0.length : Int) * t654)) - t655))))) else (some (-1)))) = some r := h
 clear h
 replace H := Option.bind_eq_some_iff.mp H
 obtain ⟨t653, A20, H⟩ := H
 replace H : (if t653 = true then ((impl_LeftCount.f k l0_0).bind fun t654 => ((impl_ConductorOf.f k l0_0).bind fun t655 => (some (wrap64 ((wrap64 ((l0_0.length : Int) * t654)) - t655))))) else (some (-1))) = some r := H
 have A2 := Aside0.mk A20
 clear A20
 by_cases c3 : t653 = true
 · subst c3
   have H1 : ((impl_LeftCount.f k l0_0).bind fun t654 => ((impl_ConductorOf.f k l0_0).bind fun t655 => (some (wrap64 ((wrap64 ((l0_0.length : Int) * t654)) - t655))))) = some r := by rw [if_pos rfl] at H; exact H
   clear H
   have H := H1
   clear H1
   replace H := Option.bind_eq_some_iff.mp H
   obtain ⟨t654, A40, H⟩ := H
   replace H : ((impl_ConductorOf.f k l0_0).bind fun t655 => (some (wrap64 ((wrap64 ((l0_0.length : Int) * t654)) - t655)))) = some r := H
   have A4 := Aside0.mk A40
   clear A40
   replace H := Option.bind_eq_some_iff.mp H
   obtain ⟨t655, A50, H⟩ := H
   replace H : (some (wrap64 ((wrap64 ((l0_0.length : Int) * t654)) - t655))) = some r := H
   have A5 := Aside0.mk A50
   clear A50
   obtain rfl := Option.some.inj H
   go_enter Tryz.func33, Tryz.ntmps33
   try go_wp2_with (first | ((with_reducible refine gate_dst (N := 1) rfl ?_); refine box_event ?hg (N := 1) ?hd (cs := #[.slice A0_0 l0_0.length c0_0]) (t := 29) ?hr ?_; (case hd => rfl); (case hg => rfl); (case hr => first | (go_simp; done) | (go_simp; rfl)); intro gb652 hg w6 hbox hb; have BK652 := Aside0.mk (hbox); have GW652 := Aside0.mk ((by rw [hg]; exact (below_size (bl_ HB.out)) : w.heap.size ≤ gb652)); have GE652 := Aside0.mk ((by rw [hg]; exact (below_size (bl_ HB.out)) : w.heap.size ≤ gb652)); replace HB := Aside0.mk (below_step (bl_ HB.out) hb); clear hb hbox hg; have hcz7_0 : w6.cell? ⟨gb652, 0, none⟩ = some (.slice A0_0 l0_0.length c0_0) := (blk_cell BK652.out 0).trans rfl; have hfz7_0 := blk_frozen BK652.out 0) | ((with_reducible refine gate_callee (f := 22) rfl ?_); refine gL_ (some 4) Tryz.func22 #[.agg #[.slice A0_0 l0_0.length c0_0]] ?_; (with_reducible refine (impl_IsSemigroup.calls k _ _ l0_0 true _ ?side1 ?side2 A2.out).mono ?_); (case side1 => exact ce_ ((Kd.C_below HR0_0.out HB.out))); (case side2 => exact HC0_0.out); rintro e w8 ⟨rfl, hb⟩; refine ⟨_, rfl, ?_⟩; replace BK652 := Aside0.mk (blk_below (be_ BK652.out) hb); replace HB := Aside0.mk (below_step (by repeat (first | (with_reducible first | exact HB.out | apply below_alloc | apply pw_below_drewN | apply below_drew1 | refine below_set ?_ GE652.out) | exact HB.out)) hb); (try clear hb); (try clear hb2); (try clear hk); (try clear hi)))
   replace BK652 := Aside0.mk (blk_drew BK652.out)
   replace HB := Aside0.mk (below_drew1 HB.out)
   refine start_ (n := 10) (S := fun w' => w'.cell? ⟨gb652, 0, none⟩ = some (.slice A0_0 l0_0.length c0_0)) (ds := []) (B_ 0 10) (by kernel_rfl) rfl rfl ((blk_cell BK652.out 0).trans rfl) (fun hHeld => ?_); refine with_tabW impl_WilfNumber.tab3 impl_WilfNumber.bits3 (fun HT_ HW_ => ?_)
   generalize w8.drew = w9 at BK652 HB hHeld ⊢
   refine pu_ HT_ 0 6 (B_ 1 10) ?_
   refine tk1_ HT_ HW_ hHeld 1 7 (B_ 3 10) ?_
   refine pu_ HT_ 2 8 (B_ 7 10) ?_
   refine tk1_ HT_ HW_ hHeld 3 9 (B_ 15 10) ?_
   refine tk1_ HT_ HW_ hHeld 6 12 (B_ 79 10) ?_
   refine one_ (i := 4) (N := some 10) (B_ 95 10) rfl rfl (one_of HT_.out (by kernel_rfl)) (by decide) (fun K hK => ?_)
   refine goes_ Tryz.func64 (by kernel_rfl) rfl #[.agg #[.slice A0_0 l0_0.length c0_0]] (by rfl) rfl rfl (by (try simp only [List.map_toArray, List.map_cons, List.map_nil]); first | done | rfl | (simp only [List.length_drop, List.length_take]; rfl)) ?_
   with_reducible refine (impl_LeftCount.calls k _ _ l0_0 t654 _ ?side1 ?side2 A4.out).mono ?_
   (case side1 => exact ce_ ((Kd.C_below HR0_0.out HB.out)))
   (case side2 => exact HC0_0.out)
   rintro e w10 ⟨rfl, hb⟩
   refine ⟨_, rfl, ?_⟩
   replace BK652 := Aside0.mk (blk_below (be_ BK652.out) hb)
   replace HB := Aside0.mk (below_step (by repeat (first | (with_reducible first | exact HB.out | apply below_alloc | apply pw_below_drewN | apply below_drew1 | refine below_set ?_ GE652.out) | exact HB.out)) hb)
   (try clear hb)
   (try clear hb2)
   (try clear hk)
   (try clear hi)
   refine hK.out _ _ ((blk_cell BK652.out 0).trans rfl) (fun hHeld => ?_)
   clear hK K
   refine norm_ (a' := ?_) ?_ ?_
   rotate_left
   · show Act.put _ (some 10) _ = _
     simp only [Act.put, z1_, z2_, z3_, i64_w, i32_w]
     rfl
   refine pu_ HT_ 5 11 (B_ 127 10) ?_
   refine one_ (i := 7) (N := some 13) (B_ 255 10) rfl rfl (one_of HT_.out (by kernel_rfl)) (by decide) (fun K hK => ?_)
   refine goes_ Tryz.func65 (by kernel_rfl) rfl #[.agg #[.slice A0_0 l0_0.length c0_0]] (by rfl) rfl rfl (by (try simp only [List.map_toArray, List.map_cons, List.map_nil]); first | done | rfl | (simp only [List.length_drop, List.length_take]; rfl)) ?_
   with_reducible refine (impl_ConductorOf.calls k _ _ l0_0 t655 _ ?side1 ?side2 A5.out).mono ?_
   (case side1 => exact ce_ ((Kd.C_below HR0_0.out HB.out)))
   (case side2 => exact HC0_0.out)
   rintro e w11 ⟨rfl, hb⟩
   refine ⟨_, rfl, ?_⟩
   replace BK652 := Aside0.mk (blk_below (be_ BK652.out) hb)
   replace HB := Aside0.mk (below_step (by repeat (first | (with_reducible first | exact HB.out | apply below_alloc | apply pw_below_drewN | apply below_drew1 | refine below_set ?_ GE652.out) | exact HB.out)) hb)
   (try clear hb)
   (try clear hb2)
   (try clear hk)
   (try clear hi)
   refine hK.out _ _ ((blk_cell BK652.out 0).trans rfl) (fun hHeld => ?_)
   clear hK K
   refine norm_ (a' := ?_) ?_ ?_
   rotate_left
   · show Act.put _ (some 13) _ = _
     simp only [Act.put, z1_, z2_, z3_, i64_w, i32_w]
     rfl
   refine pu_ HT_ 8 14 (B_ 511 10) ?_
   refine pu_ HT_ 9 2 (B_ 1023 10) ?_
   refine done_ (done_of HT_.out (by kernel_rfl)) ?_
   try go_wp2
   go_ret
   exact ⟨by first | rfl | (simp [errW_none, errW_some] <;> rfl) | (simp [*, errW_none, errW_some] <;> rfl), by repeat (first | (with_reducible first | exact HB.out | apply below_alloc | apply pw_below_drewN | apply below_drew1 | refine below_set ?_ GE652.out) | exact HB.out)⟩
 · replace c3 := Bool.eq_false_iff.mpr c3
   subst c3
   have H1 : (some (-1)) = some r := by rw [if_neg (show ¬ (false = true) by decide)] at H; exact H
   clear H
   have H := H1
   clear H1
   obtain rfl := Option.some.inj H
   go_enter Tryz.func33, Tryz.ntmps33
   go_wp2_with (first | ((with_reducible refine gate_dst (N := 1) rfl ?_); refine box_event ?hg (N := 1) ?hd (cs := #[.slice A0_0 l0_0.length c0_0]) (t := 29) ?hr ?_; (case hd => rfl); (case hg => rfl); (case hr => first | (go_simp; done) | (go_simp; rfl)); intro gb652 hg w12 hbox hb; have BK652 := Aside0.mk (hbox); have GW652 := Aside0.mk ((by rw [hg]; exact (below_size (bl_ HB.out)) : w.heap.size ≤ gb652)); have GE652 := Aside0.mk ((by rw [hg]; exact (below_size (bl_ HB.out)) : w.heap.size ≤ gb652)); replace HB := Aside0.mk (below_step (bl_ HB.out) hb); clear hb hbox hg; have hcz13_0 : w12.cell? ⟨gb652, 0, none⟩ = some (.slice A0_0 l0_0.length c0_0) := (blk_cell BK652.out 0).trans rfl; have hfz13_0 := blk_frozen BK652.out 0) | ((with_reducible refine gate_callee (f := 22) rfl ?_); refine gL_ (some 4) Tryz.func22 #[.agg #[.slice A0_0 l0_0.length c0_0]] ?_; (with_reducible refine (impl_IsSemigroup.calls k _ _ l0_0 false _ ?side1 ?side2 A2.out).mono ?_); (case side1 => exact ce_ ((Kd.C_below HR0_0.out HB.out))); (case side2 => exact HC0_0.out); rintro e w14 ⟨rfl, hb⟩; refine ⟨_, rfl, ?_⟩; replace BK652 := Aside0.mk (blk_below (be_ BK652.out) hb); replace HB := Aside0.mk (below_step (by repeat (first | (with_reducible first | exact HB.out | apply below_alloc | apply pw_below_drewN | apply below_drew1 | refine below_set ?_ GE652.out) | exact HB.out)) hb); (try clear hb); (try clear hb2); (try clear hk); (try clear hi)))
   go_ret
   exact ⟨by first | rfl | (simp [errW_none, errW_some] <;> rfl) | (simp [*, errW_none, errW_some] <;> rfl), by repeat (first | (with_reducible first | exact HB.out | apply below_alloc | apply pw_below_drewN | apply below_drew1 | refine below_set ?_ GE652.out) | exact HB.out)⟩
end Go.Proofs.YteaiehpgigaoaaaGreatDoor.PA
end
