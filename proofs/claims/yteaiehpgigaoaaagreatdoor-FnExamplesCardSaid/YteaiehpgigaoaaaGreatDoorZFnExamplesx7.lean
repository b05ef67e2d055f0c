-- Bundled by shake.py from this session's printed and written texts; Lean checks it.
import Derived.Test.YteaiehpgigaoaaaGreatDoorZFnExamplesx1
import Derived.Test.YteaiehpgigaoaaaGreatDoorZFnExamplesx6
section
namespace Go.Proofs.YteaiehpgigaoaaaGreatDoor.PB
open Go.RowKit Go.Proofs.YteaiehpgigaoaaaGreatDoorW.PrintWords Go.Proofs.YteaiehpgigaoaaaGreatDoorW.PrintLast Go.Proofs.YteaiehpgigaoaaaGreatDoorW.PrintMore
attribute [local go_sem] max2_int min2_int max_two min_two max_three min_three max_four min_four
set_option linter.unusedVariables false
set_option linter.unusedSimpArgs false
set_option maxHeartbeats 8000000
set_option maxRecDepth 100000
mutual
def impl_leasts.l0 : Nat → List Int → Int → List Int → Int → Int → Option (List Int)
 | 0, _, _, _, _, _ => none
 | k + 1, x0, x1, x5, x16, x17 => if x17 < x16 then (if 0 ≤ x17 then (if x17 < (x5.length : Int) then (impl_leasts.l0 k x0 x1 (x5.set (x17 : Int).toNat (-1)) x16 (wrap64 (x17 + 1))) else (none)) else (none)) else (if 0 < (x5.length : Int) then (impl_leasts.l1 k x0 x1 (x5.set (0 : Int).toNat 0) true) else (none))
def impl_leasts.l1 : Nat → List Int → Int → List Int → Bool → Option (List Int)
 | 0, _, _, _, _ => none
 | k + 1, x0, x1, x5, x7 => if x7 = true then (impl_leasts.l2 k x0 x1 x5 false (x5.length : Int) 0) else (some x5)
def impl_leasts.l2 : Nat → List Int → Int → List Int → Bool → Int → Int → Option (List Int)
 | 0, _, _, _, _, _, _ => none
 | k + 1, x0, x1, x5, x7, x28, x29 => if x29 < x28 then (if 0 ≤ x29 then (if x29 < (x5.length : Int) then (if (rd x5 x29) < 0 then (impl_leasts.l2 k x0 x1 x5 x7 x28 (wrap64 (x29 + 1))) else (impl_leasts.l3 k x0 x1 x5 x7 x29 (rd x5 x29) x28 x29 x0 (x0.length : Int) 0)) else (none)) else (none)) else (impl_leasts.l1 k x0 x1 x5 x7)
def impl_leasts.l3 : Nat → List Int → Int → List Int → Bool → Int → Int → Int → Int → List Int → Int → Int → Option (List Int)
 | 0, _, _, _, _, _, _, _, _, _, _, _ => none
 | k + 1, x0, x1, x5, x7, x8, x9, x28, x29, x36, x37, x38 => if x38 < x37 then (if 0 ≤ x38 then (if x38 < (x36.length : Int) then (if x1 = 0 then (none) else (if 0 ≤ (Int.tmod (wrap64 (x8 + (rd x36 x38))) x1) then (if (Int.tmod (wrap64 (x8 + (rd x36 x38))) x1) < (x5.length : Int) then (if (rd x5 (Int.tmod (wrap64 (x8 + (rd x36 x38))) x1)) < 0 then (impl_leasts.l3 k x0 x1 (x5.set ((Int.tmod (wrap64 (x8 + (rd x36 x38))) x1) : Int).toNat (wrap64 (x9 + (rd x36 x38)))) true x8 x9 x28 x29 x36 x37 (wrap64 (x38 + 1))) else (if (wrap64 (x9 + (rd x36 x38))) < (rd x5 (Int.tmod (wrap64 (x8 + (rd x36 x38))) x1)) then (impl_leasts.l3 k x0 x1 (x5.set ((Int.tmod (wrap64 (x8 + (rd x36 x38))) x1) : Int).toNat (wrap64 (x9 + (rd x36 x38)))) true x8 x9 x28 x29 x36 x37 (wrap64 (x38 + 1))) else (impl_leasts.l3 k x0 x1 x5 x7 x8 x9 x28 x29 x36 x37 (wrap64 (x38 + 1))))) else (none)) else (none))) else (none)) else (none)) else (impl_leasts.l2 k x0 x1 x5 x7 x28 (wrap64 (x29 + 1)))
end
def impl_leasts.f (k : Nat) (l0 : List Int) (a1 : Int) : Option (List Int) := if 0 ≤ a1 then (if (a1 : Int).toNat ≤ 35184372088832 then ((some (List.replicate (a1 : Int).toNat 0 : List Int)).bind fun y445 => (impl_leasts.l0 k l0 a1 y445 (y445.length : Int) 0)) else (none)) else (none)
theorem impl_leasts.mono_l : ∀ k, (∀ y0 y1 y2 y3 y4, LeO (impl_leasts.l0 k y0 y1 y2 y3 y4) (impl_leasts.l0 (k + 1) y0 y1 y2 y3 y4)) ∧ (∀ y0 y1 y2 y3, LeO (impl_leasts.l1 k y0 y1 y2 y3) (impl_leasts.l1 (k + 1) y0 y1 y2 y3)) ∧ (∀ y0 y1 y2 y3 y4 y5, LeO (impl_leasts.l2 k y0 y1 y2 y3 y4 y5) (impl_leasts.l2 (k + 1) y0 y1 y2 y3 y4 y5)) ∧ (∀ y0 y1 y2 y3 y4 y5 y6 y7 y8 y9 y10, LeO (impl_leasts.l3 k y0 y1 y2 y3 y4 y5 y6 y7 y8 y9 y10) (impl_leasts.l3 (k + 1) y0 y1 y2 y3 y4 y5 y6 y7 y8 y9 y10))
 | 0 => ⟨fun _ _ _ _ _ r h => by simp [impl_leasts.l0] at h, fun _ _ _ _ r h => by simp [impl_leasts.l1] at h, fun _ _ _ _ _ _ r h => by simp [impl_leasts.l2] at h, fun _ _ _ _ _ _ _ _ _ _ _ r h => by simp [impl_leasts.l3] at h⟩
 | k + 1 => by
  obtain ⟨ih0, ih1, ih2, ih3⟩ := impl_leasts.mono_l k
  refine ⟨?_, ?_, ?_, ?_⟩
  · intro y0 y1 y2 y3 y4
    unfold impl_leasts.l0
    repeat' first
    | (with_reducible exact ih0 _ _ _ _ _)
    | (with_reducible exact ih1 _ _ _ _)
    | (with_reducible exact ih2 _ _ _ _ _ _)
    | (with_reducible exact ih3 _ _ _ _ _ _ _ _ _ _ _)
    | (with_reducible exact LeO.refl _)
    | (with_reducible exact LeO.none _)
    | (with_reducible refine LeO.ite ?_ ?_)
    | (with_reducible refine LeO.bind ?_ (fun _ => ?_))
    | exact ih0 _ _ _ _ _
    | exact ih1 _ _ _ _
    | exact ih2 _ _ _ _ _ _
    | exact ih3 _ _ _ _ _ _ _ _ _ _ _
    | exact LeO.none _
    | refine LeO.ite ?_ ?_
    | refine LeO.bind ?_ (fun _ => ?_)
  · intro y0 y1 y2 y3
    unfold impl_leasts.l1
    repeat' first
    | (with_reducible exact ih0 _ _ _ _ _)
    | (with_reducible exact ih1 _ _ _ _)
    | (with_reducible exact ih2 _ _ _ _ _ _)
    | (with_reducible exact ih3 _ _ _ _ _ _ _ _ _ _ _)
    | (with_reducible exact LeO.refl _)
    | (with_reducible exact LeO.none _)
    | (with_reducible refine LeO.ite ?_ ?_)
    | (with_reducible refine LeO.bind ?_ (fun _ => ?_))
    | exact ih0 _ _ _ _ _
    | exact ih1 _ _ _ _
    | exact ih2 _ _ _ _ _ _
    | exact ih3 _ _ _ _ _ _ _ _ _ _ _
    | exact LeO.none _
    | refine LeO.ite ?_ ?_
    | refine LeO.bind ?_ (fun _ => ?_)
  · intro y0 y1 y2 y3 y4 y5
    unfold impl_leasts.l2
    repeat' first
    | (with_reducible exact ih0 _ _ _ _ _)
    | (with_reducible exact ih1 _ _ _ _)
    | (with_reducible exact ih2 _ _ _ _ _ _)
    | (with_reducible exact ih3 _ _ _ _ _ _ _ _ _ _ _)
    | (with_reducible exact LeO.refl _)
    | (with_reducible exact LeO.none _)
    | (with_reducible refine LeO.ite ?_ ?_)
    | (with_reducible refine LeO.bind ?_ (fun _ => ?_))
    | exact ih0 _ _ _ _ _
    | exact ih1 _ _ _ _
    | exact ih2 _ _ _ _ _ _
    | exact ih3 _ _ _ _ _ _ _ _ _ _ _
    | exact LeO.none _
    | refine LeO.ite ?_ ?_
    | refine LeO.bind ?_ (fun _ => ?_)
  · intro y0 y1 y2 y3 y4 y5 y6 y7 y8 y9 y10
    unfold impl_leasts.l3
    repeat' first
    | (with_reducible exact ih0 _ _ _ _ _)
    | (with_reducible exact ih1 _ _ _ _)
    | (with_reducible exact ih2 _ _ _ _ _ _)
    | (with_reducible exact ih3 _ _ _ _ _ _ _ _ _ _ _)
    | (with_reducible exact LeO.refl _)
    | (with_reducible exact LeO.none _)
    | (with_reducible refine LeO.ite ?_ ?_)
    | (with_reducible refine LeO.bind ?_ (fun _ => ?_))
    | exact ih0 _ _ _ _ _
    | exact ih1 _ _ _ _
    | exact ih2 _ _ _ _ _ _
    | exact ih3 _ _ _ _ _ _ _ _ _ _ _
    | exact LeO.none _
    | refine LeO.ite ?_ ?_
    | refine LeO.bind ?_ (fun _ => ?_)
theorem impl_leasts.mono : ∀ a0 a1 k, LeO (impl_leasts.f k a0 a1) (impl_leasts.f (k + 1) a0 a1) := by
 intro a0 a1 k
 obtain ⟨ih0, ih1, ih2, ih3⟩ := impl_leasts.mono_l k
 unfold impl_leasts.f
 repeat' first
  | (with_reducible exact ih0 _ _ _ _ _)
  | (with_reducible exact ih1 _ _ _ _)
  | (with_reducible exact ih2 _ _ _ _ _ _)
  | (with_reducible exact ih3 _ _ _ _ _ _ _ _ _ _ _)
  | (with_reducible exact LeO.refl _)
  | (with_reducible exact LeO.none _)
  | (with_reducible refine LeO.ite ?_ ?_)
  | (with_reducible refine LeO.bind ?_ (fun _ => ?_))
  | exact ih0 _ _ _ _ _
  | exact ih1 _ _ _ _
  | exact ih2 _ _ _ _ _ _
  | exact ih3 _ _ _ _ _ _ _ _ _ _ _
  | exact LeO.none _
  | refine LeO.ite ?_ ?_
  | refine LeO.bind ?_ (fun _ => ?_)
theorem impl_leasts.calls (k : Nat) (A0 : Option Addr) (c0 : Nat) (l0 : List Int) (a1 : Int) (r : List Int) (w : World) (hr0 : Kd.C (Kd.int .i64) w A0 l0.length l0) (hc0 : l0.length ≤ c0) (h : impl_leasts.f k l0 a1 = some r) :
 Calls Tryz.prog 56 #[.slice A0 l0.length c0, .int .i64 a1] w fun e w' => ∃ v0_ : Value, e = .returned (v0_) ∧ Kd.R (Kd.int .i64) 3 w' w.heap.size (fun _ => True) v0_ r ∧ Below w.heap.size w w' := by
 have HR0 := Aside0.mk hr0
 have HC0 := Aside0.mk hc0
 clear hr0 hc0
 have HB := Aside0.mk (Below.refl w.heap.size w)
 have H := h
 clear h
 unfold impl_leasts.f at H
 by_cases c3 : 0 ≤ a1
 · rw [if_pos c3] at H
   have c3b0 := eq_true c3
   have c3b1 : decide (0 ≤ a1) = true := decide_eq_true c3
   clear c3
   by_cases c4 : (a1 : Int).toNat ≤ 35184372088832
   · rw [if_pos c4] at H
     have c4b0 := eq_true c4
     have c4b1 : decide ((a1 : Int).toNat ≤ 35184372088832) = true := decide_eq_true c4
     clear c4
     obtain ⟨y445, hy445⟩ : ∃ y_ : List Int, y_ = (List.replicate (a1 : Int).toNat 0) := ⟨_, rfl⟩
     replace H : (impl_leasts.l0 k l0 a1 y445 (y445.length : Int) 0) = some r := by subst hy445; exact H
     have Ny445 := Aside0.mk hy445
     clear hy445
     have H' := Aside0.mk H
     clear H
     go_enter Tryz.func56, Tryz.ntmps56
     go_wp2_with (first | ((with_reducible refine gate_dst (N := 14) rfl ?_); refine Kd.R_make (Kd.int .i64) _ 3 rfl (N := 14) rfl 27 _ _ rfl a1 rfl rfl Tryz.underlying27 (.int .i64 0) 8 info3 rfl (by decide) (by omega) 0 (ok := fun _ => True) (okp := fun _ => True) rfl (fun _ hk => hk) trivial (od_) (Nat.le_trans (Nat.mul_le_mul_right _ (od_ : a1.toNat ≤ 35184372088832)) (by omega)) (Below.refl _ _) (Nat.le_refl _) ?_; intro v446 w5 ho6 hb hg_ hnew_; clear hg_ hnew_; (first | rw [← Ny445.out] at ho6 | (simp only [Int.reduceToNat] at ho6; rw [← Ny445.out] at ho6)); have HO447 := Aside0.mk (Kd.R_lower ho6 (below_size (bl_ HB.out))); replace HB := bo_ HB hb; clear hb ho6; obtain ⟨Ao7, co7, eo7⟩ := Kd.R_slice HO447.out; subst eo7))
     go_loopg [17] k (fun kq v17 w' => ∃ (x5_1 : List Int) (x17_1 : Int), v17 = .int .i64 x17_1 ∧ Aside0 (impl_leasts.l0 kq l0 a1 x5_1 (y445.length : Int) x17_1 = some r) ∧ Aside0 (kq ≤ k) ∧ Aside0 (Kd.R (Kd.int .i64) 3 w' w.heap.size (fun _ => True) (.slice Ao7 y445.length co7) x5_1) ∧ Aside0 (Below w.heap.size w w'))
     case atStart => exact ⟨(y445), (0), rs_, H', ⟨Nat.le_refl _⟩, ⟨re_ HO447.out⟩, ⟨bl_ HB.out⟩⟩
     case round =>
      clear H'
      try clear p2
      try clear c3
      try clear c3b0
      try clear c3b1
      try clear c4
      try clear c4b0
      try clear c4b1
      try clear c5
      obtain ⟨x5_1, x17_1, rfl, HA, HK1, HO_5, HB⟩ := hrel
      have hl5_1 := (Kd.R_reads' HO_5.out).1
      rw [hl5_1] at HO_5
      (try simp only [hl5_1])
      cases gk with
      | zero => exact absurd HA.out (by simp [impl_leasts.l0])
      | succ k1 =>
       have H := HA.out
       clear HA
       simp only [impl_leasts.l0] at H
       by_cases c8 : x17_1 < (y445.length : Int)
       · rw [if_pos c8] at H
         have c8b0 : decide (x17_1 < (y445.length : Int)) = true := decide_eq_true c8
         (try (have c8h := c8b0; simp only [hl5_1] at c8h))
         clear c8
         by_cases c9 : 0 ≤ x17_1
         · rw [if_pos c9] at H
           have c9b0 : decide (0 ≤ x17_1) = true := decide_eq_true c9
           clear c9
           by_cases c10 : x17_1 < (x5_1.length : Int)
           · rw [if_pos c10] at H
             have c10b0 : decide (x17_1 < (x5_1.length : Int)) = true := decide_eq_true c10
             (try (have c10h := c10b0; simp only [hl5_1] at c10h))
             clear c10
             obtain ⟨y448, hy448⟩ : ∃ y_ : List Int, y_ = (x5_1.set (x17_1 : Int).toNat (-1)) := ⟨_, rfl⟩
             replace H : (impl_leasts.l0 k1 l0 a1 y448 (y445.length : Int) (wrap64 (x17_1 + 1))) = some r := by subst hy448; exact H
             have Ny448 := Aside0.mk hy448
             clear hy448
             have H' := Aside0.mk H
             clear H
             have p11 : 0 ≤ (x17_1 : Int) := od_
             have q11 : (x17_1 : Int) < ((x5_1.length : Int) : Int) := od_
             obtain ⟨go11, co11, eo11, gb11, gl11, cl11, HG11⟩ := Kd.R_form HO_5.out (by omega)
             (first | cases eo11 | (injection eo11 with ea_ en_ ec_; (first | subst ea_ | (injection ea_ with ea_; subst ea_)); subst ec_; clear en_))
             have GB11 := Aside0.mk gb11
             have GG11 := Aside0.mk HG11
             clear gb11 gl11 HG11
             obtain ⟨hx11_0, hf11_0⟩ := Kd.R_celln 0 HO_5.out (x17_1 : Int) p11 q11
             replace p11 := eq_true p11
             replace q11 := eq_true q11
             have HP12 := Kd.R_putg HO_5.out (x17_1 : Int) (-1)
             go_wp2_with (first | ((with_reducible refine gate_store (t := 3) (p := 22) rfl ?_); refine store_event (t := 3) (p := 22) (v := ?vo_w13) (w1 := (wr.setCell ⟨go11, (x17_1 : Int).toNat, none⟩ (.int .i64 (-1)))) ?hg ?ho ?hn ?hr ?_; (case ho => rfl); (case hg => rfl); (case hn => rfl); (case hr => first | (go_simp; done) | (go_simp; rfl)); intro w13 hw; have hg : wr.grownBy w13 (some go11) := (by rw [hw]; exact HP12.2); have hp_ : Kd.R (Kd.int .i64) 3 w13 w.heap.size (fun _ => True) (.slice (some ⟨go11, 0, none⟩) x5_1.length co7) y448 := (by rw [hw, Ny448.out]; exact HP12.1); clear HP12; replace HO_5 := Aside0.mk (hp_); replace HB := Aside0.mk ((by rw [hw]; exact below_set (HB.out) GB11.out : Below w.heap.size w w13)); clear hg hw hp_))
             (try simp only [← hl5_1])
             go_roundg k1
             case measure => have := HK1.out; omega
             case rel => exact ⟨(y448), (wrap64 (x17_1 + 1)), rs_, H', ⟨by have := HK1.out; omega⟩, ⟨by (try simp only [hl5_1]); (with_reducible repeat (first | apply Kd.R_alloc | apply Kd.R_drewN | apply Kd.R_drew)); exact HO_5.out⟩, ⟨bl_ HB.out⟩⟩
           · rw [if_neg c10] at H
             cases H
         · rw [if_neg c9] at H
           cases H
       · rw [if_neg c8] at H
         have c8b0 : decide (x17_1 < (y445.length : Int)) = false := decide_eq_false c8
         (try (have c8h := c8b0; simp only [hl5_1] at c8h))
         clear c8
         by_cases c14 : 0 < (x5_1.length : Int)
         · rw [if_pos c14] at H
           have c14b0 : decide (0 < (x5_1.length : Int)) = true := decide_eq_true c14
           have c14b1 : decide (0 < x5_1.length) = true := decide_eq_true (by omega)
           (try (have c14h := c14b0; simp only [hl5_1] at c14h))
           clear c14
           obtain ⟨y449, hy449⟩ : ∃ y_ : List Int, y_ = (x5_1.set (0 : Int).toNat 0) := ⟨_, rfl⟩
           replace H : (impl_leasts.l1 k1 l0 a1 y449 true) = some r := by subst hy449; exact H
           have Ny449 := Aside0.mk hy449
           clear hy449
           have H' := Aside0.mk H
           clear H
           have p15 : 0 ≤ (0 : Int) := (by omega)
           have q15 : (0 : Int) < ((x5_1.length : Int) : Int) := od_
           have qi15 : (0 < x5_1.length) = True := eq_true (by omega)
           obtain ⟨go15, co15, eo15, gb15, gl15, cl15, HG15⟩ := Kd.R_form HO_5.out (by omega)
           (first | cases eo15 | (injection eo15 with ea_ en_ ec_; (first | subst ea_ | (injection ea_ with ea_; subst ea_)); subst ec_; clear en_))
           have GB15 := Aside0.mk gb15
           have GG15 := Aside0.mk HG15
           clear gb15 gl15 HG15
           obtain ⟨hx15_0, hf15_0⟩ := Kd.R_celln 0 HO_5.out (0 : Int) p15 q15
           (try rw [show ((0 : Int)).toNat = 0 from rfl] at hx15_0)
           (try simp only [Nat.reduceMul, Nat.zero_mul, Nat.zero_add, Nat.reduceAdd] at hx15_0)
           (try rw [show ((0 : Int)).toNat = 0 from rfl] at hf15_0)
           (try simp only [Nat.reduceMul, Nat.zero_mul, Nat.zero_add, Nat.reduceAdd] at hf15_0)
           replace p15 := eq_true p15
           replace q15 := eq_true q15
           have HP16 := Kd.R_putg HO_5.out (0 : Int) 0
           go_wp2_with (first | ((with_reducible refine gate_store (t := 3) (p := 25) rfl ?_); refine store_event (t := 3) (p := 25) (v := ?vo_w17) (w1 := (wr.setCell ⟨go15, (0 : Int).toNat, none⟩ (.int .i64 0))) ?hg ?ho ?hn ?hr ?_; (case ho => rfl); (case hg => rfl); (case hn => rfl); (case hr => first | (go_simp; done) | (go_simp; rfl)); intro w17 hw; have hg : wr.grownBy w17 (some go15) := (by rw [hw]; exact HP16.2); have hp_ : Kd.R (Kd.int .i64) 3 w17 w.heap.size (fun _ => True) (.slice (some ⟨go15, 0, none⟩) x5_1.length co7) y449 := (by rw [hw, Ny449.out]; exact HP16.1); clear HP16; replace HO_5 := Aside0.mk (hp_); replace HB := Aside0.mk ((by rw [hw]; exact below_set (HB.out) GB15.out : Below w.heap.size w w17)); clear hg hw hp_))
           go_loopg [7] k1 (fun kq v7 w' => ∃ (x5_2 : List Int) (x7_2 : Bool), v7 = .bool x7_2 ∧ Aside0 (impl_leasts.l1 kq l0 a1 x5_2 x7_2 = some r) ∧ Aside0 (kq ≤ k1) ∧ Aside0 (Kd.R (Kd.int .i64) 3 w' w.heap.size (fun _ => True) (.slice (some ⟨go15, 0, none⟩) x5_1.length co7) x5_2) ∧ Aside0 (Below w.heap.size w w'))
           case atStart => exact ⟨(y449), (true), rs_, H', ⟨Nat.le_refl _⟩, ⟨by (try simp only [hl5_1]); (with_reducible repeat (first | apply Kd.R_alloc | apply Kd.R_drewN | apply Kd.R_drew)); exact HO_5.out⟩, ⟨bl_ HB.out⟩⟩
           case round =>
            clear H'
            try clear c1
            try clear p1
            try clear q1
            try clear hx1
            try clear qi1
            try clear p2
            try clear c3
            try clear c3b0
            try clear c3b1
            try clear c4
            try clear c4b0
            try clear c4b1
            try clear c5
            try clear p6
            try clear c8
            try clear c8b0
            try clear c9
            try clear c9b0
            try clear c10
            try clear c10b0
            try clear p11
            try clear q11
            try clear hx11
            try clear hf11
            try clear c14
            try clear c14b0
            try clear c14b1
            try clear p15
            try clear q15
            try clear hx15
            try clear qi15
            try clear hf15
            try clear hx11_0
            try clear hx15_0
            try clear p11
            try clear p15
            try clear p2
            try clear q11
            try clear q15
            obtain ⟨x5_2, x7_2, rfl, HA, HK2, HO_5, HB⟩ := hrel
            have hl5_2 := (Kd.R_reads' HO_5.out).1
            rw [hl5_2] at HO_5
            (try simp only [hl5_2])
            cases gk with
            | zero => exact absurd HA.out (by simp [impl_leasts.l1])
            | succ k2 =>
             have H := HA.out
             clear HA
             simp only [impl_leasts.l1] at H
             by_cases c18 : x7_2 = true
             · subst c18
               rw [if_pos rfl] at H
               have H' := Aside0.mk H
               clear H
               go_wp2
               go_loopg [7, 29] k2 (fun kq v7 v29 w' => ∃ (x5_3 : List Int) (x7_3 : Bool) (x29_3 : Int), v7 = .bool x7_3 ∧ v29 = .int .i64 x29_3 ∧ Aside0 (impl_leasts.l2 kq l0 a1 x5_3 x7_3 (x5_2.length : Int) x29_3 = some r) ∧ Aside0 (kq ≤ k2) ∧ Aside0 (Kd.R (Kd.int .i64) 3 w' w.heap.size (fun _ => True) (.slice (some ⟨go15, 0, none⟩) x5_2.length co7) x5_3) ∧ Aside0 (Below w.heap.size w w'))
               case atStart => exact ⟨(x5_2), (false), (0), rs_, rs_, H', ⟨Nat.le_refl _⟩, ⟨by (try simp only [hl5_1]); (try simp only [hl5_2]); (with_reducible repeat (first | apply Kd.R_alloc | apply Kd.R_drewN | apply Kd.R_drew)); exact HO_5.out⟩, ⟨bl_ HB.out⟩⟩
               case round =>
                clear H'
                try clear c1
                try clear p1
                try clear q1
                try clear hx1
                try clear qi1
                try clear p2
                try clear c3
                try clear c3b0
                try clear c3b1
                try clear c4
                try clear c4b0
                try clear c4b1
                try clear c5
                try clear p6
                try clear c8
                try clear c8b0
                try clear c9
                try clear c9b0
                try clear c10
                try clear c10b0
                try clear p11
                try clear q11
                try clear hx11
                try clear hf11
                try clear c14
                try clear c14b0
                try clear c14b1
                try clear p15
                try clear q15
                try clear hx15
                try clear qi15
                try clear hf15
                try clear c18
                try clear hx11_0
                try clear hx15_0
                try clear p1
                try clear p11
                try clear p15
                try clear p2
                try clear p6
                try clear q1
                try clear q11
                try clear q15
                obtain ⟨x5_3, x7_3, x29_3, rfl, rfl, HA, HK3, HO_5, HB⟩ := hrel
                have hl5_3 := (Kd.R_reads' HO_5.out).1
                rw [hl5_3] at HO_5
                (try simp only [hl5_3])
                cases gk with
                | zero => exact absurd HA.out (by simp [impl_leasts.l2])
                | succ k3 =>
                 have H := HA.out
                 clear HA
                 simp only [impl_leasts.l2] at H
                 by_cases c19 : x29_3 < (x5_2.length : Int)
                 · rw [if_pos c19] at H
                   have c19b0 : decide (x29_3 < (x5_2.length : Int)) = true := decide_eq_true c19
                   (try (have c19h := c19b0; simp only [hl5_1, hl5_2, hl5_3] at c19h))
                   clear c19
                   by_cases c20 : 0 ≤ x29_3
                   · rw [if_pos c20] at H
                     have c20b0 : decide (0 ≤ x29_3) = true := decide_eq_true c20
                     clear c20
                     by_cases c21 : x29_3 < (x5_3.length : Int)
                     · rw [if_pos c21] at H
                       have c21b0 : decide (x29_3 < (x5_3.length : Int)) = true := decide_eq_true c21
                       (try (have c21h := c21b0; simp only [hl5_1, hl5_2, hl5_3] at c21h))
                       clear c21
                       by_cases c22 : (rd x5_3 x29_3) < 0
                       · rw [if_pos c22] at H
                         have c22b0 : decide ((rd x5_3 x29_3) < 0) = true := decide_eq_true c22
                         clear c22
                         have H' := Aside0.mk H
                         clear H
                         have p450 : 0 ≤ (x29_3 : Int) := od_
                         have q450 : x29_3 < (x5_3.length : Int) := od_
                         obtain ⟨ad450, e450, hx450_0⟩ := Kd.at_int (Kd.R_reads' HO_5.out).2.2 x29_3 p450 q450
                         obtain rfl : (⟨go15, 0, none⟩ : Addr) = ad450 := (by injection e450)
                         (first | simp only [add_plain] at hx450_0 | simp only [add_at] at hx450_0 | simp only [Addr.add, Nat.zero_add] at hx450_0 | skip)
                         replace p450 := eq_true p450
                         replace q450 := eq_true q450
                         go_wp2
                         (try simp only [← hl5_3])
                         go_roundg k3
                         case measure => have := HK1.out; have := HK2.out; have := HK3.out; omega
                         case rel => exact ⟨(x5_3), (x7_3), (wrap64 (x29_3 + 1)), rs_, rs_, H', ⟨by have := HK1.out; have := HK2.out; have := HK3.out; omega⟩, ⟨by (try simp only [hl5_1]); (try simp only [hl5_2]); (try simp only [hl5_3]); (with_reducible repeat (first | apply Kd.R_alloc | apply Kd.R_drewN | apply Kd.R_drew)); exact HO_5.out⟩, ⟨bl_ HB.out⟩⟩
                       · rw [if_neg c22] at H
                         have c22b0 : decide ((rd x5_3 x29_3) < 0) = false := decide_eq_false c22
                         clear c22
                         have H' := Aside0.mk H
                         clear H
                         have p450 : 0 ≤ (x29_3 : Int) := od_
                         have q450 : x29_3 < (x5_3.length : Int) := od_
                         obtain ⟨ad450, e450, hx450_0⟩ := Kd.at_int (Kd.R_reads' HO_5.out).2.2 x29_3 p450 q450
                         obtain rfl : (⟨go15, 0, none⟩ : Addr) = ad450 := (by injection e450)
                         (first | simp only [add_plain] at hx450_0 | simp only [add_at] at hx450_0 | simp only [Addr.add, Nat.zero_add] at hx450_0 | skip)
                         replace p450 := eq_true p450
                         replace q450 := eq_true q450
                         go_wp2
                         go_loopg [7, 38] k3 (fun kq v7 v38 w' => ∃ (x5_4 : List Int) (x7_4 : Bool) (x38_4 : Int), v7 = .bool x7_4 ∧ v38 = .int .i64 x38_4 ∧ Aside0 (impl_leasts.l3 kq l0 a1 x5_4 x7_4 x29_3 (rd x5_3 x29_3) (x5_2.length : Int) x29_3 l0 (l0.length : Int) x38_4 = some r) ∧ Aside0 (kq ≤ k3) ∧ Aside0 (Kd.R (Kd.int .i64) 3 w' w.heap.size (fun _ => True) (.slice (some ⟨go15, 0, none⟩) x5_3.length co7) x5_4) ∧ Aside0 (Below w.heap.size w w'))
                         case atStart => exact ⟨(x5_3), (x7_3), (0), rs_, rs_, H', ⟨Nat.le_refl _⟩, ⟨by (try simp only [hl5_1]); (try simp only [hl5_2]); (try simp only [hl5_3]); (with_reducible repeat (first | apply Kd.R_alloc | apply Kd.R_drewN | apply Kd.R_drew)); exact HO_5.out⟩, ⟨bl_ HB.out⟩⟩
                         case round =>
                          clear H'
                          try clear c1
                          try clear p1
                          try clear q1
                          try clear hx1
                          try clear qi1
                          try clear c2
                          try clear p2
                          try clear c3
                          try clear c3b0
                          try clear c3b1
                          try clear c4
                          try clear c4b0
                          try clear c4b1
                          try clear p4
                          try clear q4
                          try clear hx4
                          try clear c5
                          try clear p6
                          try clear c8
                          try clear c8b0
                          try clear c9
                          try clear c9b0
                          try clear c10
                          try clear c10b0
                          try clear p11
                          try clear q11
                          try clear hx11
                          try clear hf11
                          try clear c14
                          try clear c14b0
                          try clear c14b1
                          try clear p15
                          try clear q15
                          try clear hx15
                          try clear qi15
                          try clear hf15
                          try clear c18
                          try clear c19
                          try clear c19b0
                          try clear c20
                          try clear c20b0
                          try clear c21
                          try clear c21b0
                          try clear c22
                          try clear c22b0
                          try clear hx11_0
                          try clear hx15_0
                          try clear hx450_0
                          try clear p1
                          try clear p11
                          try clear p15
                          try clear p2
                          try clear p450
                          try clear p6
                          try clear q1
                          try clear q11
                          try clear q15
                          try clear q450
                          obtain ⟨x5_4, x7_4, x38_4, rfl, rfl, HA, HK4, HO_5, HB⟩ := hrel
                          have hl5_4 := (Kd.R_reads' HO_5.out).1
                          rw [hl5_4] at HO_5
                          (try simp only [hl5_4])
                          cases gk with
                          | zero => exact absurd HA.out (by simp [impl_leasts.l3])
                          | succ k4 =>
                           have H := HA.out
                           clear HA
                           simp only [impl_leasts.l3] at H
                           by_cases c23 : x38_4 < (l0.length : Int)
                           · rw [if_pos c23] at H
                             have c23b0 : decide (x38_4 < (l0.length : Int)) = true := decide_eq_true c23
                             (try (have c23h := c23b0; simp only [hl5_1, hl5_2, hl5_3, hl5_4] at c23h))
                             clear c23
                             by_cases c24 : 0 ≤ x38_4
                             · rw [if_pos c24] at H
                               have c24b0 : decide (0 ≤ x38_4) = true := decide_eq_true c24
                               clear c24
                               by_cases c25 : x38_4 < (l0.length : Int)
                               · rw [if_pos c25] at H
                                 have c25b0 : decide (x38_4 < (l0.length : Int)) = true := decide_eq_true c25
                                 (try (have c25h := c25b0; simp only [hl5_1, hl5_2, hl5_3, hl5_4] at c25h))
                                 clear c25
                                 by_cases c26 : a1 = 0
                                 · rw [if_pos c26] at H
                                   cases H
                                 · rw [if_neg c26] at H
                                   have c26b0 : (a1 == 0) = false := beq_eq_false_iff_ne.mpr c26
                                   have c26b1 : (a1 != 0) = true := bne_iff_ne.mpr c26
                                   obtain ⟨ji27, hji27⟩ : ∃ j_ : Int, (Int.tmod (wrap64 (x29_3 + (rd l0 x38_4))) a1) = j_ := ⟨_, rfl⟩
                                   replace H : (if 0 ≤ (ji27) then (if (ji27) < (x5_4.length : Int) then (if (rd x5_4 (ji27)) < 0 then (impl_leasts.l3 k4 l0 a1 (x5_4.set ((ji27) : Int).toNat (wrap64 ((rd x5_3 x29_3) + (rd l0 x38_4)))) true x29_3 (rd x5_3 x29_3) (x5_2.length : Int) x29_3 l0 (l0.length : Int) (wrap64 (x38_4 + 1))) else (if (wrap64 ((rd x5_3 x29_3) + (rd l0 x38_4))) < (rd x5_4 (ji27)) then (impl_leasts.l3 k4 l0 a1 (x5_4.set ((ji27) : Int).toNat (wrap64 ((rd x5_3 x29_3) + (rd l0 x38_4)))) true x29_3 (rd x5_3 x29_3) (x5_2.length : Int) x29_3 l0 (l0.length : Int) (wrap64 (x38_4 + 1))) else (impl_leasts.l3 k4 l0 a1 x5_4 x7_4 x29_3 (rd x5_3 x29_3) (x5_2.length : Int) x29_3 l0 (l0.length : Int) (wrap64 (x38_4 + 1))))) else (none)) else (none)) = some r := by first | (rw [hji27] at H; exact H) | (simp only [hji27] at H ⊢; exact H)
                                   by_cases c28 : 0 ≤ (ji27)
                                   · rw [if_pos c28] at H
                                     have c28b0 : decide (0 ≤ (ji27)) = true := decide_eq_true c28
                                     clear c28
                                     by_cases c29 : (ji27) < (x5_4.length : Int)
                                     · rw [if_pos c29] at H
                                       have c29b0 : decide ((ji27) < (x5_4.length : Int)) = true := decide_eq_true c29
                                       (try (have c29h := c29b0; simp only [hl5_1, hl5_2, hl5_3, hl5_4] at c29h))
                                       clear c29
                                       by_cases c30 : (rd x5_4 (ji27)) < 0
                                       · rw [if_pos c30] at H
                                         have c30b0 : decide ((rd x5_4 (ji27)) < 0) = true := decide_eq_true c30
                                         clear c30
                                         obtain ⟨y453, hy453⟩ : ∃ y_ : List Int, y_ = (x5_4.set ((ji27) : Int).toNat (wrap64 ((rd x5_3 x29_3) + (rd l0 x38_4)))) := ⟨_, rfl⟩
                                         replace H : (impl_leasts.l3 k4 l0 a1 y453 true x29_3 (rd x5_3 x29_3) (x5_2.length : Int) x29_3 l0 (l0.length : Int) (wrap64 (x38_4 + 1))) = some r := by subst hy453; exact H
                                         have Ny453 := Aside0.mk hy453
                                         clear hy453
                                         have H' := Aside0.mk H
                                         clear H
                                         have p451 : 0 ≤ (x38_4 : Int) := od_
                                         have q451 : x38_4 < (l0.length : Int) := od_
                                         obtain ⟨ad451, e451, hx451_0⟩ := Kd.at_int HR0.out x38_4 p451 q451
                                         cases e451
                                         (try replace hx451_0 := (HB.out.cell (World.block_lt_of_cell? w _ hx451_0)).trans hx451_0)
                                         replace p451 := eq_true p451
                                         replace q451 := eq_true q451
                                         have p452 : 0 ≤ ((ji27) : Int) := od_
                                         have q452 : (ji27) < (x5_4.length : Int) := od_
                                         obtain ⟨ad452, e452, hx452_0⟩ := Kd.at_int (Kd.R_reads' HO_5.out).2.2 (ji27) p452 q452
                                         obtain rfl : (⟨go15, 0, none⟩ : Addr) = ad452 := (by injection e452)
                                         (first | simp only [add_plain] at hx452_0 | simp only [add_at] at hx452_0 | simp only [Addr.add, Nat.zero_add] at hx452_0 | skip)
                                         replace p452 := eq_true p452
                                         replace q452 := eq_true q452
                                         have p31 : 0 ≤ ((ji27) : Int) := od_
                                         have q31 : ((ji27) : Int) < ((x5_4.length : Int) : Int) := od_
                                         obtain ⟨hx31_0, hf31_0⟩ := Kd.R_celln 0 HO_5.out ((ji27) : Int) p31 q31
                                         replace p31 := eq_true p31
                                         replace q31 := eq_true q31
                                         have HP32 := Kd.R_putg HO_5.out ((ji27) : Int) (wrap64 ((rd x5_3 x29_3) + (rd l0 x38_4)))
                                         go_wp2_with (first | ((with_reducible refine gate_store (t := 3) (p := 67) rfl ?_); refine store_event (t := 3) (p := 67) (v := ?vo_w33) (w1 := (wr.setCell ⟨go15, ((ji27) : Int).toNat, none⟩ (.int .i64 (wrap64 ((rd x5_3 x29_3) + (rd l0 x38_4)))))) ?hg ?ho ?hn ?hr ?_; (case ho => rfl); (case hg => rfl); (case hn => rfl); (case hr => first | (go_simp; done) | (go_simp; rfl)); intro w33 hw; have hg : wr.grownBy w33 (some go15) := (by rw [hw]; exact HP32.2); have hp_ : Kd.R (Kd.int .i64) 3 w33 w.heap.size (fun _ => True) (.slice (some ⟨go15, 0, none⟩) x5_4.length co7) y453 := (by rw [hw, Ny453.out]; exact HP32.1); clear HP32; replace HO_5 := Aside0.mk (hp_); replace HB := Aside0.mk ((by rw [hw]; exact below_set (HB.out) GB15.out : Below w.heap.size w w33)); clear hg hw hp_))
                                         (try simp only [← hl5_4])
                                         go_roundg k4
                                         case measure => have := HK1.out; have := HK2.out; have := HK3.out; have := HK4.out; omega
                                         case rel => exact ⟨(y453), (true), (wrap64 (x38_4 + 1)), rs_, rs_, H', ⟨by have := HK1.out; have := HK2.out; have := HK3.out; have := HK4.out; omega⟩, ⟨by (try simp only [hl5_1]); (try simp only [hl5_2]); (try simp only [hl5_3]); (try simp only [hl5_4]); (with_reducible repeat (first | apply Kd.R_alloc | apply Kd.R_drewN | apply Kd.R_drew)); exact HO_5.out⟩, ⟨bl_ HB.out⟩⟩
                                       · rw [if_neg c30] at H
                                         have c30b0 : decide ((rd x5_4 (ji27)) < 0) = false := decide_eq_false c30
                                         clear c30
                                         by_cases c34 : (wrap64 ((rd x5_3 x29_3) + (rd l0 x38_4))) < (rd x5_4 (ji27))
                                         · rw [if_pos c34] at H
                                           have c34b0 : decide ((wrap64 ((rd x5_3 x29_3) + (rd l0 x38_4))) < (rd x5_4 (ji27))) = true := decide_eq_true c34
                                           clear c34
                                           obtain ⟨y455, hy455⟩ : ∃ y_ : List Int, y_ = (x5_4.set ((ji27) : Int).toNat (wrap64 ((rd x5_3 x29_3) + (rd l0 x38_4)))) := ⟨_, rfl⟩
                                           replace H : (impl_leasts.l3 k4 l0 a1 y455 true x29_3 (rd x5_3 x29_3) (x5_2.length : Int) x29_3 l0 (l0.length : Int) (wrap64 (x38_4 + 1))) = some r := by subst hy455; exact H
                                           have Ny455 := Aside0.mk hy455
                                           clear hy455
                                           have H' := Aside0.mk H
                                           clear H
                                           have p451 : 0 ≤ (x38_4 : Int) := od_
                                           have q451 : x38_4 < (l0.length : Int) := od_
                                           obtain ⟨ad451, e451, hx451_0⟩ := Kd.at_int HR0.out x38_4 p451 q451
                                           cases e451
                                           (try replace hx451_0 := (HB.out.cell (World.block_lt_of_cell? w _ hx451_0)).trans hx451_0)
                                           replace p451 := eq_true p451
                                           replace q451 := eq_true q451
                                           have p452 : 0 ≤ ((ji27) : Int) := od_
                                           have q452 : (ji27) < (x5_4.length : Int) := od_
                                           obtain ⟨ad452, e452, hx452_0⟩ := Kd.at_int (Kd.R_reads' HO_5.out).2.2 (ji27) p452 q452
                                           obtain rfl : (⟨go15, 0, none⟩ : Addr) = ad452 := (by injection e452)
                                           (first | simp only [add_plain] at hx452_0 | simp only [add_at] at hx452_0 | simp only [Addr.add, Nat.zero_add] at hx452_0 | skip)
                                           replace p452 := eq_true p452
                                           replace q452 := eq_true q452
                                           have p454 : 0 ≤ ((ji27) : Int) := od_
                                           have q454 : (ji27) < (x5_4.length : Int) := od_
                                           obtain ⟨ad454, e454, hx454_0⟩ := Kd.at_int (Kd.R_reads' HO_5.out).2.2 (ji27) p454 q454
                                           obtain rfl : (⟨go15, 0, none⟩ : Addr) = ad454 := (by injection e454)
                                           (first | simp only [add_plain] at hx454_0 | simp only [add_at] at hx454_0 | simp only [Addr.add, Nat.zero_add] at hx454_0 | skip)
                                           replace p454 := eq_true p454
                                           replace q454 := eq_true q454
                                           have p35 : 0 ≤ ((ji27) : Int) := od_
                                           have q35 : ((ji27) : Int) < ((x5_4.length : Int) : Int) := od_
                                           obtain ⟨hx35_0, hf35_0⟩ := Kd.R_celln 0 HO_5.out ((ji27) : Int) p35 q35
                                           replace p35 := eq_true p35
                                           replace q35 := eq_true q35
                                           have HP36 := Kd.R_putg HO_5.out ((ji27) : Int) (wrap64 ((rd x5_3 x29_3) + (rd l0 x38_4)))
                                           go_wp2_with (first | ((with_reducible refine gate_store (t := 3) (p := 67) rfl ?_); refine store_event (t := 3) (p := 67) (v := ?vo_w37) (w1 := (wr.setCell ⟨go15, ((ji27) : Int).toNat, none⟩ (.int .i64 (wrap64 ((rd x5_3 x29_3) + (rd l0 x38_4)))))) ?hg ?ho ?hn ?hr ?_; (case ho => rfl); (case hg => rfl); (case hn => rfl); (case hr => first | (go_simp; done) | (go_simp; rfl)); intro w37 hw; have hg : wr.grownBy w37 (some go15) := (by rw [hw]; exact HP36.2); have hp_ : Kd.R (Kd.int .i64) 3 w37 w.heap.size (fun _ => True) (.slice (some ⟨go15, 0, none⟩) x5_4.length co7) y455 := (by rw [hw, Ny455.out]; exact HP36.1); clear HP36; replace HO_5 := Aside0.mk (hp_); replace HB := Aside0.mk ((by rw [hw]; exact below_set (HB.out) GB15.out : Below w.heap.size w w37)); clear hg hw hp_))
                                           (try simp only [← hl5_4])
                                           go_roundg k4
                                           case measure => have := HK1.out; have := HK2.out; have := HK3.out; have := HK4.out; omega
                                           case rel => exact ⟨(y455), (true), (wrap64 (x38_4 + 1)), rs_, rs_, H', ⟨by have := HK1.out; have := HK2.out; have := HK3.out; have := HK4.out; omega⟩, ⟨by (try simp only [hl5_1]); (try simp only [hl5_2]); (try simp only [hl5_3]); (try simp only [hl5_4]); (with_reducible repeat (first | apply Kd.R_alloc | apply Kd.R_drewN | apply Kd.R_drew)); exact HO_5.out⟩, ⟨bl_ HB.out⟩⟩
                                         · rw [if_neg c34] at H
                                           have c34b0 : decide ((wrap64 ((rd x5_3 x29_3) + (rd l0 x38_4))) < (rd x5_4 (ji27))) = false := decide_eq_false c34
                                           clear c34
                                           have H' := Aside0.mk H
                                           clear H
                                           have p451 : 0 ≤ (x38_4 : Int) := od_
                                           have q451 : x38_4 < (l0.length : Int) := od_
                                           obtain ⟨ad451, e451, hx451_0⟩ := Kd.at_int HR0.out x38_4 p451 q451
                                           cases e451
                                           (try replace hx451_0 := (HB.out.cell (World.block_lt_of_cell? w _ hx451_0)).trans hx451_0)
                                           replace p451 := eq_true p451
                                           replace q451 := eq_true q451
                                           have p452 : 0 ≤ ((ji27) : Int) := od_
                                           have q452 : (ji27) < (x5_4.length : Int) := od_
                                           obtain ⟨ad452, e452, hx452_0⟩ := Kd.at_int (Kd.R_reads' HO_5.out).2.2 (ji27) p452 q452
                                           obtain rfl : (⟨go15, 0, none⟩ : Addr) = ad452 := (by injection e452)
                                           (first | simp only [add_plain] at hx452_0 | simp only [add_at] at hx452_0 | simp only [Addr.add, Nat.zero_add] at hx452_0 | skip)
                                           replace p452 := eq_true p452
                                           replace q452 := eq_true q452
                                           have p454 : 0 ≤ ((ji27) : Int) := od_
                                           have q454 : (ji27) < (x5_4.length : Int) := od_
                                           obtain ⟨ad454, e454, hx454_0⟩ := Kd.at_int (Kd.R_reads' HO_5.out).2.2 (ji27) p454 q454
                                           obtain rfl : (⟨go15, 0, none⟩ : Addr) = ad454 := (by injection e454)
                                           (first | simp only [add_plain] at hx454_0 | simp only [add_at] at hx454_0 | simp only [Addr.add, Nat.zero_add] at hx454_0 | skip)
                                           replace p454 := eq_true p454
                                           replace q454 := eq_true q454
                                           go_wp2
                                           (try simp only [← hl5_4])
                                           go_roundg k4
                                           case measure => have := HK1.out; have := HK2.out; have := HK3.out; have := HK4.out; omega
                                           case rel => exact ⟨(x5_4), (x7_4), (wrap64 (x38_4 + 1)), rs_, rs_, H', ⟨by have := HK1.out; have := HK2.out; have := HK3.out; have := HK4.out; omega⟩, ⟨by (try simp only [hl5_1]); (try simp only [hl5_2]); (try simp only [hl5_3]); (try simp only [hl5_4]); (with_reducible repeat (first | apply Kd.R_alloc | apply Kd.R_drewN | apply Kd.R_drew)); exact HO_5.out⟩, ⟨bl_ HB.out⟩⟩
                                     · rw [if_neg c29] at H
                                       cases H
                                   · rw [if_neg c28] at H
                                     cases H
                               · rw [if_neg c25] at H
                                 cases H
                             · rw [if_neg c24] at H
                               cases H
                           · rw [if_neg c23] at H
                             have c23b0 : decide (x38_4 < (l0.length : Int)) = false := decide_eq_false c23
                             (try (have c23h := c23b0; simp only [hl5_1, hl5_2, hl5_3, hl5_4] at c23h))
                             clear c23
                             have H' := Aside0.mk H
                             clear H
                             go_wp2
                             (try simp only [← hl5_3, ← hl5_4])
                             go_roundg k4
                             case measure => have := HK1.out; have := HK2.out; have := HK3.out; have := HK4.out; omega
                             case rel => exact ⟨(x5_4), (x7_4), (wrap64 (x29_3 + 1)), rs_, rs_, H', ⟨by have := HK1.out; have := HK2.out; have := HK3.out; have := HK4.out; omega⟩, ⟨by (try simp only [hl5_1]); (try simp only [hl5_2]); (try simp only [hl5_3]); (try simp only [hl5_4]); (with_reducible repeat (first | apply Kd.R_alloc | apply Kd.R_drewN | apply Kd.R_drew)); exact HO_5.out⟩, ⟨bl_ HB.out⟩⟩
                     · rw [if_neg c21] at H
                       cases H
                   · rw [if_neg c20] at H
                     cases H
                 · rw [if_neg c19] at H
                   have c19b0 : decide (x29_3 < (x5_2.length : Int)) = false := decide_eq_false c19
                   (try (have c19h := c19b0; simp only [hl5_1, hl5_2, hl5_3] at c19h))
                   clear c19
                   have H' := Aside0.mk H
                   clear H
                   go_wp2
                   (try simp only [← hl5_2, ← hl5_3])
                   go_roundg k3
                   case measure => have := HK1.out; have := HK2.out; have := HK3.out; omega
                   case rel => exact ⟨(x5_3), (x7_3), rs_, H', ⟨by have := HK1.out; have := HK2.out; have := HK3.out; omega⟩, ⟨by (try simp only [hl5_1]); (try simp only [hl5_2]); (try simp only [hl5_3]); (with_reducible repeat (first | apply Kd.R_alloc | apply Kd.R_drewN | apply Kd.R_drew)); exact HO_5.out⟩, ⟨bl_ HB.out⟩⟩
             · replace c18 := Bool.eq_false_iff.mpr c18
               subst c18
               rw [if_neg (show ¬ (false = true) by decide)] at H
               obtain rfl := Option.some.inj H
               go_wp2
               go_ret
               exact ⟨_, rf_, re_ HO_5.out, bl_ HB.out⟩
         · rw [if_neg c14] at H
           cases H
   · rw [if_neg c4] at H
     cases H
 · rw [if_neg c3] at H
   cases H
def impl_usable.f (k : Nat) (l0 : List Int) : Option (Bool) := (impl_within.f (l0.length : Int) 1 20).bind fun t456 => (if t456 = true then ((impl_allWithin.f k l0 1 60).bind fun t457 => (some t457)) else (some false))
theorem impl_usable.mono : ∀ a0 k, LeO (impl_usable.f k a0) (impl_usable.f (k + 1) a0) := by
 intro a0 k
 unfold impl_usable.f
 repeat' first
  | (with_reducible exact impl_allWithin.mono _ _ _ _)
  | (with_reducible exact LeO.refl _)
  | (with_reducible exact LeO.none _)
  | (with_reducible refine LeO.ite ?_ ?_)
  | (with_reducible refine LeO.bind ?_ (fun _ => ?_))
  | exact LeO.none _
  | refine LeO.ite ?_ ?_
  | refine LeO.bind ?_ (fun _ => ?_)
theorem impl_usable.calls (k : Nat) (A0 : Option Addr) (c0 : Nat) (l0 : List Int) (r : Bool) (w : World) (hr0 : Kd.C (Kd.int .i64) w A0 l0.length l0) (hc0 : l0.length ≤ c0) (h : impl_usable.f k l0 = some r) :
 Calls Tryz.prog 93 #[.slice A0 l0.length c0] w fun e w' => e = .returned (.bool r) ∧ Drawn0 w w' := by
 have HR0 := Aside0.mk hr0
 have HC0 := Aside0.mk hc0
 clear hr0 hc0
 have H := h
 clear h
 unfold impl_usable.f at H
 obtain ⟨t456, A2, H⟩ := ob_ H
 by_cases c3 : t456 = true
 · subst c3
   rw [if_pos rfl] at H
   obtain ⟨t457, A4, H⟩ := ob_ H
   obtain rfl := Option.some.inj H
   go_enter Tryz.func93, Tryz.ntmps93
   go_wp2_with (first | ((with_reducible refine gate_callee (f := 21) rfl ?_); refine gL_ (some 5) Tryz.func21 #[.int .i64 (l0.length : Int), .int .i64 1, .int .i64 20] ?_; (with_reducible refine (impl_within.calls (l0.length : Int) 1 20 true _ A2.out).mono ?_); rintro e w' ⟨rfl, ⟨nd, rfl⟩⟩; refine ⟨_, rfl, ?_⟩) | (go_at_call 52; (with_reducible refine (impl_allWithin.calls k _ _ l0 1 60 t457 _ ?side1 ?side2 A4.out).mono ?_); (case side1 => exact ce_ (HR0.out)); (case side2 => exact HC0.out); rintro e w' ⟨rfl, ⟨nd, rfl⟩⟩))
   go_ret
   exact ⟨by first | rfl | (simp; done) | (simp [*]; done), by repeat (first | exact Drawn0.refl _ | apply Drawn0.step)⟩
 · replace c3 := Bool.eq_false_iff.mpr c3
   subst c3
   rw [if_neg (show ¬ (false = true) by decide)] at H
   obtain rfl := Option.some.inj H
   go_enter Tryz.func93, Tryz.ntmps93
   go_wp2_with (first | ((with_reducible refine gate_callee (f := 21) rfl ?_); refine gL_ (some 5) Tryz.func21 #[.int .i64 (l0.length : Int), .int .i64 1, .int .i64 20] ?_; (with_reducible refine (impl_within.calls (l0.length : Int) 1 20 false _ A2.out).mono ?_); rintro e w' ⟨rfl, ⟨nd, rfl⟩⟩; refine ⟨_, rfl, ?_⟩))
   go_ret
   exact ⟨by first | rfl | (simp; done) | (simp [*]; done), by repeat (first | exact Drawn0.refl _ | apply Drawn0.step)⟩
def impl_Generates.f (k : Nat) (l0 : List Int) (a1 : Int) : Option (Bool) := (impl_usable.f k l0).bind fun t458 => (if t458 = true then ((impl_within.f a1 0 1000000).bind fun t459 => (if t459 = true then (if 0 < (l0.length : Int) then ((impl_leasts.f k l0 (rd l0 0)).bind fun t461 => (if (rd l0 0) = 0 then (none) else (if 0 ≤ (Int.tmod a1 (rd l0 0)) then (if (Int.tmod a1 (rd l0 0)) < (t461.length : Int) then (if (rd t461 (Int.tmod a1 (rd l0 0))) ≥ 0 then (some (decide ((rd t461 (Int.tmod a1 (rd l0 0))) ≤ a1))) else (some false)) else (none)) else (none)))) else (none)) else (some false))) else (some false))
theorem impl_Generates.mono : ∀ a0 a1 k, LeO (impl_Generates.f k a0 a1) (impl_Generates.f (k + 1) a0 a1) := by
 intro a0 a1 k
 unfold impl_Generates.f
 repeat' first
  | (with_reducible exact impl_leasts.mono _ _ _)
  | (with_reducible exact impl_usable.mono _ _)
  | (with_reducible exact LeO.refl _)
  | (with_reducible exact LeO.none _)
  | (with_reducible refine LeO.ite ?_ ?_)
  | (with_reducible refine LeO.bind ?_ (fun _ => ?_))
  | exact LeO.none _
  | refine LeO.ite ?_ ?_
  | refine LeO.bind ?_ (fun _ => ?_)
def impl_Generates.T3 : Bool × List (List Nat × List Nat) := (true, [([], []), ([], []), ([1], [1]), ([2], [2]), ([0, 3], [0, 3]), ([], []), ([], []), ([6], [6]), ([7], [7]), ([5, 8], [5, 8]), ([4, 9], [4, 9]), ([10], [10]), ([11, 4, 0, 1, 2, 3, 4, 5, 6, 7, 8, 9, 10, 11], [11])])
def impl_Generates.B3 : List Nat := [0, 0, 2, 6, 15, 0, 0, 64, 192, 480, 1023, 2047, 4095]
theorem impl_Generates.tab3 : rtab .any (opsOf Tryz.f55 3) = impl_Generates.T3 := by kernel_rfl
theorem impl_Generates.bits3 : waitsOk impl_Generates.T3.2 impl_Generates.B3 = true := by kernel_rfl
theorem impl_Generates.calls (k : Nat) (A0 : Option Addr) (c0 : Nat) (l0 : List Int) (a1 : Int) (r : Bool) (w : World) (hr0 : Kd.C (Kd.int .i64) w A0 l0.length l0) (hc0 : l0.length ≤ c0) (h : impl_Generates.f k l0 a1 = some r) :
 Calls Tryz.prog 55 #[.slice A0 l0.length c0, .int .i64 a1] w fun e w' => e = .returned (.bool r) ∧ Below w.heap.size w w' := by
 have HR0 := Aside0.mk hr0
 have HC0 := Aside0.mk hc0
 clear hr0 hc0
 have HB := Aside0.mk (Below.refl w.heap.size w)
 have H := h
 clear h
 unfold impl_Generates.f at H
 obtain ⟨t458, A3, H⟩ := ob_ H
 by_cases c4 : t458 = true
 · subst c4
   rw [if_pos rfl] at H
   obtain ⟨t459, A5, H⟩ := ob_ H
   by_cases c6 : t459 = true
   · subst c6
     rw [if_pos rfl] at H
     by_cases c7 : 0 < (l0.length : Int)
     · rw [if_pos c7] at H
       have c7b0 : decide (0 < (l0.length : Int)) = true := decide_eq_true c7
       have c7b1 : decide (0 < l0.length) = true := decide_eq_true (by omega)
       clear c7
       obtain ⟨t461, A8, H⟩ := ob_ H
       by_cases c9 : (rd l0 0) = 0
       · rw [if_pos c9] at H
         cases H
       · rw [if_neg c9] at H
         have c9b0 : ((rd l0 0) == 0) = false := beq_eq_false_iff_ne.mpr c9
         have c9b1 : ((rd l0 0) != 0) = true := bne_iff_ne.mpr c9
         obtain ⟨ji10, hji10⟩ : ∃ j_ : Int, (Int.tmod a1 (rd l0 0)) = j_ := ⟨_, rfl⟩
         replace H : (if 0 ≤ (ji10) then (if (ji10) < (t461.length : Int) then (if (rd t461 (ji10)) ≥ 0 then (some (decide ((rd t461 (ji10)) ≤ a1))) else (some false)) else (none)) else (none)) = some r := by first | (rw [hji10] at H; exact H) | (simp only [hji10] at H ⊢; exact H)
         (try rw [hji10] at A3)
         (try rw [hji10] at A5)
         (try rw [hji10] at A8)
         by_cases c11 : 0 ≤ (ji10)
         · rw [if_pos c11] at H
           have c11b0 : decide (0 ≤ (ji10)) = true := decide_eq_true c11
           clear c11
           by_cases c12 : (ji10) < (t461.length : Int)
           · rw [if_pos c12] at H
             have c12b0 : decide ((ji10) < (t461.length : Int)) = true := decide_eq_true c12
             clear c12
             by_cases c13 : (rd t461 (ji10)) ≥ 0
             · rw [if_pos c13] at H
               have c13b0 : decide (0 ≤ (rd t461 (ji10))) = true := decide_eq_true c13
               clear c13
               obtain rfl := Option.some.inj H
               go_enter Tryz.func55, Tryz.ntmps55
               try go_wp2_with (first | ((with_reducible refine gate_callee (f := 93) rfl ?_); refine gL_ (some 7) Tryz.func93 #[.slice A0 l0.length c0] ?_; (with_reducible refine (impl_usable.calls k _ _ l0 true _ ?side1 ?side2 A3.out).mono ?_); (case side1 => exact ce_ (HR0.out)); (case side2 => exact HC0.out); rintro e w' ⟨rfl, ⟨nd, rfl⟩⟩; refine ⟨_, rfl, ?_⟩) | (go_at_call 21; (with_reducible refine (impl_within.calls a1 0 1000000 true _ A5.out).mono ?_); rintro e w' ⟨rfl, ⟨nd, rfl⟩⟩))
               replace HB := Aside0.mk (below_drew1 HB.out)
               have p460 : 0 ≤ (0 : Int) := (by omega)
               have q460 : 0 < (l0.length : Int) := od_
               obtain ⟨ad460, e460, hx460_0⟩ := Kd.at_int HR0.out 0 p460 q460
               have hw460_0 := hx460_0
               (try rw [show ((0 : Int)).toNat = 0 from rfl] at hw460_0)
               (try rw [show 0 * 1 = 0 from rfl] at hw460_0)
               (try rw [Addr.add_zero'] at hw460_0)
               cases e460
               have qi460 : (0 < l0.length) = True := eq_true (by omega)
               (try rw [show ((0 : Int)).toNat = 0 from rfl] at hx460_0)
               (try rw [Addr.add_zero'] at hx460_0)
               (try replace hx460_0 := (HB.out.cell (World.block_lt_of_cell? w _ hx460_0)).trans hx460_0)
               replace p460 := eq_true p460
               replace q460 := eq_true q460
               have p464 : 0 ≤ (0 : Int) := (by omega)
               have q464 : 0 < (l0.length : Int) := od_
               obtain ⟨ad464, e464, hx464_0⟩ := Kd.at_int HR0.out 0 p464 q464
               have hw464_0 := hx464_0
               (try rw [show ((0 : Int)).toNat = 0 from rfl] at hw464_0)
               (try rw [show 0 * 1 = 0 from rfl] at hw464_0)
               (try rw [Addr.add_zero'] at hw464_0)
               obtain rfl : ad460 = ad464 := (by injection e464)
               have qi464 : (0 < l0.length) = True := eq_true (by omega)
               (try rw [show ((0 : Int)).toNat = 0 from rfl] at hx464_0)
               (try rw [Addr.add_zero'] at hx464_0)
               (try replace hx464_0 := (HB.out.cell (World.block_lt_of_cell? w _ hx464_0)).trans hx464_0)
               replace p464 := eq_true p464
               replace q464 := eq_true q464
               refine start_ (n := 13) (S := fun w' => w'.cell? ad460 = some (.int .i64 (rd l0 0)) ∧ w'.cell? ad460 = some (.int .i64 (rd l0 0)) ∧ True) (ds := []) (B_ 0 13) (by kernel_rfl) rfl rfl ⟨((HB.out.cell (World.block_lt_of_cell? w _ hw460_0)).trans hw460_0), ((HB.out.cell (World.block_lt_of_cell? w _ hw464_0)).trans hw464_0), trivial⟩ (fun hHeld => ?_); refine with_tabW impl_Generates.tab3 impl_Generates.bits3 (fun HT_ HW_ => ?_)
               (first | (generalize hq_ : World.drew (World.drewN w _) = w14 at hHeld ⊢; have HBq_ : Aside0 (Below w.heap.size w w14) := ⟨hq_ ▸ (below_drew1 (pw_below_drewN (Below.refl w.heap.size w) _))⟩; clear hq_ HB; have HB := HBq_; clear HBq_; replace hx460_0 := (HB.out.cell (World.block_lt_of_cell? w _ hw460_0)).trans hw460_0; replace hx464_0 := (HB.out.cell (World.block_lt_of_cell? w _ hw464_0)).trans hw464_0) | (generalize w.drew = w14 at HB hx460_0 hx464_0 hHeld ⊢))
               refine pu_ HT_ 0 14 (B_ 1 13) ?_
               refine pu_ HT_ 1 15 (B_ 3 13) ?_
               refine pu_ HT_ 2 16 (B_ 7 13) ?_
               refine pu_ HT_ 5 19 (B_ 39 13) ?_
               refine pu_ HT_ 6 20 (B_ 103 13) ?_
               refine pu_ HT_ 7 21 (B_ 231 13) ?_
               refine tk3_ HT_ HW_ hHeld 3 17 (B_ 239 13) ?_
               refine tk3_ HT_ HW_ hHeld 8 22 (B_ 495 13) ?_
               refine pu_ HT_ 9 23 (B_ 1007 13) ?_
               refine on_ HT_ 4 18 (B_ 1023 13) (fun K hK => ?_)
               refine goes_ Tryz.func56 (by kernel_rfl) rfl #[.slice (some ad460) l0.length c0, .int .i64 (rd l0 0)] (by rfl) rfl rfl (by (try simp only [List.map_toArray, List.map_cons, List.map_nil]); first | done | rfl | (simp only [List.length_drop, List.length_take]; rfl)) ?_
               with_reducible refine (impl_leasts.calls k _ _ l0 (rd l0 0) t461 _ ?side1 ?side2 A8.out).mono ?_
               (case side1 => exact ch_ HR0 HB)
               (case side2 => exact HC0.out)
               rintro e w15 ⟨v462, rfl, ho0, hb⟩
               refine ⟨_, rfl, ?_⟩
               have HO463 := Aside0.mk (Kd.R_lower ho0 (below_size (bl_ HB.out)))
               replace HB := bo_ HB hb
               (try clear hb)
               (try clear ho0)
               obtain ⟨Ao16, co16, eo16⟩ := Kd.R_slice HO463.out
               (first | subst eo16 | (injection eo16 with f1_ f2_ f3_; have f4_ := f1_.symm; have f5_ := f3_.symm; clear f1_ f2_ f3_; subst f4_; subst f5_))
               have p465 : 0 ≤ ((ji10) : Int) := od_
               have q465 : (ji10) < (t461.length : Int) := od_
               obtain ⟨ad465, e465, hx465_0⟩ := Kd.at_int (Kd.R_reads' HO463.out).2.2 (ji10) p465 q465
               cases e465
               replace p465 := eq_true p465
               replace q465 := eq_true q465
               refine hK.out _ _ ⟨((HB.out.cell (World.block_lt_of_cell? w _ hw460_0)).trans hw460_0), ((HB.out.cell (World.block_lt_of_cell? w _ hw464_0)).trans hw464_0), trivial⟩ (fun _ => ?_); refine restart_ (S' := fun w' => w'.cell? ad460 = some (.int .i64 (rd l0 0)) ∧ w'.cell? ad460 = some (.int .i64 (rd l0 0)) ∧ w'.cell? (ad465.add ((ji10)).toNat) = some (.int .i64 (rd t461 (ji10)))) (fun _ h => ⟨h.1, h.2.1, trivial⟩) ⟨((HB.out.cell (World.block_lt_of_cell? w _ hw460_0)).trans hw460_0), ((HB.out.cell (World.block_lt_of_cell? w _ hw464_0)).trans hw464_0), hx465_0⟩ (fun hHeld => ?_)
               clear hK K
               refine norm_ (a' := ?_) ?_ ?_
               rotate_left
               · show Act.put _ (some 18) _ = _
                 simp only [Act.put, z1_, z2_, z3_, i64_w, i32_w]
                 rfl
               refine pu_ HT_ 10 24 (B_ 2047 13) ?_
               refine tk3_ HT_ HW_ hHeld 11 25 (B_ 4095 13) ?_
               refine pu_ HT_ 12 5 (B_ 8191 13) ?_
               refine done_ (done_of HT_.out (by kernel_rfl)) ?_
               try go_wp2
               go_ret
               exact ⟨by first | rfl | (simp [errW_none, errW_some] <;> rfl) | (simp only [← hji10]; first | rfl | (simp [errW_none, errW_some] <;> rfl)) | (simp [*, errW_none, errW_some] <;> rfl), bl_ HB.out⟩
             · rw [if_neg c13] at H
               have c13b0 : decide (0 ≤ (rd t461 (ji10))) = false := decide_eq_false c13
               clear c13
               obtain rfl := Option.some.inj H
               go_enter Tryz.func55, Tryz.ntmps55
               try go_wp2_with (first | ((with_reducible refine gate_callee (f := 93) rfl ?_); refine gL_ (some 7) Tryz.func93 #[.slice A0 l0.length c0] ?_; (with_reducible refine (impl_usable.calls k _ _ l0 true _ ?side1 ?side2 A3.out).mono ?_); (case side1 => exact ce_ (HR0.out)); (case side2 => exact HC0.out); rintro e w' ⟨rfl, ⟨nd, rfl⟩⟩; refine ⟨_, rfl, ?_⟩) | (go_at_call 21; (with_reducible refine (impl_within.calls a1 0 1000000 true _ A5.out).mono ?_); rintro e w' ⟨rfl, ⟨nd, rfl⟩⟩))
               replace HB := Aside0.mk (below_drew1 HB.out)
               have p460 : 0 ≤ (0 : Int) := (by omega)
               have q460 : 0 < (l0.length : Int) := od_
               obtain ⟨ad460, e460, hx460_0⟩ := Kd.at_int HR0.out 0 p460 q460
               have hw460_0 := hx460_0
               (try rw [show ((0 : Int)).toNat = 0 from rfl] at hw460_0)
               (try rw [show 0 * 1 = 0 from rfl] at hw460_0)
               (try rw [Addr.add_zero'] at hw460_0)
               cases e460
               have qi460 : (0 < l0.length) = True := eq_true (by omega)
               (try rw [show ((0 : Int)).toNat = 0 from rfl] at hx460_0)
               (try rw [Addr.add_zero'] at hx460_0)
               (try replace hx460_0 := (HB.out.cell (World.block_lt_of_cell? w _ hx460_0)).trans hx460_0)
               replace p460 := eq_true p460
               replace q460 := eq_true q460
               have p464 : 0 ≤ (0 : Int) := (by omega)
               have q464 : 0 < (l0.length : Int) := od_
               obtain ⟨ad464, e464, hx464_0⟩ := Kd.at_int HR0.out 0 p464 q464
               have hw464_0 := hx464_0
               (try rw [show ((0 : Int)).toNat = 0 from rfl] at hw464_0)
               (try rw [show 0 * 1 = 0 from rfl] at hw464_0)
               (try rw [Addr.add_zero'] at hw464_0)
               obtain rfl : ad460 = ad464 := (by injection e464)
               have qi464 : (0 < l0.length) = True := eq_true (by omega)
               (try rw [show ((0 : Int)).toNat = 0 from rfl] at hx464_0)
               (try rw [Addr.add_zero'] at hx464_0)
               (try replace hx464_0 := (HB.out.cell (World.block_lt_of_cell? w _ hx464_0)).trans hx464_0)
               replace p464 := eq_true p464
               replace q464 := eq_true q464
               refine start_ (n := 13) (S := fun w' => w'.cell? ad460 = some (.int .i64 (rd l0 0)) ∧ w'.cell? ad460 = some (.int .i64 (rd l0 0)) ∧ True) (ds := []) (B_ 0 13) (by kernel_rfl) rfl rfl ⟨((HB.out.cell (World.block_lt_of_cell? w _ hw460_0)).trans hw460_0), ((HB.out.cell (World.block_lt_of_cell? w _ hw464_0)).trans hw464_0), trivial⟩ (fun hHeld => ?_); refine with_tabW impl_Generates.tab3 impl_Generates.bits3 (fun HT_ HW_ => ?_)
               (first | (generalize hq_ : World.drew (World.drewN w _) = w17 at hHeld ⊢; have HBq_ : Aside0 (Below w.heap.size w w17) := ⟨hq_ ▸ (below_drew1 (pw_below_drewN (Below.refl w.heap.size w) _))⟩; clear hq_ HB; have HB := HBq_; clear HBq_; replace hx460_0 := (HB.out.cell (World.block_lt_of_cell? w _ hw460_0)).trans hw460_0; replace hx464_0 := (HB.out.cell (World.block_lt_of_cell? w _ hw464_0)).trans hw464_0) | (generalize w.drew = w17 at HB hx460_0 hx464_0 hHeld ⊢))
               refine pu_ HT_ 0 14 (B_ 1 13) ?_
               refine pu_ HT_ 1 15 (B_ 3 13) ?_
               refine pu_ HT_ 2 16 (B_ 7 13) ?_
               refine pu_ HT_ 5 19 (B_ 39 13) ?_
               refine pu_ HT_ 6 20 (B_ 103 13) ?_
               refine pu_ HT_ 7 21 (B_ 231 13) ?_
               refine tk3_ HT_ HW_ hHeld 3 17 (B_ 239 13) ?_
               refine tk3_ HT_ HW_ hHeld 8 22 (B_ 495 13) ?_
               refine pu_ HT_ 9 23 (B_ 1007 13) ?_
               refine on_ HT_ 4 18 (B_ 1023 13) (fun K hK => ?_)
               refine goes_ Tryz.func56 (by kernel_rfl) rfl #[.slice (some ad460) l0.length c0, .int .i64 (rd l0 0)] (by rfl) rfl rfl (by (try simp only [List.map_toArray, List.map_cons, List.map_nil]); first | done | rfl | (simp only [List.length_drop, List.length_take]; rfl)) ?_
               with_reducible refine (impl_leasts.calls k _ _ l0 (rd l0 0) t461 _ ?side1 ?side2 A8.out).mono ?_
               (case side1 => exact ch_ HR0 HB)
               (case side2 => exact HC0.out)
               rintro e w18 ⟨v462, rfl, ho0, hb⟩
               refine ⟨_, rfl, ?_⟩
               have HO463 := Aside0.mk (Kd.R_lower ho0 (below_size (bl_ HB.out)))
               replace HB := bo_ HB hb
               (try clear hb)
               (try clear ho0)
               obtain ⟨Ao19, co19, eo19⟩ := Kd.R_slice HO463.out
               (first | subst eo19 | (injection eo19 with f1_ f2_ f3_; have f4_ := f1_.symm; have f5_ := f3_.symm; clear f1_ f2_ f3_; subst f4_; subst f5_))
               have p465 : 0 ≤ ((ji10) : Int) := od_
               have q465 : (ji10) < (t461.length : Int) := od_
               obtain ⟨ad465, e465, hx465_0⟩ := Kd.at_int (Kd.R_reads' HO463.out).2.2 (ji10) p465 q465
               cases e465
               replace p465 := eq_true p465
               replace q465 := eq_true q465
               refine hK.out _ _ ⟨((HB.out.cell (World.block_lt_of_cell? w _ hw460_0)).trans hw460_0), ((HB.out.cell (World.block_lt_of_cell? w _ hw464_0)).trans hw464_0), trivial⟩ (fun _ => ?_); refine restart_ (S' := fun w' => w'.cell? ad460 = some (.int .i64 (rd l0 0)) ∧ w'.cell? ad460 = some (.int .i64 (rd l0 0)) ∧ w'.cell? (ad465.add ((ji10)).toNat) = some (.int .i64 (rd t461 (ji10)))) (fun _ h => ⟨h.1, h.2.1, trivial⟩) ⟨((HB.out.cell (World.block_lt_of_cell? w _ hw460_0)).trans hw460_0), ((HB.out.cell (World.block_lt_of_cell? w _ hw464_0)).trans hw464_0), hx465_0⟩ (fun hHeld => ?_)
               clear hK K
               refine norm_ (a' := ?_) ?_ ?_
               rotate_left
               · show Act.put _ (some 18) _ = _
                 simp only [Act.put, z1_, z2_, z3_, i64_w, i32_w]
                 rfl
               refine pu_ HT_ 10 24 (B_ 2047 13) ?_
               refine tk3_ HT_ HW_ hHeld 11 25 (B_ 4095 13) ?_
               refine pu_ HT_ 12 5 (B_ 8191 13) ?_
               refine done_ (done_of HT_.out (by kernel_rfl)) ?_
               try go_wp2
               go_ret
               exact ⟨by first | rfl | (simp [errW_none, errW_some] <;> rfl) | (simp only [← hji10]; first | rfl | (simp [errW_none, errW_some] <;> rfl)) | (simp [*, errW_none, errW_some] <;> rfl), bl_ HB.out⟩
           · rw [if_neg c12] at H
             cases H
         · rw [if_neg c11] at H
           cases H
     · rw [if_neg c7] at H
       cases H
   · replace c6 := Bool.eq_false_iff.mpr c6
     subst c6
     rw [if_neg (show ¬ (false = true) by decide)] at H
     obtain rfl := Option.some.inj H
     go_enter Tryz.func55, Tryz.ntmps55
     go_wp2_with (first | ((with_reducible refine gate_callee (f := 93) rfl ?_); refine gL_ (some 7) Tryz.func93 #[.slice A0 l0.length c0] ?_; (with_reducible refine (impl_usable.calls k _ _ l0 true _ ?side1 ?side2 A3.out).mono ?_); (case side1 => exact ce_ (HR0.out)); (case side2 => exact HC0.out); rintro e w' ⟨rfl, ⟨nd, rfl⟩⟩; refine ⟨_, rfl, ?_⟩) | (go_at_call 21; (with_reducible refine (impl_within.calls a1 0 1000000 false _ A5.out).mono ?_); rintro e w' ⟨rfl, ⟨nd, rfl⟩⟩))
     go_ret
     exact ⟨rf_, bl_ HB.out⟩
 · replace c4 := Bool.eq_false_iff.mpr c4
   subst c4
   rw [if_neg (show ¬ (false = true) by decide)] at H
   obtain rfl := Option.some.inj H
   go_enter Tryz.func55, Tryz.ntmps55
   go_wp2_with (first | ((with_reducible refine gate_callee (f := 93) rfl ?_); refine gL_ (some 7) Tryz.func93 #[.slice A0 l0.length c0] ?_; (with_reducible refine (impl_usable.calls k _ _ l0 false _ ?side1 ?side2 A3.out).mono ?_); (case side1 => exact ce_ (HR0.out)); (case side2 => exact HC0.out); rintro e w' ⟨rfl, ⟨nd, rfl⟩⟩; refine ⟨_, rfl, ?_⟩))
   go_ret
   exact ⟨rf_, bl_ HB.out⟩
mutual
def impl_IsSemigroup.j0 : Nat → List Int → Bool → Option (Bool)
 | 0, _, _ => none
 | k + 1, x3, x27 => if x27 = true then (some false) else (impl_IsSemigroup.l0 k x3 1)
def impl_IsSemigroup.l0 : Nat → List Int → Int → Option (Bool)
 | 0, _, _ => none
 | k + 1, x3, x4 => if x4 < (x3.length : Int) then (if 0 ≤ x4 then (if x4 ≤ (x3.length : Int) then ((impl_Generates.f k (x3.take (x4 : Int).toNat) (rd x3 x4)).bind fun t473 => (if t473 = true then (some false) else (impl_IsSemigroup.l0 k x3 (wrap64 (x4 + 1))))) else (none)) else (none)) else (if 0 < (x3.length : Int) then ((impl_leasts.f k x3 (rd x3 0)).bind fun t475 => (impl_IsSemigroup.l1 k x3 t475 (t475.length : Int) 0)) else (none))
def impl_IsSemigroup.l1 : Nat → List Int → List Int → Int → Int → Option (Bool)
 | 0, _, _, _, _ => none
 | k + 1, x3, x46, x47, x48 => if x48 < x47 then (if 0 ≤ x48 then (if x48 < (x46.length : Int) then (if 0 < (x3.length : Int) then (if (wrap64 ((rd x46 x48) - (rd x3 0))) ≥ 200 then (some false) else (impl_IsSemigroup.l1 k x3 x46 x47 (wrap64 (x48 + 1)))) else (none)) else (none)) else (none)) else (some true)
end
def impl_IsSemigroup.f (k : Nat) (l0_0 : List Int) : Option (Bool) := (impl_within.f (l0_0.length : Int) 1 12).bind fun t467 => (if t467 = true then ((impl_allWithin.f k l0_0 1 60).bind fun t468 => (if t468 = true then ((impl_IsAscending.f k l0_0).bind fun t469 => (if t469 = true then ((impl_GcdOfList.f k l0_0).bind fun t470 => (impl_IsSemigroup.j0 k l0_0 (t470 != 1))) else (impl_IsSemigroup.j0 k l0_0 true))) else (impl_IsSemigroup.j0 k l0_0 true))) else (impl_IsSemigroup.j0 k l0_0 true))
theorem impl_IsSemigroup.mono_l : ∀ k, (∀ y0 y1, LeO (impl_IsSemigroup.j0 k y0 y1) (impl_IsSemigroup.j0 (k + 1) y0 y1)) ∧ (∀ y0 y1, LeO (impl_IsSemigroup.l0 k y0 y1) (impl_IsSemigroup.l0 (k + 1) y0 y1)) ∧ (∀ y0 y1 y2 y3, LeO (impl_IsSemigroup.l1 k y0 y1 y2 y3) (impl_IsSemigroup.l1 (k + 1) y0 y1 y2 y3))
 | 0 => ⟨fun _ _ r h => by simp [impl_IsSemigroup.j0] at h, fun _ _ r h => by simp [impl_IsSemigroup.l0] at h, fun _ _ _ _ r h => by simp [impl_IsSemigroup.l1] at h⟩
 | k + 1 => by
  obtain ⟨ih0, ih1, ih2⟩ := impl_IsSemigroup.mono_l k
  refine ⟨?_, ?_, ?_⟩
  · intro y0 y1
    unfold impl_IsSemigroup.j0
    repeat' first
    | (with_reducible exact ih0 _ _)
    | (with_reducible exact ih1 _ _)
    | (with_reducible exact ih2 _ _ _ _)
    | (with_reducible exact impl_GcdOfList.mono _ _)
    | (with_reducible exact impl_Generates.mono _ _ _)
    | (with_reducible exact impl_IsAscending.mono _ _)
    | (with_reducible exact impl_allWithin.mono _ _ _ _)
    | (with_reducible exact impl_leasts.mono _ _ _)
    | (with_reducible exact LeO.refl _)
    | (with_reducible exact LeO.none _)
    | (with_reducible refine LeO.ite ?_ ?_)
    | (with_reducible refine LeO.bind ?_ (fun _ => ?_))
    | exact ih0 _ _
    | exact ih1 _ _
    | exact ih2 _ _ _ _
    | exact LeO.none _
    | refine LeO.ite ?_ ?_
    | refine LeO.bind ?_ (fun _ => ?_)
  · intro y0 y1
    unfold impl_IsSemigroup.l0
    repeat' first
    | (with_reducible exact ih0 _ _)
    | (with_reducible exact ih1 _ _)
    | (with_reducible exact ih2 _ _ _ _)
    | (with_reducible exact impl_GcdOfList.mono _ _)
    | (with_reducible exact impl_Generates.mono _ _ _)
    | (with_reducible exact impl_IsAscending.mono _ _)
    | (with_reducible exact impl_allWithin.mono _ _ _ _)
    | (with_reducible exact impl_leasts.mono _ _ _)
    | (with_reducible exact LeO.refl _)
    | (with_reducible exact LeO.none _)
    | (with_reducible refine LeO.ite ?_ ?_)
    | (with_reducible refine LeO.bind ?_ (fun _ => ?_))
    | exact ih0 _ _
    | exact ih1 _ _
    | exact ih2 _ _ _ _
    | exact LeO.none _
    | refine LeO.ite ?_ ?_
    | refine LeO.bind ?_ (fun _ => ?_)
  · intro y0 y1 y2 y3
    unfold impl_IsSemigroup.l1
    repeat' first
    | (with_reducible exact ih0 _ _)
    | (with_reducible exact ih1 _ _)
    | (with_reducible exact ih2 _ _ _ _)
    | (with_reducible exact impl_GcdOfList.mono _ _)
    | (with_reducible exact impl_Generates.mono _ _ _)
    | (with_reducible exact impl_IsAscending.mono _ _)
    | (with_reducible exact impl_allWithin.mono _ _ _ _)
    | (with_reducible exact impl_leasts.mono _ _ _)
    | (with_reducible exact LeO.refl _)
    | (with_reducible exact LeO.none _)
    | (with_reducible refine LeO.ite ?_ ?_)
    | (with_reducible refine LeO.bind ?_ (fun _ => ?_))
    | exact ih0 _ _
    | exact ih1 _ _
    | exact ih2 _ _ _ _
    | exact LeO.none _
    | refine LeO.ite ?_ ?_
    | refine LeO.bind ?_ (fun _ => ?_)
theorem impl_IsSemigroup.mono : ∀ a0 k, LeO (impl_IsSemigroup.f k a0) (impl_IsSemigroup.f (k + 1) a0) := by
 intro a0 k
 obtain ⟨ih0, ih1, ih2⟩ := impl_IsSemigroup.mono_l k
 unfold impl_IsSemigroup.f
 repeat' first
  | (with_reducible exact ih0 _ _)
  | (with_reducible exact ih1 _ _)
  | (with_reducible exact ih2 _ _ _ _)
  | (with_reducible exact impl_GcdOfList.mono _ _)
  | (with_reducible exact impl_Generates.mono _ _ _)
  | (with_reducible exact impl_IsAscending.mono _ _)
  | (with_reducible exact impl_allWithin.mono _ _ _ _)
  | (with_reducible exact impl_leasts.mono _ _ _)
  | (with_reducible exact LeO.refl _)
  | (with_reducible exact LeO.none _)
  | (with_reducible refine LeO.ite ?_ ?_)
  | (with_reducible refine LeO.bind ?_ (fun _ => ?_))
  | exact ih0 _ _
  | exact ih1 _ _
  | exact ih2 _ _ _ _
  | exact LeO.none _
  | refine LeO.ite ?_ ?_
  | refine LeO.bind ?_ (fun _ => ?_)
def impl_IsSemigroup.T7 : Bool × List (List Nat × List Nat) := (true, [([], []), ([], []), ([0, 1], [0, 1]), ([], []), ([], []), ([3, 4], [3, 4]), ([5], [5]), ([2, 6], [2, 6])])
def impl_IsSemigroup.B7 : List Nat := [0, 0, 3, 0, 0, 24, 56, 127]
theorem impl_IsSemigroup.tab7 : rtab .any (opsOf Tryz.f22 7) = impl_IsSemigroup.T7 := by kernel_rfl
theorem impl_IsSemigroup.bits7 : waitsOk impl_IsSemigroup.T7.2 impl_IsSemigroup.B7 = true := by kernel_rfl
theorem impl_IsSemigroup.calls (k : Nat) (A0_0 : Option Addr) (c0_0 : Nat) (l0_0 : List Int) (r : Bool) (w : World) (hr0_0 : Kd.C (Kd.int .i64) w A0_0 l0_0.length l0_0) (hc0_0 : l0_0.length ≤ c0_0) (h : impl_IsSemigroup.f k l0_0 = some r) :
 Calls Tryz.prog 22 #[.agg #[.slice A0_0 l0_0.length c0_0]] w fun e w' => e = .returned (.bool r) ∧ Below w.heap.size w w' := by
 have hu29 := Tryz.underlying29
 have HR0_0 := Aside0.mk hr0_0
 have HC0_0 := Aside0.mk hc0_0
 clear hr0_0 hc0_0
 have HB := Aside0.mk (Below.refl w.heap.size w)
 have H := h
 clear h
 unfold impl_IsSemigroup.f at H
 have HC2 := Aside0.mk H
 clear H
 go_enter Tryz.func22, Tryz.ntmps22
 go_upto_region 2 with (first | ((with_reducible refine gate_dst (N := 1) rfl ?_); refine bx_ 1 #[.slice A0_0 l0_0.length c0_0] 29 ?_; intro gb466 hg w3 hbox hb; have BK466 := Aside0.mk (hbox); have GW466 := gw_ hg HB; have GE466 := gw_ hg HB; replace HB := bo_ HB hb; clear hb hbox hg; have hcz4_0 := cz_ BK466; have hfz4_0 := blk_frozen BK466.out 0))
 (try simp only [Act.put, z1_, z2_, z3_])
 go_cut [27] (fun v27 wc => ∃ (kq : Nat) (x27_1 : Bool), v27 = .bool x27_1 ∧ Aside0 (impl_IsSemigroup.j0 kq l0_0 x27_1 = some r) ∧ Aside0 (kq ≤ k) ∧ Aside0 (wc.heap[gb466]? = some (.cells #[(.slice A0_0 l0_0.length c0_0)] 29 (0, 0))) ∧ Aside0 (Below w.heap.size w wc))
 case first =>
  have H := HC2.out
  clear HC2
  obtain ⟨t467, A5, H⟩ := ob_ H
  by_cases c6 : t467 = true
  · subst c6
    rw [if_pos rfl] at H
    obtain ⟨t468, A7, H⟩ := ob_ H
    by_cases c8 : t468 = true
    · subst c8
      rw [if_pos rfl] at H
      obtain ⟨t469, A9, H⟩ := ob_ H
      by_cases c10 : t469 = true
      · subst c10
        rw [if_pos rfl] at H
        obtain ⟨t470, A11, H⟩ := ob_ H
        have H' := Aside0.mk H
        clear H
        go_wp2_with (first | ((with_reducible refine gate_callee (f := 21) rfl ?_); refine gL_ (some 11) Tryz.func21 #[.int .i64 (l0_0.length : Int), .int .i64 1, .int .i64 12] ?_; (with_reducible refine (impl_within.calls (l0_0.length : Int) 1 12 true _ A5.out).mono ?_); rintro e w' ⟨rfl, ⟨nd, rfl⟩⟩; refine ⟨_, rfl, ?_⟩) | (go_at_call 52; (with_reducible refine (impl_allWithin.calls k _ _ l0_0 1 60 true _ ?side1 ?side2 A7.out).mono ?_); (case side1 => repeat (first | exact (Kd.C_below HR0_0.out (bq_ HB)) | (with_reducible refine Kd.C_alloc ?_ _) | (with_reducible refine Kd.C_drewN ?_ _) | (with_reducible refine Kd.C_drew ?_))); (case side2 => exact HC0_0.out); rintro e w' ⟨rfl, ⟨nd, rfl⟩⟩) | (go_at_call 53; (with_reducible refine (impl_IsAscending.calls k _ _ l0_0 true _ ?side1 ?side2 A9.out).mono ?_); (case side1 => repeat (first | exact (Kd.C_below HR0_0.out (bq_ HB)) | (with_reducible refine Kd.C_alloc ?_ _) | (with_reducible refine Kd.C_drewN ?_ _) | (with_reducible refine Kd.C_drew ?_))); (case side2 => exact HC0_0.out); rintro e w' ⟨rfl, ⟨nd, rfl⟩⟩) | (go_at_call 54; (with_reducible refine (impl_GcdOfList.calls k _ _ l0_0 t470 _ ?side1 ?side2 A11.out).mono ?_); (case side1 => repeat (first | exact (Kd.C_below HR0_0.out (bq_ HB)) | (with_reducible refine Kd.C_alloc ?_ _) | (with_reducible refine Kd.C_drewN ?_ _) | (with_reducible refine Kd.C_drew ?_))); (case side2 => exact HC0_0.out); rintro e w12 ⟨rfl, hb⟩; replace BK466 := bk_ BK466 hb; replace HB := bp_ HB hb; (try clear hb)))
        go_meet
        case rel => exact ⟨_, ((t470 != 1)), rs_, H', ⟨by first | omega | exact Nat.le_refl _⟩, ⟨be_ BK466.out⟩, ⟨bq_ HB⟩⟩
      · replace c10 := Bool.eq_false_iff.mpr c10
        subst c10
        rw [if_neg (show ¬ (false = true) by decide)] at H
        have H' := Aside0.mk H
        clear H
        go_wp2_with (first | ((with_reducible refine gate_callee (f := 21) rfl ?_); refine gL_ (some 11) Tryz.func21 #[.int .i64 (l0_0.length : Int), .int .i64 1, .int .i64 12] ?_; (with_reducible refine (impl_within.calls (l0_0.length : Int) 1 12 true _ A5.out).mono ?_); rintro e w' ⟨rfl, ⟨nd, rfl⟩⟩; refine ⟨_, rfl, ?_⟩) | (go_at_call 52; (with_reducible refine (impl_allWithin.calls k _ _ l0_0 1 60 true _ ?side1 ?side2 A7.out).mono ?_); (case side1 => repeat (first | exact (Kd.C_below HR0_0.out (bq_ HB)) | (with_reducible refine Kd.C_alloc ?_ _) | (with_reducible refine Kd.C_drewN ?_ _) | (with_reducible refine Kd.C_drew ?_))); (case side2 => exact HC0_0.out); rintro e w' ⟨rfl, ⟨nd, rfl⟩⟩) | (go_at_call 53; (with_reducible refine (impl_IsAscending.calls k _ _ l0_0 false _ ?side1 ?side2 A9.out).mono ?_); (case side1 => repeat (first | exact (Kd.C_below HR0_0.out (bq_ HB)) | (with_reducible refine Kd.C_alloc ?_ _) | (with_reducible refine Kd.C_drewN ?_ _) | (with_reducible refine Kd.C_drew ?_))); (case side2 => exact HC0_0.out); rintro e w' ⟨rfl, ⟨nd, rfl⟩⟩))
        go_meet
        case rel => exact ⟨_, (true), rs_, H', ⟨by first | omega | exact Nat.le_refl _⟩, ⟨be_ BK466.out⟩, ⟨bq_ HB⟩⟩
    · replace c8 := Bool.eq_false_iff.mpr c8
      subst c8
      rw [if_neg (show ¬ (false = true) by decide)] at H
      have H' := Aside0.mk H
      clear H
      go_wp2_with (first | ((with_reducible refine gate_callee (f := 21) rfl ?_); refine gL_ (some 11) Tryz.func21 #[.int .i64 (l0_0.length : Int), .int .i64 1, .int .i64 12] ?_; (with_reducible refine (impl_within.calls (l0_0.length : Int) 1 12 true _ A5.out).mono ?_); rintro e w' ⟨rfl, ⟨nd, rfl⟩⟩; refine ⟨_, rfl, ?_⟩) | (go_at_call 52; (with_reducible refine (impl_allWithin.calls k _ _ l0_0 1 60 false _ ?side1 ?side2 A7.out).mono ?_); (case side1 => repeat (first | exact (Kd.C_below HR0_0.out (bq_ HB)) | (with_reducible refine Kd.C_alloc ?_ _) | (with_reducible refine Kd.C_drewN ?_ _) | (with_reducible refine Kd.C_drew ?_))); (case side2 => exact HC0_0.out); rintro e w' ⟨rfl, ⟨nd, rfl⟩⟩))
      go_meet
      case rel => exact ⟨_, (true), rs_, H', ⟨by first | omega | exact Nat.le_refl _⟩, ⟨be_ BK466.out⟩, ⟨bq_ HB⟩⟩
  · replace c6 := Bool.eq_false_iff.mpr c6
    subst c6
    rw [if_neg (show ¬ (false = true) by decide)] at H
    have H' := Aside0.mk H
    clear H
    go_wp2_with (first | ((with_reducible refine gate_callee (f := 21) rfl ?_); refine gL_ (some 11) Tryz.func21 #[.int .i64 (l0_0.length : Int), .int .i64 1, .int .i64 12] ?_; (with_reducible refine (impl_within.calls (l0_0.length : Int) 1 12 false _ A5.out).mono ?_); rintro e w' ⟨rfl, ⟨nd, rfl⟩⟩; refine ⟨_, rfl, ?_⟩))
    go_meet
    case rel => exact ⟨_, (true), rs_, H', ⟨by first | omega | exact Nat.le_refl _⟩, ⟨be_ BK466.out⟩, ⟨bq_ HB⟩⟩
 case rest =>
  clear HC2
  try clear c1
  try clear c2
  try clear p2
  try clear c6
  try clear c8
  try clear c10
  try clear hcz4_0
  try clear hfz4_0
  obtain ⟨kq, x27_1, rfl, HA, HJ1, BK466, HB⟩ := hcut
  cases kq with
  | zero => exact absurd HA.out (by simp [impl_IsSemigroup.j0])
  | succ kj1 =>
   have H := HA.out
   clear HA
   simp only [impl_IsSemigroup.j0] at H
   by_cases c13 : x27_1 = true
   · subst c13
     rw [if_pos rfl] at H
     obtain rfl := Option.some.inj H
     go_wp2
     go_ret
     exact ⟨rf_, bq_ HB⟩
   · replace c13 := Bool.eq_false_iff.mpr c13
     subst c13
     rw [if_neg (show ¬ (false = true) by decide)] at H
     have H' := Aside0.mk H
     clear H
     go_wp2
     go_loopg [4] kj1 (fun kq v4 w' => ∃ (x4_2 : Int), v4 = .int .i64 x4_2 ∧ Aside0 (impl_IsSemigroup.l0 kq l0_0 x4_2 = some r) ∧ Aside0 (kq ≤ kj1) ∧ Aside0 (w'.heap[gb466]? = some (.cells #[(.slice A0_0 l0_0.length c0_0)] 29 (0, 0))) ∧ Aside0 (Below w.heap.size w w'))
     case atStart => exact ⟨(1), rs_, H', ⟨Nat.le_refl _⟩, ⟨be_ BK466.out⟩, ⟨bq_ HB⟩⟩
     case round =>
      clear H'
      try clear c1
      try clear c2
      try clear p2
      try clear c6
      try clear c8
      try clear c10
      try clear c13
      try clear hcz4_0
      try clear hfz4_0
      try clear p2
      obtain ⟨x4_2, rfl, HA, HK2, BK466, HB⟩ := hrel
      cases gk with
      | zero => exact absurd HA.out (by simp [impl_IsSemigroup.l0])
      | succ k2 =>
       have H := HA.out
       clear HA
       simp only [impl_IsSemigroup.l0] at H
       by_cases c14 : x4_2 < (l0_0.length : Int)
       · rw [if_pos c14] at H
         have c14b0 : decide (x4_2 < (l0_0.length : Int)) = true := decide_eq_true c14
         clear c14
         by_cases c15 : 0 ≤ x4_2
         · rw [if_pos c15] at H
           have c15b0 := eq_true c15
           have c15b1 : decide (0 ≤ x4_2) = true := decide_eq_true c15
           clear c15
           by_cases c16 : x4_2 ≤ (l0_0.length : Int)
           · rw [if_pos c16] at H
             have c16b0 := eq_true c16
             have c16b1 : decide (x4_2 ≤ (l0_0.length : Int)) = true := decide_eq_true c16
             clear c16
             obtain ⟨t473, A17, H⟩ := ob_ H
             by_cases c18 : t473 = true
             · subst c18
               rw [if_pos rfl] at H
               obtain rfl := Option.some.inj H
               try go_wp2
               replace BK466 := Aside0.mk (blk_drew BK466.out)
               replace HB := Aside0.mk (below_drew1 HB.out)
               obtain ⟨i020, hi020, _, hsz20, _⟩ := info_parts info3
               obtain ⟨hcut20, hA20, hC20⟩ := print_take_of (P := Tryz.prog) (Value.int .i64) 0 27 3 .i64 Tryz.underlying27 hi020 hsz20 A0_0 c0_0 l0_0 x4_2 (od_) (od_) HC0_0.out
               have HR471 := Aside0.mk (Kd.C_of_reads (h1 := fun _ => rfl) (hA20 _ (Kd.reads_of_C HR0_0.out)))
               have HC471 := Aside0.mk hC20
               clear hA20 hC20 hi020 hsz20
               have p472 : 0 ≤ (x4_2 : Int) := od_
               have q472 : x4_2 < (l0_0.length : Int) := od_
               obtain ⟨ad472, e472, hx472_0⟩ := Kd.at_int HR0_0.out x4_2 p472 q472
               have hw472_0 := hx472_0
               cases e472
               (try replace hx472_0 := (HB.out.cell (World.block_lt_of_cell? w _ hx472_0)).trans hx472_0)
               replace p472 := eq_true p472
               replace q472 := eq_true q472
               refine start_ (n := 8) (S := fun w' => w'.cell? (ad472.add (x4_2).toNat) = some (.int .i64 (rd l0_0 x4_2))) (ds := []) (B_ 0 8) (by kernel_rfl) rfl rfl (by first | exact hw472_0 | exact (HB.out.cell (World.block_lt_of_cell? w _ hw472_0)).trans hw472_0 | (obtain ⟨_, e_, h_⟩ := Kd.at_int HR0_0.out x4_2 (of_eq_true p472) (of_eq_true q472); cases e_; exact h_)) (fun hHeld => ?_); refine with_tabW impl_IsSemigroup.tab7 impl_IsSemigroup.bits7 (fun HT_ HW_ => ?_)
               generalize wr.drew = w19 at BK466 HB HR471 hx472_0 hHeld ⊢
               refine pu_ HT_ 0 34 (B_ 1 8) ?_
               refine pu_ HT_ 1 35 (B_ 3 8) ?_
               refine pu_ HT_ 2 36 (B_ 7 8) ?_
               refine pu_ HT_ 3 37 (B_ 15 8) ?_
               refine pu_ HT_ 4 38 (B_ 31 8) ?_
               refine pu_ HT_ 5 39 (B_ 63 8) ?_
               refine tk1_ HT_ HW_ hHeld 6 40 (B_ 127 8) ?_
               refine on_ HT_ 7 41 (B_ 255 8) (fun K hK => ?_)
               refine goes_ Tryz.func55 (by kernel_rfl) rfl #[.slice (some ad472) (l0_0.take (x4_2 : Int).toNat).length c0_0, .int .i64 (rd l0_0 x4_2)] (by rfl) rfl rfl (by (try simp only [List.map_toArray, List.map_cons, List.map_nil]); first | done | (rw [show (l0_0.take (x4_2 : Int).toNat).length = x4_2.toNat from (by rw [List.length_take]; have h_ : (x4_2 : Int) ≤ (l0_0.length : Int) := od_; omega)] <;> rfl) | rfl | (simp only [List.length_drop, List.length_take]; rfl)) ?_
               with_reducible refine (impl_Generates.calls k2 _ _ (l0_0.take (x4_2 : Int).toNat) (rd l0_0 x4_2) true _ ?side1 ?side2 A17.out).mono ?_
               (case side1 => exact ch_ HR471 HB)
               (case side2 => exact HC471.out)
               rintro e w21 ⟨rfl, hb⟩
               refine ⟨_, rfl, ?_⟩
               replace BK466 := bk_ BK466 hb
               replace HB := bp_ HB hb
               (try clear hb)
               refine hK.out _ _ (by first | exact hw472_0 | exact (HB.out.cell (World.block_lt_of_cell? w _ hw472_0)).trans hw472_0 | (obtain ⟨_, e_, h_⟩ := Kd.at_int HR0_0.out x4_2 (of_eq_true p472) (of_eq_true q472); cases e_; exact h_)) (fun hHeld => ?_)
               clear hK K
               refine norm_ (a' := ?_) ?_ ?_
               rotate_left
               · show Act.put _ (some 41) _ = _
                 simp only [Act.put, z1_, z2_, z3_, i64_w, i32_w]
                 rfl
               refine done_ (done_of HT_.out (by kernel_rfl)) ?_
               try go_wp2
               go_ret
               exact ⟨rf_, bq_ HB⟩
             · replace c18 := Bool.eq_false_iff.mpr c18
               subst c18
               rw [if_neg (show ¬ (false = true) by decide)] at H
               have H' := Aside0.mk H
               clear H
               try go_wp2
               replace BK466 := Aside0.mk (blk_drew BK466.out)
               replace HB := Aside0.mk (below_drew1 HB.out)
               obtain ⟨i023, hi023, _, hsz23, _⟩ := info_parts info3
               obtain ⟨hcut23, hA23, hC23⟩ := print_take_of (P := Tryz.prog) (Value.int .i64) 0 27 3 .i64 Tryz.underlying27 hi023 hsz23 A0_0 c0_0 l0_0 x4_2 (od_) (od_) HC0_0.out
               have HR471 := Aside0.mk (Kd.C_of_reads (h1 := fun _ => rfl) (hA23 _ (Kd.reads_of_C HR0_0.out)))
               have HC471 := Aside0.mk hC23
               clear hA23 hC23 hi023 hsz23
               have p472 : 0 ≤ (x4_2 : Int) := od_
               have q472 : x4_2 < (l0_0.length : Int) := od_
               obtain ⟨ad472, e472, hx472_0⟩ := Kd.at_int HR0_0.out x4_2 p472 q472
               have hw472_0 := hx472_0
               cases e472
               (try replace hx472_0 := (HB.out.cell (World.block_lt_of_cell? w _ hx472_0)).trans hx472_0)
               replace p472 := eq_true p472
               replace q472 := eq_true q472
               refine start_ (n := 8) (S := fun w' => w'.cell? (ad472.add (x4_2).toNat) = some (.int .i64 (rd l0_0 x4_2))) (ds := []) (B_ 0 8) (by kernel_rfl) rfl rfl (by first | exact hw472_0 | exact (HB.out.cell (World.block_lt_of_cell? w _ hw472_0)).trans hw472_0 | (obtain ⟨_, e_, h_⟩ := Kd.at_int HR0_0.out x4_2 (of_eq_true p472) (of_eq_true q472); cases e_; exact h_)) (fun hHeld => ?_); refine with_tabW impl_IsSemigroup.tab7 impl_IsSemigroup.bits7 (fun HT_ HW_ => ?_)
               generalize wr.drew = w22 at BK466 HB HR471 hx472_0 hHeld ⊢
               refine pu_ HT_ 0 34 (B_ 1 8) ?_
               refine pu_ HT_ 1 35 (B_ 3 8) ?_
               refine pu_ HT_ 2 36 (B_ 7 8) ?_
               refine pu_ HT_ 3 37 (B_ 15 8) ?_
               refine pu_ HT_ 4 38 (B_ 31 8) ?_
               refine pu_ HT_ 5 39 (B_ 63 8) ?_
               refine tk1_ HT_ HW_ hHeld 6 40 (B_ 127 8) ?_
               refine on_ HT_ 7 41 (B_ 255 8) (fun K hK => ?_)
               refine goes_ Tryz.func55 (by kernel_rfl) rfl #[.slice (some ad472) (l0_0.take (x4_2 : Int).toNat).length c0_0, .int .i64 (rd l0_0 x4_2)] (by rfl) rfl rfl (by (try simp only [List.map_toArray, List.map_cons, List.map_nil]); first | done | (rw [show (l0_0.take (x4_2 : Int).toNat).length = x4_2.toNat from (by rw [List.length_take]; have h_ : (x4_2 : Int) ≤ (l0_0.length : Int) := od_; omega)] <;> rfl) | rfl | (simp only [List.length_drop, List.length_take]; rfl)) ?_
               with_reducible refine (impl_Generates.calls k2 _ _ (l0_0.take (x4_2 : Int).toNat) (rd l0_0 x4_2) false _ ?side1 ?side2 A17.out).mono ?_
               (case side1 => exact ch_ HR471 HB)
               (case side2 => exact HC471.out)
               rintro e w24 ⟨rfl, hb⟩
               refine ⟨_, rfl, ?_⟩
               replace BK466 := bk_ BK466 hb
               replace HB := bp_ HB hb
               (try clear hb)
               refine hK.out _ _ (by first | exact hw472_0 | exact (HB.out.cell (World.block_lt_of_cell? w _ hw472_0)).trans hw472_0 | (obtain ⟨_, e_, h_⟩ := Kd.at_int HR0_0.out x4_2 (of_eq_true p472) (of_eq_true q472); cases e_; exact h_)) (fun hHeld => ?_)
               clear hK K
               refine norm_ (a' := ?_) ?_ ?_
               rotate_left
               · show Act.put _ (some 41) _ = _
                 simp only [Act.put, z1_, z2_, z3_, i64_w, i32_w]
                 rfl
               refine done_ (done_of HT_.out (by kernel_rfl)) ?_
               try go_wp2
               go_roundg k2
               case measure => have := HJ1.out; have := HK2.out; omega
               case rel => exact ⟨(wrap64 (x4_2 + 1)), rs_, H', ⟨by have := HJ1.out; have := HK2.out; omega⟩, ⟨be_ BK466.out⟩, ⟨bq_ HB⟩⟩
           · rw [if_neg c16] at H
             cases H
         · rw [if_neg c15] at H
           cases H
       · rw [if_neg c14] at H
         have c14b0 : decide (x4_2 < (l0_0.length : Int)) = false := decide_eq_false c14
         clear c14
         by_cases c25 : 0 < (l0_0.length : Int)
         · rw [if_pos c25] at H
           have c25b0 : decide (0 < (l0_0.length : Int)) = true := decide_eq_true c25
           have c25b1 : decide (0 < l0_0.length) = true := decide_eq_true (by omega)
           clear c25
           obtain ⟨t475, A26, H⟩ := ob_ H
           have H' := Aside0.mk H
           clear H
           have p474 : 0 ≤ (0 : Int) := (by omega)
           have q474 : 0 < (l0_0.length : Int) := od_
           obtain ⟨ad474, e474, hx474_0⟩ := Kd.at_int HR0_0.out 0 p474 q474
           cases e474
           have qi474 : (0 < l0_0.length) = True := eq_true (by omega)
           (try rw [show ((0 : Int)).toNat = 0 from rfl] at hx474_0)
           (try rw [Addr.add_zero'] at hx474_0)
           (try replace hx474_0 := (HB.out.cell (World.block_lt_of_cell? w _ hx474_0)).trans hx474_0)
           replace p474 := eq_true p474
           replace q474 := eq_true q474
           go_wp2_with (first | ((with_reducible refine gate_callee (f := 56) rfl ?_); refine gL_ (some 46) Tryz.func56 #[.slice (some ad474) l0_0.length c0_0, .int .i64 (rd l0_0 0)] ?_; (with_reducible refine (impl_leasts.calls k2 _ _ l0_0 (rd l0_0 0) t475 _ ?side1 ?side2 A26.out).mono ?_); (case side1 => exact ch_ HR0_0 HB); (case side2 => exact HC0_0.out); rintro e w27 ⟨v476, rfl, ho0, hb⟩; refine ⟨_, rfl, ?_⟩; have HO477 := Aside0.mk (Kd.R_lower ho0 (below_size (bq_ HB))); replace BK466 := bk_ BK466 hb; replace HB := bp_ HB hb; (try clear hb); (try clear ho0); obtain ⟨Ao28, co28, eo28⟩ := Kd.R_slice HO477.out; subst eo28))
           go_loopg [48] k2 (fun kq v48 w' => ∃ (x48_3 : Int), v48 = .int .i64 x48_3 ∧ Aside0 (impl_IsSemigroup.l1 kq l0_0 t475 (t475.length : Int) x48_3 = some r) ∧ Aside0 (kq ≤ k2) ∧ Aside0 (Kd.R (Kd.int .i64) 3 w' w.heap.size (fun _ => True) (.slice Ao28 t475.length co28) t475) ∧ Aside0 (w'.heap[gb466]? = some (.cells #[(.slice (some ad474) l0_0.length c0_0)] 29 (0, 0))) ∧ Aside0 (Below w.heap.size w w'))
           case atStart => exact ⟨(0), rs_, H', ⟨Nat.le_refl _⟩, ⟨re_ HO477.out⟩, ⟨be_ BK466.out⟩, ⟨bq_ HB⟩⟩
           case round =>
            clear H'
            try clear c1
            try clear c2
            try clear p2
            try clear p4
            try clear q4
            try clear hx4
            try clear qi4
            try clear c5
            try clear c6
            try clear p6
            try clear c8
            try clear c10
            try clear c13
            try clear c14
            try clear c14b0
            try clear c15
            try clear c15b0
            try clear c15b1
            try clear c16
            try clear c16b0
            try clear c16b1
            try clear c18
            try clear c21
            try clear c22
            try clear c25
            try clear c25b0
            try clear c25b1
            try clear hcz4_0
            try clear hfz4_0
            try clear hx472_0
            try clear hx474_0
            try clear p2
            try clear p472
            try clear p474
            try clear q472
            try clear q474
            obtain ⟨x48_3, rfl, HA, HK3, HO_46, BK466, HB⟩ := hrel
            cases gk with
            | zero => exact absurd HA.out (by simp [impl_IsSemigroup.l1])
            | succ k3 =>
             have H := HA.out
             clear HA
             simp only [impl_IsSemigroup.l1] at H
             by_cases c29 : x48_3 < (t475.length : Int)
             · rw [if_pos c29] at H
               have c29b0 : decide (x48_3 < (t475.length : Int)) = true := decide_eq_true c29
               clear c29
               by_cases c30 : 0 ≤ x48_3
               · rw [if_pos c30] at H
                 have c30b0 : decide (0 ≤ x48_3) = true := decide_eq_true c30
                 clear c30
                 by_cases c31 : x48_3 < (t475.length : Int)
                 · rw [if_pos c31] at H
                   have c31b0 : decide (x48_3 < (t475.length : Int)) = true := decide_eq_true c31
                   clear c31
                   by_cases c32 : 0 < (l0_0.length : Int)
                   · rw [if_pos c32] at H
                     have c32b0 : decide (0 < (l0_0.length : Int)) = true := decide_eq_true c32
                     have c32b1 : decide (0 < l0_0.length) = true := decide_eq_true (by omega)
                     clear c32
                     by_cases c33 : (wrap64 ((rd t475 x48_3) - (rd l0_0 0))) ≥ 200
                     · rw [if_pos c33] at H
                       have c33b0 : decide (200 ≤ (wrap64 ((rd t475 x48_3) - (rd l0_0 0)))) = true := decide_eq_true c33
                       clear c33
                       obtain rfl := Option.some.inj H
                       have p478 : 0 ≤ (x48_3 : Int) := od_
                       have q478 : x48_3 < (t475.length : Int) := od_
                       obtain ⟨ad478, e478, hx478_0⟩ := Kd.at_int (Kd.R_reads' HO_46.out).2.2 x48_3 p478 q478
                       cases e478
                       replace p478 := eq_true p478
                       replace q478 := eq_true q478
                       have p479 : 0 ≤ (0 : Int) := (by omega)
                       have q479 : 0 < (l0_0.length : Int) := od_
                       obtain ⟨ad479, e479, hx479_0⟩ := Kd.at_int HR0_0.out 0 p479 q479
                       obtain rfl : ad474 = ad479 := (by injection e479)
                       have qi479 : (0 < l0_0.length) = True := eq_true (by omega)
                       (try rw [show ((0 : Int)).toNat = 0 from rfl] at hx479_0)
                       (try rw [Addr.add_zero'] at hx479_0)
                       (try replace hx479_0 := (HB.out.cell (World.block_lt_of_cell? w _ hx479_0)).trans hx479_0)
                       replace p479 := eq_true p479
                       replace q479 := eq_true q479
                       go_wp2
                       go_ret
                       exact ⟨rf_, bq_ HB⟩
                     · rw [if_neg c33] at H
                       have c33b0 : decide (200 ≤ (wrap64 ((rd t475 x48_3) - (rd l0_0 0)))) = false := decide_eq_false c33
                       clear c33
                       have H' := Aside0.mk H
                       clear H
                       have p478 : 0 ≤ (x48_3 : Int) := od_
                       have q478 : x48_3 < (t475.length : Int) := od_
                       obtain ⟨ad478, e478, hx478_0⟩ := Kd.at_int (Kd.R_reads' HO_46.out).2.2 x48_3 p478 q478
                       cases e478
                       replace p478 := eq_true p478
                       replace q478 := eq_true q478
                       have p479 : 0 ≤ (0 : Int) := (by omega)
                       have q479 : 0 < (l0_0.length : Int) := od_
                       obtain ⟨ad479, e479, hx479_0⟩ := Kd.at_int HR0_0.out 0 p479 q479
                       obtain rfl : ad474 = ad479 := (by injection e479)
                       have qi479 : (0 < l0_0.length) = True := eq_true (by omega)
                       (try rw [show ((0 : Int)).toNat = 0 from rfl] at hx479_0)
                       (try rw [Addr.add_zero'] at hx479_0)
                       (try replace hx479_0 := (HB.out.cell (World.block_lt_of_cell? w _ hx479_0)).trans hx479_0)
                       replace p479 := eq_true p479
                       replace q479 := eq_true q479
                       go_wp2
                       go_roundg k3
                       case measure => have := HJ1.out; have := HK2.out; have := HK3.out; omega
                       case rel => exact ⟨(wrap64 (x48_3 + 1)), rs_, H', ⟨by have := HJ1.out; have := HK2.out; have := HK3.out; omega⟩, ⟨re_ HO_46.out⟩, ⟨be_ BK466.out⟩, ⟨bq_ HB⟩⟩
                   · rw [if_neg c32] at H
                     cases H
                 · rw [if_neg c31] at H
                   cases H
               · rw [if_neg c30] at H
                 cases H
             · rw [if_neg c29] at H
               have c29b0 : decide (x48_3 < (t475.length : Int)) = false := decide_eq_false c29
               clear c29
               obtain rfl := Option.some.inj H
               go_wp2
               go_ret
               exact ⟨rf_, bq_ HB⟩
         · rw [if_neg c25] at H
           cases H
end Go.Proofs.YteaiehpgigaoaaaGreatDoor.PB
end
