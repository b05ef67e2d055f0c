-- Bundled by shake.py from this session's printed and written texts; Lean checks it.
import Derived.Test.YtonknpgfbkgbjaaZFnExactAllOfGenusx1
section
namespace Go.Proofs.Ytonknpgfbkgbjaa.PC
open Go.RowKit Go.Proofs.YtonknpgfbkgbjaaW.PrintWords Go.Proofs.YtonknpgfbkgbjaaW.PrintLast Go.Proofs.YtonknpgfbkgbjaaW.PrintMore
attribute [local go_sem] max2_int min2_int max_two min_two max_three min_three max_four min_four
set_option linter.unusedVariables false
set_option linter.unusedSimpArgs false
set_option maxHeartbeats 8000000
set_option maxRecDepth 100000
mutual
def impl_leasts.l0 : Nat → List Int → Int → List Int → Int → Int → Option (List Int)
 | 0, _, _, _, _, _ => none
 | k + 1, x0, x1, x5, x16, x17 => if x17 < x16 then (if 0 ≤ x17 then (if x17 < (x5.length : Int) then (impl_leasts.l0 k x0 x1 (x5.set (x17 : Int).toNat (-1)) x16 (wrap64 (x17 + 1))) else (none)) else (none)) else (if 0 < (x5.length : Int) then (impl_leasts.l1 k x0 x1 (x5.set (0 : Int).toNat 0) true) else (none))
def impl_leasts.l1 : Nat → List Int → Int → List Int → Bool → Option (List Int)
 | 0, _, _, _, _ => none
 | k + 1, x0, x1, x5, x7 => if x7 = true then (impl_leasts.l2 k x0 x1 x5 false (x5.length : Int) 0) else (some x5)
def impl_leasts.l2 : Nat → List Int → Int → List Int → Bool → Int → Int → Option (List Int)
 | 0, _, _, _, _, _, _ => none
 | k + 1, x0, x1, x5, x7, x28, x29 => if x29 < x28 then (if 0 ≤ x29 then (if x29 < (x5.length : Int) then (if (rd x5 x29) < 0 then (impl_leasts.l2 k x0 x1 x5 x7 x28 (wrap64 (x29 + 1))) else (impl_leasts.l3 k x0 x1 x5 x7 x29 (rd x5 x29) x28 x29 x0 (x0.length : Int) 0)) else (none)) else (none)) else (impl_leasts.l1 k x0 x1 x5 x7)
def impl_leasts.l3 : Nat → List Int → Int → List Int → Bool → Int → Int → Int → Int → List Int → Int → Int → Option (List Int)
 | 0, _, _, _, _, _, _, _, _, _, _, _ => none
 | k + 1, x0, x1, x5, x7, x8, x9, x28, x29, x36, x37, x38 => if x38 < x37 then (if 0 ≤ x38 then (if x38 < (x36.length : Int) then (if x1 = 0 then (none) else (if 0 ≤ (Int.tmod (wrap64 (x8 + (rd x36 x38))) x1) then (if (Int.tmod (wrap64 (x8 + (rd x36 x38))) x1) < (x5.length : Int) then (if (rd x5 (Int.tmod (wrap64 (x8 + (rd x36 x38))) x1)) < 0 then (impl_leasts.l3 k x0 x1 (x5.set ((Int.tmod (wrap64 (x8 + (rd x36 x38))) x1) : Int).toNat (wrap64 (x9 + (rd x36 x38)))) true x8 x9 x28 x29 x36 x37 (wrap64 (x38 + 1))) else (if (wrap64 (x9 + (rd x36 x38))) < (rd x5 (Int.tmod (wrap64 (x8 + (rd x36 x38))) x1)) then (impl_leasts.l3 k x0 x1 (x5.set ((Int.tmod (wrap64 (x8 + (rd x36 x38))) x1) : Int).toNat (wrap64 (x9 + (rd x36 x38)))) true x8 x9 x28 x29 x36 x37 (wrap64 (x38 + 1))) else (impl_leasts.l3 k x0 x1 x5 x7 x8 x9 x28 x29 x36 x37 (wrap64 (x38 + 1))))) else (none)) else (none))) else (none)) else (none)) else (impl_leasts.l2 k x0 x1 x5 x7 x28 (wrap64 (x29 + 1)))
end
def impl_leasts.f (k : Nat) (l0 : List Int) (a1 : Int) : Option (List Int) := if 0 ≤ a1 then (if (a1 : Int).toNat ≤ 35184372088832 then ((some (List.replicate (a1 : Int).toNat 0 : List Int)).bind fun y111 => (impl_leasts.l0 k l0 a1 y111 (y111.length : Int) 0)) else (none)) else (none)
theorem impl_leasts.calls (k : Nat) (A0 : Option Addr) (c0 : Nat) (l0 : List Int) (a1 : Int) (r : List Int) (w : World) (hr0 : Kd.C (Kd.int .i64) w A0 l0.length l0) (hc0 : l0.length ≤ c0) (h : impl_leasts.f k l0 a1 = some r) :
 Calls Try.prog 59 #[.slice A0 l0.length c0, .int .i64 a1] w fun e w' => ∃ v0_ : Value, e = .returned (v0_) ∧ Kd.R (Kd.int .i64) 3 w' w.heap.size (fun _ => True) v0_ r ∧ Below w.heap.size w w' := by
 have HR0 := Aside0.mk hr0
 have HC0 := Aside0.mk hc0
 clear hr0 hc0
 have HB := Aside0.mk (Below.refl w.heap.size w)
 have H := h
 clear h
 unfold impl_leasts.f at H
 obtain ⟨c3, H⟩ := ip_ H
 have c3b0 := eq_true c3
 have c3b1 : decide (0 ≤ a1) = true := decide_eq_true c3
 clear c3
 obtain ⟨c4, H⟩ := ip_ H
 have c4b0 := eq_true c4
 have c4b1 : decide ((a1 : Int).toNat ≤ 35184372088832) = true := decide_eq_true c4
 clear c4
 obtain ⟨y111, hy111⟩ : ∃ y_ : List Int, y_ = (List.replicate (a1 : Int).toNat 0) := ⟨_, rfl⟩
 replace H : (impl_leasts.l0 k l0 a1 y111 (y111.length : Int) 0) = some r := by subst hy111; exact H
 have Ny111 := Aside0.mk hy111
 clear hy111
 have H' := Aside0.mk H
 clear H
 go_enter Try.func59, Try.ntmps59
 go_wp2_with (first | ((with_reducible refine gate_dst (N := 14) rfl ?_); refine Kd.R_make (Kd.int .i64) _ 3 rfl (N := 14) rfl 24 _ _ rfl a1 rfl rfl Try.underlying24 (.int .i64 0) 8 info3 rfl (by decide) (by omega) 0 (ok := fun _ => True) (okp := fun _ => True) rfl (fun _ hk => hk) trivial (od_) (Nat.le_trans (Nat.mul_le_mul_right _ (od_ : a1.toNat ≤ 35184372088832)) (by omega)) (Below.refl _ _) (Nat.le_refl _) ?_; intro v112 w5 ho6 hb hg_ hnew_; clear hg_ hnew_; (first | rw [← Ny111.out] at ho6 | (simp only [Int.reduceToNat] at ho6; rw [← Ny111.out] at ho6)); have HO113 := Aside0.mk (Kd.R_lower ho6 (below_size (bl_ HB.out))); replace HB := bo_ HB hb; clear hb ho6; obtain ⟨Ao7, co7, eo7⟩ := Kd.R_slice HO113.out; subst eo7))
 go_loopg [17] k (fun kq v17 w' => ∃ (x5_1 : List Int) (x17_1 : Int), v17 = .int .i64 x17_1 ∧ Aside0 (impl_leasts.l0 kq l0 a1 x5_1 (y111.length : Int) x17_1 = some r) ∧ Aside0 (kq ≤ k) ∧ Aside0 (Kd.R (Kd.int .i64) 3 w' w.heap.size (fun _ => True) (.slice Ao7 y111.length co7) x5_1) ∧ Aside0 (Below w.heap.size w w'))
 case atStart => exact ⟨(y111), (0), rs_, H', ⟨Nat.le_refl _⟩, ⟨re_ HO113.out⟩, ⟨bl_ HB.out⟩⟩
 case round =>
  clear H'
  try clear c3b0
  try clear c3b1
  try clear c4b0
  try clear c4b1
  obtain ⟨x5_1, x17_1, rfl, HA, HK1, HO_5, HB⟩ := hrel
  have hl5_1 := (Kd.R_reads' HO_5.out).1
  rw [hl5_1] at HO_5
  (try simp only [hl5_1])
  cases gk with
  | zero => exact absurd HA.out (by simp [impl_leasts.l0])
  | succ k1 =>
   have H := HA.out
   clear HA
   simp only [impl_leasts.l0] at H
   by_cases c8 : x17_1 < (y111.length : Int)
   · rw [if_pos c8] at H
     have c8b0 : decide (x17_1 < (y111.length : Int)) = true := decide_eq_true c8
     (try (have c8h := c8b0; simp only [hl5_1] at c8h))
     clear c8
     obtain ⟨c9b0, H⟩ := ipd_ H
     obtain ⟨c10, H⟩ := ip_ H
     have c10b0 : decide (x17_1 < (x5_1.length : Int)) = true := decide_eq_true c10
     (try (have c10h := c10b0; simp only [hl5_1] at c10h))
     clear c10
     obtain ⟨y114, hy114⟩ : ∃ y_ : List Int, y_ = (x5_1.set (x17_1 : Int).toNat (-1)) := ⟨_, rfl⟩
     replace H : (impl_leasts.l0 k1 l0 a1 y114 (y111.length : Int) (wrap64 (x17_1 + 1))) = some r := by subst hy114; exact H
     have Ny114 := Aside0.mk hy114
     clear hy114
     have H' := Aside0.mk H
     clear H
     have p11 : 0 ≤ (x17_1 : Int) := od_
     have q11 : (x17_1 : Int) < ((x5_1.length : Int) : Int) := od_
     obtain ⟨go11, co11, eo11, gb11, gl11, cl11, HG11⟩ := Kd.R_form HO_5.out (by omega)
     (first | cases eo11 | (injection eo11 with ea_ en_ ec_; (first | subst ea_ | (injection ea_ with ea_; subst ea_)); subst ec_; clear en_))
     have GB11 := Aside0.mk gb11
     have GG11 := Aside0.mk HG11
     clear gb11 gl11 HG11
     obtain ⟨hx11_0, hf11_0⟩ := Kd.R_celln 0 HO_5.out (x17_1 : Int) p11 q11
     replace p11 := eq_true p11
     replace q11 := eq_true q11
     have HP12 := Kd.R_putg HO_5.out (x17_1 : Int) (-1)
     go_wp2_with (first | ((with_reducible refine gate_store (t := 3) (p := 22) rfl ?_); refine store_event (t := 3) (p := 22) (v := ?vo_w13) (w1 := (wr.setCell ⟨go11, (x17_1 : Int).toNat, none⟩ (.int .i64 (-1)))) ?hg ?ho ?hn ?hr ?_; (case ho => rfl); (case hg => rfl); (case hn => rfl); (case hr => first | (go_simp; done) | (go_simp; rfl)); intro w13 hw; have hg : wr.grownBy w13 (some go11) := (by rw [hw]; exact HP12.2); have hp_ : Kd.R (Kd.int .i64) 3 w13 w.heap.size (fun _ => True) (.slice (some ⟨go11, 0, none⟩) x5_1.length co7) y114 := (by rw [hw, Ny114.out]; exact HP12.1); clear HP12; replace HO_5 := Aside0.mk (hp_); replace HB := Aside0.mk ((by rw [hw]; exact below_set (HB.out) GB11.out : Below w.heap.size w w13)); clear hg hw hp_))
     (try simp only [← hl5_1])
     go_roundg k1
     case measure => have := HK1.out; omega
     case rel => exact ⟨(y114), (wrap64 (x17_1 + 1)), rs_, H', ⟨by have := HK1.out; omega⟩, ⟨by (try simp only [hl5_1]); (with_reducible repeat (first | apply Kd.R_alloc | apply Kd.R_drewN | apply Kd.R_drew)); exact HO_5.out⟩, ⟨bl_ HB.out⟩⟩
   rw [if_neg c8] at H
   have c8b0 : decide (x17_1 < (y111.length : Int)) = false := decide_eq_false c8
   (try (have c8h := c8b0; simp only [hl5_1] at c8h))
   clear c8
   obtain ⟨c14, H⟩ := ip_ H
   have c14b0 : decide (0 < (x5_1.length : Int)) = true := decide_eq_true c14
   have c14b1 : decide (0 < x5_1.length) = true := decide_eq_true (by omega)
   (try (have c14h := c14b0; simp only [hl5_1] at c14h))
   clear c14
   obtain ⟨y115, hy115⟩ : ∃ y_ : List Int, y_ = (x5_1.set (0 : Int).toNat 0) := ⟨_, rfl⟩
   replace H : (impl_leasts.l1 k1 l0 a1 y115 true) = some r := by subst hy115; exact H
   have Ny115 := Aside0.mk hy115
   clear hy115
   have H' := Aside0.mk H
   clear H
   have p15 : 0 ≤ (0 : Int) := (by omega)
   have q15 : (0 : Int) < ((x5_1.length : Int) : Int) := od_
   have qi15 : (0 < x5_1.length) = True := eq_true (by omega)
   obtain ⟨go15, co15, eo15, gb15, gl15, cl15, HG15⟩ := Kd.R_form HO_5.out (by omega)
   (first | cases eo15 | (injection eo15 with ea_ en_ ec_; (first | subst ea_ | (injection ea_ with ea_; subst ea_)); subst ec_; clear en_))
   have GB15 := Aside0.mk gb15
   have GG15 := Aside0.mk HG15
   clear gb15 gl15 HG15
   obtain ⟨hx15_0, hf15_0⟩ := Kd.R_celln 0 HO_5.out (0 : Int) p15 q15
   (try rw [show ((0 : Int)).toNat = 0 from rfl] at hx15_0)
   (try simp only [Nat.reduceMul, Nat.zero_mul, Nat.zero_add, Nat.reduceAdd] at hx15_0)
   (try rw [show ((0 : Int)).toNat = 0 from rfl] at hf15_0)
   (try simp only [Nat.reduceMul, Nat.zero_mul, Nat.zero_add, Nat.reduceAdd] at hf15_0)
   replace p15 := eq_true p15
   replace q15 := eq_true q15
   have HP16 := Kd.R_putg HO_5.out (0 : Int) 0
   go_wp2_with (first | ((with_reducible refine gate_store (t := 3) (p := 25) rfl ?_); refine store_event (t := 3) (p := 25) (v := ?vo_w17) (w1 := (wr.setCell ⟨go15, (0 : Int).toNat, none⟩ (.int .i64 0))) ?hg ?ho ?hn ?hr ?_; (case ho => rfl); (case hg => rfl); (case hn => rfl); (case hr => first | (go_simp; done) | (go_simp; rfl)); intro w17 hw; have hg : wr.grownBy w17 (some go15) := (by rw [hw]; exact HP16.2); have hp_ : Kd.R (Kd.int .i64) 3 w17 w.heap.size (fun _ => True) (.slice (some ⟨go15, 0, none⟩) x5_1.length co7) y115 := (by rw [hw, Ny115.out]; exact HP16.1); clear HP16; replace HO_5 := Aside0.mk (hp_); replace HB := Aside0.mk ((by rw [hw]; exact below_set (HB.out) GB15.out : Below w.heap.size w w17)); clear hg hw hp_))
   go_loopg [7] k1 (fun kq v7 w' => ∃ (x5_2 : List Int) (x7_2 : Bool), v7 = .bool x7_2 ∧ Aside0 (impl_leasts.l1 kq l0 a1 x5_2 x7_2 = some r) ∧ Aside0 (kq ≤ k1) ∧ Aside0 (Kd.R (Kd.int .i64) 3 w' w.heap.size (fun _ => True) (.slice (some ⟨go15, 0, none⟩) x5_1.length co7) x5_2) ∧ Aside0 (Below w.heap.size w w'))
   case atStart => exact ⟨(y115), (true), rs_, H', ⟨Nat.le_refl _⟩, ⟨by (try simp only [hl5_1]); (with_reducible repeat (first | apply Kd.R_alloc | apply Kd.R_drewN | apply Kd.R_drew)); exact HO_5.out⟩, ⟨bl_ HB.out⟩⟩
   case round =>
    clear H'
    try clear c8b0
    try clear c14b0
    try clear c14b1
    try clear p15
    try clear q15
    try clear qi15
    try clear hx15_0
    obtain ⟨x5_2, x7_2, rfl, HA, HK2, HO_5, HB⟩ := hrel
    have hl5_2 := (Kd.R_reads' HO_5.out).1
    rw [hl5_2] at HO_5
    (try simp only [hl5_2])
    cases gk with
    | zero => exact absurd HA.out (by simp [impl_leasts.l1])
    | succ k2 =>
     have H := HA.out
     clear HA
     simp only [impl_leasts.l1] at H
     by_cases c18 : x7_2 = true
     rotate_left
     · replace c18 := Bool.eq_false_iff.mpr c18
       subst c18
       rw [if_neg (show ¬ (false = true) by decide)] at H
       obtain rfl := Option.some.inj H
       go_wp2
       go_ret
       exact ⟨_, rf_, re_ HO_5.out, bl_ HB.out⟩
     subst c18
     rw [if_pos rfl] at H
     have H' := Aside0.mk H
     clear H
     go_wp2
     go_loopg [7, 29] k2 (fun kq v7 v29 w' => ∃ (x5_3 : List Int) (x7_3 : Bool) (x29_3 : Int), v7 = .bool x7_3 ∧ v29 = .int .i64 x29_3 ∧ Aside0 (impl_leasts.l2 kq l0 a1 x5_3 x7_3 (x5_2.length : Int) x29_3 = some r) ∧ Aside0 (kq ≤ k2) ∧ Aside0 (Kd.R (Kd.int .i64) 3 w' w.heap.size (fun _ => True) (.slice (some ⟨go15, 0, none⟩) x5_2.length co7) x5_3) ∧ Aside0 (Below w.heap.size w w'))
     case atStart => exact ⟨(x5_2), (false), (0), rs_, rs_, H', ⟨Nat.le_refl _⟩, ⟨by (try simp only [hl5_1]); (try simp only [hl5_2]); (with_reducible repeat (first | apply Kd.R_alloc | apply Kd.R_drewN | apply Kd.R_drew)); exact HO_5.out⟩, ⟨bl_ HB.out⟩⟩
     case round =>
      clear H'
      obtain ⟨x5_3, x7_3, x29_3, rfl, rfl, HA, HK3, HO_5, HB⟩ := hrel
      have hl5_3 := (Kd.R_reads' HO_5.out).1
      rw [hl5_3] at HO_5
      (try simp only [hl5_3])
      cases gk with
      | zero => exact absurd HA.out (by simp [impl_leasts.l2])
      | succ k3 =>
       have H := HA.out
       clear HA
       simp only [impl_leasts.l2] at H
       by_cases c19 : x29_3 < (x5_2.length : Int)
       rotate_left
       · rw [if_neg c19] at H
         have c19b0 : decide (x29_3 < (x5_2.length : Int)) = false := decide_eq_false c19
         (try (have c19h := c19b0; simp only [hl5_1, hl5_2, hl5_3] at c19h))
         clear c19
         have H' := Aside0.mk H
         clear H
         go_wp2
         (try simp only [← hl5_2, ← hl5_3])
         go_roundg k3
         case measure => have := HK1.out; have := HK2.out; have := HK3.out; omega
         case rel => exact ⟨(x5_3), (x7_3), rs_, H', ⟨by have := HK1.out; have := HK2.out; have := HK3.out; omega⟩, ⟨by (try simp only [hl5_1]); (try simp only [hl5_2]); (try simp only [hl5_3]); (with_reducible repeat (first | apply Kd.R_alloc | apply Kd.R_drewN | apply Kd.R_drew)); exact HO_5.out⟩, ⟨bl_ HB.out⟩⟩
       rw [if_pos c19] at H
       have c19b0 : decide (x29_3 < (x5_2.length : Int)) = true := decide_eq_true c19
       (try (have c19h := c19b0; simp only [hl5_1, hl5_2, hl5_3] at c19h))
       clear c19
       obtain ⟨c20b0, H⟩ := ipd_ H
       obtain ⟨c21, H⟩ := ip_ H
       have c21b0 : decide (x29_3 < (x5_3.length : Int)) = true := decide_eq_true c21
       (try (have c21h := c21b0; simp only [hl5_1, hl5_2, hl5_3] at c21h))
       clear c21
       by_cases c22 : (rd x5_3 x29_3) < 0
       · rw [if_pos c22] at H
         have c22b0 : decide ((rd x5_3 x29_3) < 0) = true := decide_eq_true c22
         clear c22
         have H' := Aside0.mk H
         clear H
         have p116 : 0 ≤ (x29_3 : Int) := od_
         have q116 : x29_3 < (x5_3.length : Int) := od_
         obtain ⟨ad116, e116, hx116_0⟩ := Kd.at_int (Kd.R_reads' HO_5.out).2.2 x29_3 p116 q116
         obtain rfl : (⟨go15, 0, none⟩ : Addr) = ad116 := (by injection e116)
         (first | simp only [add_plain] at hx116_0 | simp only [add_at] at hx116_0 | simp only [Addr.add, Nat.zero_add] at hx116_0 | skip)
         replace p116 := eq_true p116
         replace q116 := eq_true q116
         go_wp2
         (try simp only [← hl5_3])
         go_roundg k3
         case measure => have := HK1.out; have := HK2.out; have := HK3.out; omega
         case rel => exact ⟨(x5_3), (x7_3), (wrap64 (x29_3 + 1)), rs_, rs_, H', ⟨by have := HK1.out; have := HK2.out; have := HK3.out; omega⟩, ⟨by (try simp only [hl5_1]); (try simp only [hl5_2]); (try simp only [hl5_3]); (with_reducible repeat (first | apply Kd.R_alloc | apply Kd.R_drewN | apply Kd.R_drew)); exact HO_5.out⟩, ⟨bl_ HB.out⟩⟩
       rw [if_neg c22] at H
       have c22b0 : decide ((rd x5_3 x29_3) < 0) = false := decide_eq_false c22
       clear c22
       have H' := Aside0.mk H
       clear H
       have p116 : 0 ≤ (x29_3 : Int) := od_
       have q116 : x29_3 < (x5_3.length : Int) := od_
       obtain ⟨ad116, e116, hx116_0⟩ := Kd.at_int (Kd.R_reads' HO_5.out).2.2 x29_3 p116 q116
       obtain rfl : (⟨go15, 0, none⟩ : Addr) = ad116 := (by injection e116)
       (first | simp only [add_plain] at hx116_0 | simp only [add_at] at hx116_0 | simp only [Addr.add, Nat.zero_add] at hx116_0 | skip)
       replace p116 := eq_true p116
       replace q116 := eq_true q116
       go_wp2
       go_loopg [7, 38] k3 (fun kq v7 v38 w' => ∃ (x5_4 : List Int) (x7_4 : Bool) (x38_4 : Int), v7 = .bool x7_4 ∧ v38 = .int .i64 x38_4 ∧ Aside0 (impl_leasts.l3 kq l0 a1 x5_4 x7_4 x29_3 (rd x5_3 x29_3) (x5_2.length : Int) x29_3 l0 (l0.length : Int) x38_4 = some r) ∧ Aside0 (kq ≤ k3) ∧ Aside0 (Kd.R (Kd.int .i64) 3 w' w.heap.size (fun _ => True) (.slice (some ⟨go15, 0, none⟩) x5_3.length co7) x5_4) ∧ Aside0 (Below w.heap.size w w'))
       case atStart => exact ⟨(x5_3), (x7_3), (0), rs_, rs_, H', ⟨Nat.le_refl _⟩, ⟨by (try simp only [hl5_1]); (try simp only [hl5_2]); (try simp only [hl5_3]); (with_reducible repeat (first | apply Kd.R_alloc | apply Kd.R_drewN | apply Kd.R_drew)); exact HO_5.out⟩, ⟨bl_ HB.out⟩⟩
       case round =>
        clear H'
        try clear c19b0
        try clear c20b0
        try clear c21b0
        try clear c22b0
        try clear hx116_0
        try clear p116
        try clear q116
        obtain ⟨x5_4, x7_4, x38_4, rfl, rfl, HA, HK4, HO_5, HB⟩ := hrel
        have hl5_4 := (Kd.R_reads' HO_5.out).1
        rw [hl5_4] at HO_5
        (try simp only [hl5_4])
        cases gk with
        | zero => exact absurd HA.out (by simp [impl_leasts.l3])
        | succ k4 =>
         have H := HA.out
         clear HA
         simp only [impl_leasts.l3] at H
         by_cases c23 : x38_4 < (l0.length : Int)
         rotate_left
         · rw [if_neg c23] at H
           have c23b0 : decide (x38_4 < (l0.length : Int)) = false := decide_eq_false c23
           (try (have c23h := c23b0; simp only [hl5_1, hl5_2, hl5_3, hl5_4] at c23h))
           clear c23
           have H' := Aside0.mk H
           clear H
           go_wp2
           (try simp only [← hl5_3, ← hl5_4])
           go_roundg k4
           case measure => have := HK1.out; have := HK2.out; have := HK3.out; have := HK4.out; omega
           case rel => exact ⟨(x5_4), (x7_4), (wrap64 (x29_3 + 1)), rs_, rs_, H', ⟨by have := HK1.out; have := HK2.out; have := HK3.out; have := HK4.out; omega⟩, ⟨by (try simp only [hl5_1]); (try simp only [hl5_2]); (try simp only [hl5_3]); (try simp only [hl5_4]); (with_reducible repeat (first | apply Kd.R_alloc | apply Kd.R_drewN | apply Kd.R_drew)); exact HO_5.out⟩, ⟨bl_ HB.out⟩⟩
         rw [if_pos c23] at H
         have c23b0 : decide (x38_4 < (l0.length : Int)) = true := decide_eq_true c23
         (try (have c23h := c23b0; simp only [hl5_1, hl5_2, hl5_3, hl5_4] at c23h))
         clear c23
         obtain ⟨c24b0, H⟩ := ipd_ H
         obtain ⟨c25, H⟩ := ip_ H
         have c25b0 : decide (x38_4 < (l0.length : Int)) = true := decide_eq_true c25
         (try (have c25h := c25b0; simp only [hl5_1, hl5_2, hl5_3, hl5_4] at c25h))
         clear c25
         obtain ⟨c26, H⟩ := in_ H
         have c26b0 : (a1 == 0) = false := beq_eq_false_iff_ne.mpr c26
         have c26b1 : (a1 != 0) = true := bne_iff_ne.mpr c26
         obtain ⟨ji27, hji27⟩ : ∃ j_ : Int, (Int.tmod (wrap64 (x29_3 + (rd l0 x38_4))) a1) = j_ := ⟨_, rfl⟩
         replace H : (if 0 ≤ (ji27) then (if (ji27) < (x5_4.length : Int) then (if (rd x5_4 (ji27)) < 0 then (impl_leasts.l3 k4 l0 a1 (x5_4.set ((ji27) : Int).toNat (wrap64 ((rd x5_3 x29_3) + (rd l0 x38_4)))) true x29_3 (rd x5_3 x29_3) (x5_2.length : Int) x29_3 l0 (l0.length : Int) (wrap64 (x38_4 + 1))) else (if (wrap64 ((rd x5_3 x29_3) + (rd l0 x38_4))) < (rd x5_4 (ji27)) then (impl_leasts.l3 k4 l0 a1 (x5_4.set ((ji27) : Int).toNat (wrap64 ((rd x5_3 x29_3) + (rd l0 x38_4)))) true x29_3 (rd x5_3 x29_3) (x5_2.length : Int) x29_3 l0 (l0.length : Int) (wrap64 (x38_4 + 1))) else (impl_leasts.l3 k4 l0 a1 x5_4 x7_4 x29_3 (rd x5_3 x29_3) (x5_2.length : Int) x29_3 l0 (l0.length : Int) (wrap64 (x38_4 + 1))))) else (none)) else (none)) = some r := by first | (rw [hji27] at H; exact H) | (simp only [hji27] at H ⊢; exact H)
         obtain ⟨c28b0, H⟩ := ipd_ H
         obtain ⟨c29, H⟩ := ip_ H
         have c29b0 : decide ((ji27) < (x5_4.length : Int)) = true := decide_eq_true c29
         (try (have c29h := c29b0; simp only [hl5_1, hl5_2, hl5_3, hl5_4] at c29h))
         clear c29
         by_cases c30 : (rd x5_4 (ji27)) < 0
         · rw [if_pos c30] at H
           have c30b0 : decide ((rd x5_4 (ji27)) < 0) = true := decide_eq_true c30
           clear c30
           obtain ⟨y119, hy119⟩ : ∃ y_ : List Int, y_ = (x5_4.set ((ji27) : Int).toNat (wrap64 ((rd x5_3 x29_3) + (rd l0 x38_4)))) := ⟨_, rfl⟩
           replace H : (impl_leasts.l3 k4 l0 a1 y119 true x29_3 (rd x5_3 x29_3) (x5_2.length : Int) x29_3 l0 (l0.length : Int) (wrap64 (x38_4 + 1))) = some r := by subst hy119; exact H
           have Ny119 := Aside0.mk hy119
           clear hy119
           have H' := Aside0.mk H
           clear H
           have p117 : 0 ≤ (x38_4 : Int) := od_
           have q117 : x38_4 < (l0.length : Int) := od_
           obtain ⟨ad117, e117, hx117_0⟩ := Kd.at_int HR0.out x38_4 p117 q117
           cases e117
           (try replace hx117_0 := (HB.out.cell (World.block_lt_of_cell? w _ hx117_0)).trans hx117_0)
           replace p117 := eq_true p117
           replace q117 := eq_true q117
           have p118 : 0 ≤ ((ji27) : Int) := od_
           have q118 : (ji27) < (x5_4.length : Int) := od_
           obtain ⟨ad118, e118, hx118_0⟩ := Kd.at_int (Kd.R_reads' HO_5.out).2.2 (ji27) p118 q118
           obtain rfl : (⟨go15, 0, none⟩ : Addr) = ad118 := (by injection e118)
           (first | simp only [add_plain] at hx118_0 | simp only [add_at] at hx118_0 | simp only [Addr.add, Nat.zero_add] at hx118_0 | skip)
           replace p118 := eq_true p118
           replace q118 := eq_true q118
           have p31 : 0 ≤ ((ji27) : Int) := od_
           have q31 : ((ji27) : Int) < ((x5_4.length : Int) : Int) := od_
           obtain ⟨hx31_0, hf31_0⟩ := Kd.R_celln 0 HO_5.out ((ji27) : Int) p31 q31
           replace p31 := eq_true p31
           replace q31 := eq_true q31
           have HP32 := Kd.R_putg HO_5.out ((ji27) : Int) (wrap64 ((rd x5_3 x29_3) + (rd l0 x38_4)))
           go_wp2_with (first | ((with_reducible refine gate_store (t := 3) (p := 67) rfl ?_); refine store_event (t := 3) (p := 67) (v := ?vo_w33) (w1 := (wr.setCell ⟨go15, ((ji27) : Int).toNat, none⟩ (.int .i64 (wrap64 ((rd x5_3 x29_3) + (rd l0 x38_4)))))) ?hg ?ho ?hn ?hr ?_; (case ho => rfl); (case hg => rfl); (case hn => rfl); (case hr => first | (go_simp; done) | (go_simp; rfl)); intro w33 hw; have hg : wr.grownBy w33 (some go15) := (by rw [hw]; exact HP32.2); have hp_ : Kd.R (Kd.int .i64) 3 w33 w.heap.size (fun _ => True) (.slice (some ⟨go15, 0, none⟩) x5_4.length co7) y119 := (by rw [hw, Ny119.out]; exact HP32.1); clear HP32; replace HO_5 := Aside0.mk (hp_); replace HB := Aside0.mk ((by rw [hw]; exact below_set (HB.out) GB15.out : Below w.heap.size w w33)); clear hg hw hp_))
           (try simp only [← hl5_4])
           go_roundg k4
           case measure => have := HK1.out; have := HK2.out; have := HK3.out; have := HK4.out; omega
           case rel => exact ⟨(y119), (true), (wrap64 (x38_4 + 1)), rs_, rs_, H', ⟨by have := HK1.out; have := HK2.out; have := HK3.out; have := HK4.out; omega⟩, ⟨by (try simp only [hl5_1]); (try simp only [hl5_2]); (try simp only [hl5_3]); (try simp only [hl5_4]); (with_reducible repeat (first | apply Kd.R_alloc | apply Kd.R_drewN | apply Kd.R_drew)); exact HO_5.out⟩, ⟨bl_ HB.out⟩⟩
         rw [if_neg c30] at H
         have c30b0 : decide ((rd x5_4 (ji27)) < 0) = false := decide_eq_false c30
         clear c30
         by_cases c34 : (wrap64 ((rd x5_3 x29_3) + (rd l0 x38_4))) < (rd x5_4 (ji27))
         rotate_left
         · rw [if_neg c34] at H
           have c34b0 : decide ((wrap64 ((rd x5_3 x29_3) + (rd l0 x38_4))) < (rd x5_4 (ji27))) = false := decide_eq_false c34
           clear c34
           have H' := Aside0.mk H
           clear H
           have p117 : 0 ≤ (x38_4 : Int) := od_
           have q117 : x38_4 < (l0.length : Int) := od_
           obtain ⟨ad117, e117, hx117_0⟩ := Kd.at_int HR0.out x38_4 p117 q117
           cases e117
           (try replace hx117_0 := (HB.out.cell (World.block_lt_of_cell? w _ hx117_0)).trans hx117_0)
           replace p117 := eq_true p117
           replace q117 := eq_true q117
           have p118 : 0 ≤ ((ji27) : Int) := od_
           have q118 : (ji27) < (x5_4.length : Int) := od_
           obtain ⟨ad118, e118, hx118_0⟩ := Kd.at_int (Kd.R_reads' HO_5.out).2.2 (ji27) p118 q118
           obtain rfl : (⟨go15, 0, none⟩ : Addr) = ad118 := (by injection e118)
           (first | simp only [add_plain] at hx118_0 | simp only [add_at] at hx118_0 | simp only [Addr.add, Nat.zero_add] at hx118_0 | skip)
           replace p118 := eq_true p118
           replace q118 := eq_true q118
           have p120 : 0 ≤ ((ji27) : Int) := od_
           have q120 : (ji27) < (x5_4.length : Int) := od_
           obtain ⟨ad120, e120, hx120_0⟩ := Kd.at_int (Kd.R_reads' HO_5.out).2.2 (ji27) p120 q120
           obtain rfl : (⟨go15, 0, none⟩ : Addr) = ad120 := (by injection e120)
           (first | simp only [add_plain] at hx120_0 | simp only [add_at] at hx120_0 | simp only [Addr.add, Nat.zero_add] at hx120_0 | skip)
           replace p120 := eq_true p120
           replace q120 := eq_true q120
           go_wp2
           (try simp only [← hl5_4])
           go_roundg k4
           case measure => have := HK1.out; have := HK2.out; have := HK3.out; have := HK4.out; omega
           case rel => exact ⟨(x5_4), (x7_4), (wrap64 (x38_4 + 1)), rs_, rs_, H', ⟨by have := HK1.out; have := HK2.out; have := HK3.out; have := HK4.out; omega⟩, ⟨by (try simp only [hl5_1]); (try simp only [hl5_2]); (try simp only [hl5_3]); (try simp only [hl5_4]); (with_reducible repeat (first | apply Kd.R_alloc | apply Kd.R_drewN | apply Kd.R_drew)); exact HO_5.out⟩, ⟨bl_ HB.out⟩⟩
         rw [if_pos c34] at H
         have c34b0 : decide ((wrap64 ((rd x5_3 x29_3) + (rd l0 x38_4))) < (rd x5_4 (ji27))) = true := decide_eq_true c34
         clear c34
         obtain ⟨y121, hy121⟩ : ∃ y_ : List Int, y_ = (x5_4.set ((ji27) : Int).toNat (wrap64 ((rd x5_3 x29_3) + (rd l0 x38_4)))) := ⟨_, rfl⟩
         replace H : (impl_leasts.l3 k4 l0 a1 y121 true x29_3 (rd x5_3 x29_3) (x5_2.length : Int) x29_3 l0 (l0.length : Int) (wrap64 (x38_4 + 1))) = some r := by subst hy121; exact H
         have Ny121 := Aside0.mk hy121
         clear hy121
         have H' := Aside0.mk H
         clear H
         have p117 : 0 ≤ (x38_4 : Int) := od_
         have q117 : x38_4 < (l0.length : Int) := od_
         obtain ⟨ad117, e117, hx117_0⟩ := Kd.at_int HR0.out x38_4 p117 q117
         cases e117
         (try replace hx117_0 := (HB.out.cell (World.block_lt_of_cell? w _ hx117_0)).trans hx117_0)
         replace p117 := eq_true p117
         replace q117 := eq_true q117
         have p118 : 0 ≤ ((ji27) : Int) := od_
         have q118 : (ji27) < (x5_4.length : Int) := od_
         obtain ⟨ad118, e118, hx118_0⟩ := Kd.at_int (Kd.R_reads' HO_5.out).2.2 (ji27) p118 q118
         obtain rfl : (⟨go15, 0, none⟩ : Addr) = ad118 := (by injection e118)
         (first | simp only [add_plain] at hx118_0 | simp only [add_at] at hx118_0 | simp only [Addr.add, Nat.zero_add] at hx118_0 | skip)
         replace p118 := eq_true p118
         replace q118 := eq_true q118
         have p120 : 0 ≤ ((ji27) : Int) := od_
         have q120 : (ji27) < (x5_4.length : Int) := od_
         obtain ⟨ad120, e120, hx120_0⟩ := Kd.at_int (Kd.R_reads' HO_5.out).2.2 (ji27) p120 q120
         obtain rfl : (⟨go15, 0, none⟩ : Addr) = ad120 := (by injection e120)
         (first | simp only [add_plain] at hx120_0 | simp only [add_at] at hx120_0 | simp only [Addr.add, Nat.zero_add] at hx120_0 | skip)
         replace p120 := eq_true p120
         replace q120 := eq_true q120
         have p35 : 0 ≤ ((ji27) : Int) := od_
         have q35 : ((ji27) : Int) < ((x5_4.length : Int) : Int) := od_
         obtain ⟨hx35_0, hf35_0⟩ := Kd.R_celln 0 HO_5.out ((ji27) : Int) p35 q35
         replace p35 := eq_true p35
         replace q35 := eq_true q35
         have HP36 := Kd.R_putg HO_5.out ((ji27) : Int) (wrap64 ((rd x5_3 x29_3) + (rd l0 x38_4)))
         go_wp2_with (first | ((with_reducible refine gate_store (t := 3) (p := 67) rfl ?_); refine store_event (t := 3) (p := 67) (v := ?vo_w37) (w1 := (wr.setCell ⟨go15, ((ji27) : Int).toNat, none⟩ (.int .i64 (wrap64 ((rd x5_3 x29_3) + (rd l0 x38_4)))))) ?hg ?ho ?hn ?hr ?_; (case ho => rfl); (case hg => rfl); (case hn => rfl); (case hr => first | (go_simp; done) | (go_simp; rfl)); intro w37 hw; have hg : wr.grownBy w37 (some go15) := (by rw [hw]; exact HP36.2); have hp_ : Kd.R (Kd.int .i64) 3 w37 w.heap.size (fun _ => True) (.slice (some ⟨go15, 0, none⟩) x5_4.length co7) y121 := (by rw [hw, Ny121.out]; exact HP36.1); clear HP36; replace HO_5 := Aside0.mk (hp_); replace HB := Aside0.mk ((by rw [hw]; exact below_set (HB.out) GB15.out : Below w.heap.size w w37)); clear hg hw hp_))
         (try simp only [← hl5_4])
         go_roundg k4
         case measure => have := HK1.out; have := HK2.out; have := HK3.out; have := HK4.out; omega
         case rel => exact ⟨(y121), (true), (wrap64 (x38_4 + 1)), rs_, rs_, H', ⟨by have := HK1.out; have := HK2.out; have := HK3.out; have := HK4.out; omega⟩, ⟨by (try simp only [hl5_1]); (try simp only [hl5_2]); (try simp only [hl5_3]); (try simp only [hl5_4]); (with_reducible repeat (first | apply Kd.R_alloc | apply Kd.R_drewN | apply Kd.R_drew)); exact HO_5.out⟩, ⟨bl_ HB.out⟩⟩
def impl_usable.f (k : Nat) (l0 : List Int) : Option (Bool) := (impl_within.f (l0.length : Int) 1 20).bind fun t122 => (if t122 = true then ((impl_allWithin.f k l0 1 60).bind fun t123 => (some t123)) else (some false))
theorem impl_usable.calls (k : Nat) (A0 : Option Addr) (c0 : Nat) (l0 : List Int) (r : Bool) (w : World) (hr0 : Kd.C (Kd.int .i64) w A0 l0.length l0) (hc0 : l0.length ≤ c0) (h : impl_usable.f k l0 = some r) :
 Calls Try.prog 86 #[.slice A0 l0.length c0] w fun e w' => e = .returned (.bool r) ∧ Drawn0 w w' := by
 have HR0 := Aside0.mk hr0
 have HC0 := Aside0.mk hc0
 clear hr0 hc0
 have H := h
 clear h
 unfold impl_usable.f at H
 obtain ⟨t122, A2, H⟩ := ob_ H
 by_cases c3 : t122 = true
 rotate_left
 · replace c3 := Bool.eq_false_iff.mpr c3
   subst c3
   rw [if_neg (show ¬ (false = true) by decide)] at H
   obtain rfl := Option.some.inj H
   go_enter Try.func86, Try.ntmps86
   go_wp2_with (first | ((with_reducible refine gate_callee (f := 40) rfl ?_); refine gL_ (some 5) Try.func40 #[.int .i64 (l0.length : Int), .int .i64 1, .int .i64 20] ?_; (with_reducible refine (impl_within.calls (l0.length : Int) 1 20 false _ A2.out).mono ?_); rintro e w' ⟨rfl, ⟨nd, rfl⟩⟩; refine ⟨_, rfl, ?_⟩))
   go_ret
   exact ⟨by first | rfl | (simp; done) | (simp [*]; done), by repeat (first | exact Drawn0.refl _ | apply Drawn0.step)⟩
 subst c3
 rw [if_pos rfl] at H
 obtain ⟨t123, A4, H⟩ := ob_ H
 obtain rfl := Option.some.inj H
 go_enter Try.func86, Try.ntmps86
 go_wp2_with (first | ((with_reducible refine gate_callee (f := 40) rfl ?_); refine gL_ (some 5) Try.func40 #[.int .i64 (l0.length : Int), .int .i64 1, .int .i64 20] ?_; (with_reducible refine (impl_within.calls (l0.length : Int) 1 20 true _ A2.out).mono ?_); rintro e w' ⟨rfl, ⟨nd, rfl⟩⟩; refine ⟨_, rfl, ?_⟩) | (go_at_call 55; (with_reducible refine (impl_allWithin.calls k _ _ l0 1 60 t123 _ ?side1 ?side2 A4.out).mono ?_); (case side1 => exact ce_ (HR0.out)); (case side2 => exact HC0.out); rintro e w' ⟨rfl, ⟨nd, rfl⟩⟩))
 go_ret
 exact ⟨by first | rfl | (simp; done) | (simp [*]; done), by repeat (first | exact Drawn0.refl _ | apply Drawn0.step)⟩
def impl_Generates.f (k : Nat) (l0 : List Int) (a1 : Int) : Option (Bool) := (impl_usable.f k l0).bind fun t124 => (if t124 = true then ((impl_within.f a1 0 1000000).bind fun t125 => (if t125 = true then (if 0 < (l0.length : Int) then ((impl_leasts.f k l0 (rd l0 0)).bind fun t127 => (if (rd l0 0) = 0 then (none) else (if 0 ≤ (Int.tmod a1 (rd l0 0)) then (if (Int.tmod a1 (rd l0 0)) < (t127.length : Int) then (if (rd t127 (Int.tmod a1 (rd l0 0))) ≥ 0 then (some (decide ((rd t127 (Int.tmod a1 (rd l0 0))) ≤ a1))) else (some false)) else (none)) else (none)))) else (none)) else (some false))) else (some false))
def impl_Generates.T3 : Bool × List (List Nat × List Nat) := (true, [([], []), ([], []), ([1], [1]), ([2], [2]), ([0, 3], [0, 3]), ([], []), ([], []), ([6], [6]), ([7], [7]), ([5, 8], [5, 8]), ([4, 9], [4, 9]), ([10], [10]), ([11, 4, 0, 1, 2, 3, 4, 5, 6, 7, 8, 9, 10, 11], [11])])
def impl_Generates.B3 : List Nat := [0, 0, 2, 6, 15, 0, 0, 64, 192, 480, 1023, 2047, 4095]
theorem impl_Generates.tab3 : rtab .any (opsOf Try.f58 3) = impl_Generates.T3 := by kernel_rfl
theorem impl_Generates.bits3 : waitsOk impl_Generates.T3.2 impl_Generates.B3 = true := by kernel_rfl
theorem impl_Generates.calls (k : Nat) (A0 : Option Addr) (c0 : Nat) (l0 : List Int) (a1 : Int) (r : Bool) (w : World) (hr0 : Kd.C (Kd.int .i64) w A0 l0.length l0) (hc0 : l0.length ≤ c0) (h : impl_Generates.f k l0 a1 = some r) :
 Calls Try.prog 58 #[.slice A0 l0.length c0, .int .i64 a1] w fun e w' => e = .returned (.bool r) ∧ Below w.heap.size w w' := by
 have HR0 := Aside0.mk hr0
 have HC0 := Aside0.mk hc0
 clear hr0 hc0
 have HB := Aside0.mk (Below.refl w.heap.size w)
 have H := h
 clear h
 unfold impl_Generates.f at H
 obtain ⟨t124, A3, H⟩ := ob_ H
 by_cases c4 : t124 = true
 rotate_left
 · replace c4 := Bool.eq_false_iff.mpr c4
   subst c4
   rw [if_neg (show ¬ (false = true) by decide)] at H
   obtain rfl := Option.some.inj H
   go_enter Try.func58, Try.ntmps58
   go_wp2_with (first | ((with_reducible refine gate_callee (f := 86) rfl ?_); refine gL_ (some 7) Try.func86 #[.slice A0 l0.length c0] ?_; (with_reducible refine (impl_usable.calls k _ _ l0 false _ ?side1 ?side2 A3.out).mono ?_); (case side1 => exact ce_ (HR0.out)); (case side2 => exact HC0.out); rintro e w' ⟨rfl, ⟨nd, rfl⟩⟩; refine ⟨_, rfl, ?_⟩))
   go_ret
   exact ⟨rf_, bl_ HB.out⟩
 subst c4
 rw [if_pos rfl] at H
 obtain ⟨t125, A5, H⟩ := ob_ H
 by_cases c6 : t125 = true
 rotate_left
 · replace c6 := Bool.eq_false_iff.mpr c6
   subst c6
   rw [if_neg (show ¬ (false = true) by decide)] at H
   obtain rfl := Option.some.inj H
   go_enter Try.func58, Try.ntmps58
   go_wp2_with (first | ((with_reducible refine gate_callee (f := 86) rfl ?_); refine gL_ (some 7) Try.func86 #[.slice A0 l0.length c0] ?_; (with_reducible refine (impl_usable.calls k _ _ l0 true _ ?side1 ?side2 A3.out).mono ?_); (case side1 => exact ce_ (HR0.out)); (case side2 => exact HC0.out); rintro e w' ⟨rfl, ⟨nd, rfl⟩⟩; refine ⟨_, rfl, ?_⟩) | (go_at_call 40; (with_reducible refine (impl_within.calls a1 0 1000000 false _ A5.out).mono ?_); rintro e w' ⟨rfl, ⟨nd, rfl⟩⟩))
   go_ret
   exact ⟨rf_, bl_ HB.out⟩
 subst c6
 rw [if_pos rfl] at H
 obtain ⟨c7, H⟩ := ip_ H
 have c7b0 : decide (0 < (l0.length : Int)) = true := decide_eq_true c7
 have c7b1 : decide (0 < l0.length) = true := decide_eq_true (by omega)
 clear c7
 obtain ⟨t127, A8, H⟩ := ob_ H
 obtain ⟨c9, H⟩ := in_ H
 have c9b0 : ((rd l0 0) == 0) = false := beq_eq_false_iff_ne.mpr c9
 have c9b1 : ((rd l0 0) != 0) = true := bne_iff_ne.mpr c9
 obtain ⟨ji10, hji10⟩ : ∃ j_ : Int, (Int.tmod a1 (rd l0 0)) = j_ := ⟨_, rfl⟩
 replace H : (if 0 ≤ (ji10) then (if (ji10) < (t127.length : Int) then (if (rd t127 (ji10)) ≥ 0 then (some (decide ((rd t127 (ji10)) ≤ a1))) else (some false)) else (none)) else (none)) = some r := by first | (rw [hji10] at H; exact H) | (simp only [hji10] at H ⊢; exact H)
 (try rw [hji10] at A3)
 (try rw [hji10] at A5)
 (try rw [hji10] at A8)
 obtain ⟨c11b0, H⟩ := ipd_ H
 obtain ⟨c12b0, H⟩ := ipd_ H
 by_cases c13 : (rd t127 (ji10)) ≥ 0
 rotate_left
 · rw [if_neg c13] at H
   have c13b0 : decide (0 ≤ (rd t127 (ji10))) = false := decide_eq_false c13
   clear c13
   obtain rfl := Option.some.inj H
   go_enter Try.func58, Try.ntmps58
   try go_wp2_with (first | ((with_reducible refine gate_callee (f := 86) rfl ?_); refine gL_ (some 7) Try.func86 #[.slice A0 l0.length c0] ?_; (with_reducible refine (impl_usable.calls k _ _ l0 true _ ?side1 ?side2 A3.out).mono ?_); (case side1 => exact ce_ (HR0.out)); (case side2 => exact HC0.out); rintro e w' ⟨rfl, ⟨nd, rfl⟩⟩; refine ⟨_, rfl, ?_⟩) | (go_at_call 40; (with_reducible refine (impl_within.calls a1 0 1000000 true _ A5.out).mono ?_); rintro e w' ⟨rfl, ⟨nd, rfl⟩⟩))
   replace HB := Aside0.mk (below_drew1 HB.out)
   have p126 : 0 ≤ (0 : Int) := (by omega)
   have q126 : 0 < (l0.length : Int) := od_
   obtain ⟨ad126, e126, hx126_0⟩ := Kd.at_int HR0.out 0 p126 q126
   have hw126_0 := hx126_0
   (try rw [show ((0 : Int)).toNat = 0 from rfl] at hw126_0)
   (try rw [show 0 * 1 = 0 from rfl] at hw126_0)
   (try rw [Addr.add_zero'] at hw126_0)
   cases e126
   have qi126 : (0 < l0.length) = True := eq_true (by omega)
   (try rw [show ((0 : Int)).toNat = 0 from rfl] at hx126_0)
   (try rw [Addr.add_zero'] at hx126_0)
   (try replace hx126_0 := (HB.out.cell (World.block_lt_of_cell? w _ hx126_0)).trans hx126_0)
   replace p126 := eq_true p126
   replace q126 := eq_true q126
   have p130 : 0 ≤ (0 : Int) := (by omega)
   have q130 : 0 < (l0.length : Int) := od_
   obtain ⟨ad130, e130, hx130_0⟩ := Kd.at_int HR0.out 0 p130 q130
   have hw130_0 := hx130_0
   (try rw [show ((0 : Int)).toNat = 0 from rfl] at hw130_0)
   (try rw [show 0 * 1 = 0 from rfl] at hw130_0)
   (try rw [Addr.add_zero'] at hw130_0)
   obtain rfl : ad126 = ad130 := (by injection e130)
   have qi130 : (0 < l0.length) = True := eq_true (by omega)
   (try rw [show ((0 : Int)).toNat = 0 from rfl] at hx130_0)
   (try rw [Addr.add_zero'] at hx130_0)
   (try replace hx130_0 := (HB.out.cell (World.block_lt_of_cell? w _ hx130_0)).trans hx130_0)
   replace p130 := eq_true p130
   replace q130 := eq_true q130
   refine start_ (n := 13) (S := fun w' => w'.cell? ad126 = some (.int .i64 (rd l0 0)) ∧ w'.cell? ad126 = some (.int .i64 (rd l0 0)) ∧ True) (ds := []) (B_ 0 13) (by kernel_rfl) rfl rfl ⟨((HB.out.cell (World.block_lt_of_cell? w _ hw126_0)).trans hw126_0), ((HB.out.cell (World.block_lt_of_cell? w _ hw130_0)).trans hw130_0), trivial⟩ (fun hHeld => ?_); refine with_tabW impl_Generates.tab3 impl_Generates.bits3 (fun HT_ HW_ => ?_)
   (first | (generalize hq_ : World.drew (World.drewN w _) = w17 at hHeld ⊢; have HBq_ : Aside0 (Below w.heap.size w w17) := ⟨hq_ ▸ (below_drew1 (pw_below_drewN (Below.refl w.heap.size w) _))⟩; clear hq_ HB; have HB := HBq_; clear HBq_; replace hx126_0 := (HB.out.cell (World.block_lt_of_cell? w _ hw126_0)).trans hw126_0; replace hx130_0 := (HB.out.cell (World.block_lt_of_cell? w _ hw130_0)).trans hw130_0) | (generalize w.drew = w17 at HB hx126_0 hx130_0 hHeld ⊢))
   refine pu_ HT_ 0 14 (B_ 1 13) ?_
   refine pu_ HT_ 1 15 (B_ 3 13) ?_
   refine pu_ HT_ 2 16 (B_ 7 13) ?_
   refine pu_ HT_ 5 19 (B_ 39 13) ?_
   refine pu_ HT_ 6 20 (B_ 103 13) ?_
   refine pu_ HT_ 7 21 (B_ 231 13) ?_
   refine tk3_ HT_ HW_ hHeld 3 17 (B_ 239 13) ?_
   refine tk3_ HT_ HW_ hHeld 8 22 (B_ 495 13) ?_
   refine pu_ HT_ 9 23 (B_ 1007 13) ?_
   refine on_ HT_ 4 18 (B_ 1023 13) (fun K hK => ?_)
   refine goes_ Try.func59 (by kernel_rfl) rfl #[.slice (some ad126) l0.length c0, .int .i64 (rd l0 0)] (by rfl) rfl rfl (by (try simp only [List.map_toArray, List.map_cons, List.map_nil]); first | done | rfl | (simp only [List.length_drop, List.length_take]; rfl)) ?_
   with_reducible refine (impl_leasts.calls k _ _ l0 (rd l0 0) t127 _ ?side1 ?side2 A8.out).mono ?_
   (case side1 => exact ch_ HR0 HB)
   (case side2 => exact HC0.out)
   rintro e w18 ⟨v128, rfl, ho0, hb⟩
   refine ⟨_, rfl, ?_⟩
   have HO129 := Aside0.mk (Kd.R_lower ho0 (below_size (bl_ HB.out)))
   replace HB := bo_ HB hb
   (try clear hb)
   (try clear ho0)
   obtain ⟨Ao19, co19, eo19⟩ := Kd.R_slice HO129.out
   (first | subst eo19 | (injection eo19 with f1_ f2_ f3_; have f4_ := f1_.symm; have f5_ := f3_.symm; clear f1_ f2_ f3_; subst f4_; subst f5_))
   have p131 : 0 ≤ ((ji10) : Int) := od_
   have q131 : (ji10) < (t127.length : Int) := od_
   obtain ⟨ad131, e131, hx131_0⟩ := Kd.at_int (Kd.R_reads' HO129.out).2.2 (ji10) p131 q131
   cases e131
   replace p131 := eq_true p131
   replace q131 := eq_true q131
   refine hK.out _ _ ⟨((HB.out.cell (World.block_lt_of_cell? w _ hw126_0)).trans hw126_0), ((HB.out.cell (World.block_lt_of_cell? w _ hw130_0)).trans hw130_0), trivial⟩ (fun _ => ?_); refine restart_ (S' := fun w' => w'.cell? ad126 = some (.int .i64 (rd l0 0)) ∧ w'.cell? ad126 = some (.int .i64 (rd l0 0)) ∧ w'.cell? (ad131.add ((ji10)).toNat) = some (.int .i64 (rd t127 (ji10)))) (fun _ h => ⟨h.1, h.2.1, trivial⟩) ⟨((HB.out.cell (World.block_lt_of_cell? w _ hw126_0)).trans hw126_0), ((HB.out.cell (World.block_lt_of_cell? w _ hw130_0)).trans hw130_0), hx131_0⟩ (fun hHeld => ?_)
   clear hK K
   refine norm_ (a' := ?_) ?_ ?_
   rotate_left
   · show Act.put _ (some 18) _ = _
     simp only [Act.put, z1_, z2_, z3_, i64_w, i32_w]
     rfl
   refine pu_ HT_ 10 24 (B_ 2047 13) ?_
   refine tk3_ HT_ HW_ hHeld 11 25 (B_ 4095 13) ?_
   refine pu_ HT_ 12 5 (B_ 8191 13) ?_
   refine done_ (done_of HT_.out (by kernel_rfl)) ?_
   try go_wp2
   go_ret
   exact ⟨by first | rfl | (simp [errW_none, errW_some] <;> rfl) | (simp only [← hji10]; first | rfl | (simp [errW_none, errW_some] <;> rfl)) | (simp [*, errW_none, errW_some] <;> rfl), bl_ HB.out⟩
 rw [if_pos c13] at H
 have c13b0 : decide (0 ≤ (rd t127 (ji10))) = true := decide_eq_true c13
 clear c13
 obtain rfl := Option.some.inj H
 go_enter Try.func58, Try.ntmps58
 try go_wp2_with (first | ((with_reducible refine gate_callee (f := 86) rfl ?_); refine gL_ (some 7) Try.func86 #[.slice A0 l0.length c0] ?_; (with_reducible refine (impl_usable.calls k _ _ l0 true _ ?side1 ?side2 A3.out).mono ?_); (case side1 => exact ce_ (HR0.out)); (case side2 => exact HC0.out); rintro e w' ⟨rfl, ⟨nd, rfl⟩⟩; refine ⟨_, rfl, ?_⟩) | (go_at_call 40; (with_reducible refine (impl_within.calls a1 0 1000000 true _ A5.out).mono ?_); rintro e w' ⟨rfl, ⟨nd, rfl⟩⟩))
 replace HB := Aside0.mk (below_drew1 HB.out)
 have p126 : 0 ≤ (0 : Int) := (by omega)
 have q126 : 0 < (l0.length : Int) := od_
 obtain ⟨ad126, e126, hx126_0⟩ := Kd.at_int HR0.out 0 p126 q126
 have hw126_0 := hx126_0
 (try rw [show ((0 : Int)).toNat = 0 from rfl] at hw126_0)
 (try rw [show 0 * 1 = 0 from rfl] at hw126_0)
 (try rw [Addr.add_zero'] at hw126_0)
 cases e126
 have qi126 : (0 < l0.length) = True := eq_true (by omega)
 (try rw [show ((0 : Int)).toNat = 0 from rfl] at hx126_0)
 (try rw [Addr.add_zero'] at hx126_0)
 (try replace hx126_0 := (HB.out.cell (World.block_lt_of_cell? w _ hx126_0)).trans hx126_0)
 replace p126 := eq_true p126
 replace q126 := eq_true q126
 have p130 : 0 ≤ (0 : Int) := (by omega)
 have q130 : 0 < (l0.length : Int) := od_
 obtain ⟨ad130, e130, hx130_0⟩ := Kd.at_int HR0.out 0 p130 q130
 have hw130_0 := hx130_0
 (try rw [show ((0 : Int)).toNat = 0 from rfl] at hw130_0)
 (try rw [show 0 * 1 = 0 from rfl] at hw130_0)
 (try rw [Addr.add_zero'] at hw130_0)
 obtain rfl : ad126 = ad130 := (by injection e130)
 have qi130 : (0 < l0.length) = True := eq_true (by omega)
 (try rw [show ((0 : Int)).toNat = 0 from rfl] at hx130_0)
 (try rw [Addr.add_zero'] at hx130_0)
 (try replace hx130_0 := (HB.out.cell (World.block_lt_of_cell? w _ hx130_0)).trans hx130_0)
 replace p130 := eq_true p130
 replace q130 := eq_true q130
 refine start_ (n := 13) (S := fun w' => w'.cell? ad126 = some (.int .i64 (rd l0 0)) ∧ w'.cell? ad126 = some (.int .i64 (rd l0 0)) ∧ True) (ds := []) (B_ 0 13) (by kernel_rfl) rfl rfl ⟨((HB.out.cell (World.block_lt_of_cell? w _ hw126_0)).trans hw126_0), ((HB.out.cell (World.block_lt_of_cell? w _ hw130_0)).trans hw130_0), trivial⟩ (fun hHeld => ?_); refine with_tabW impl_Generates.tab3 impl_Generates.bits3 (fun HT_ HW_ => ?_)
 (first | (generalize hq_ : World.drew (World.drewN w _) = w14 at hHeld ⊢; have HBq_ : Aside0 (Below w.heap.size w w14) := ⟨hq_ ▸ (below_drew1 (pw_below_drewN (Below.refl w.heap.size w) _))⟩; clear hq_ HB; have HB := HBq_; clear HBq_; replace hx126_0 := (HB.out.cell (World.block_lt_of_cell? w _ hw126_0)).trans hw126_0; replace hx130_0 := (HB.out.cell (World.block_lt_of_cell? w _ hw130_0)).trans hw130_0) | (generalize w.drew = w14 at HB hx126_0 hx130_0 hHeld ⊢))
 refine pu_ HT_ 0 14 (B_ 1 13) ?_
 refine pu_ HT_ 1 15 (B_ 3 13) ?_
 refine pu_ HT_ 2 16 (B_ 7 13) ?_
 refine pu_ HT_ 5 19 (B_ 39 13) ?_
 refine pu_ HT_ 6 20 (B_ 103 13) ?_
 refine pu_ HT_ 7 21 (B_ 231 13) ?_
 refine tk3_ HT_ HW_ hHeld 3 17 (B_ 239 13) ?_
 refine tk3_ HT_ HW_ hHeld 8 22 (B_ 495 13) ?_
 refine pu_ HT_ 9 23 (B_ 1007 13) ?_
 refine on_ HT_ 4 18 (B_ 1023 13) (fun K hK => ?_)
 refine goes_ Try.func59 (by kernel_rfl) rfl #[.slice (some ad126) l0.length c0, .int .i64 (rd l0 0)] (by rfl) rfl rfl (by (try simp only [List.map_toArray, List.map_cons, List.map_nil]); first | done | rfl | (simp only [List.length_drop, List.length_take]; rfl)) ?_
 with_reducible refine (impl_leasts.calls k _ _ l0 (rd l0 0) t127 _ ?side1 ?side2 A8.out).mono ?_
 (case side1 => exact ch_ HR0 HB)
 (case side2 => exact HC0.out)
 rintro e w15 ⟨v128, rfl, ho0, hb⟩
 refine ⟨_, rfl, ?_⟩
 have HO129 := Aside0.mk (Kd.R_lower ho0 (below_size (bl_ HB.out)))
 replace HB := bo_ HB hb
 (try clear hb)
 (try clear ho0)
 obtain ⟨Ao16, co16, eo16⟩ := Kd.R_slice HO129.out
 (first | subst eo16 | (injection eo16 with f1_ f2_ f3_; have f4_ := f1_.symm; have f5_ := f3_.symm; clear f1_ f2_ f3_; subst f4_; subst f5_))
 have p131 : 0 ≤ ((ji10) : Int) := od_
 have q131 : (ji10) < (t127.length : Int) := od_
 obtain ⟨ad131, e131, hx131_0⟩ := Kd.at_int (Kd.R_reads' HO129.out).2.2 (ji10) p131 q131
 cases e131
 replace p131 := eq_true p131
 replace q131 := eq_true q131
 refine hK.out _ _ ⟨((HB.out.cell (World.block_lt_of_cell? w _ hw126_0)).trans hw126_0), ((HB.out.cell (World.block_lt_of_cell? w _ hw130_0)).trans hw130_0), trivial⟩ (fun _ => ?_); refine restart_ (S' := fun w' => w'.cell? ad126 = some (.int .i64 (rd l0 0)) ∧ w'.cell? ad126 = some (.int .i64 (rd l0 0)) ∧ w'.cell? (ad131.add ((ji10)).toNat) = some (.int .i64 (rd t127 (ji10)))) (fun _ h => ⟨h.1, h.2.1, trivial⟩) ⟨((HB.out.cell (World.block_lt_of_cell? w _ hw126_0)).trans hw126_0), ((HB.out.cell (World.block_lt_of_cell? w _ hw130_0)).trans hw130_0), hx131_0⟩ (fun hHeld => ?_)
 clear hK K
 refine norm_ (a' := ?_) ?_ ?_
 rotate_left
 · show Act.put _ (some 18) _ = _
   simp only [Act.put, z1_, z2_, z3_, i64_w, i32_w]
   rfl
 refine pu_ HT_ 10 24 (B_ 2047 13) ?_
 refine tk3_ HT_ HW_ hHeld 11 25 (B_ 4095 13) ?_
 refine pu_ HT_ 12 5 (B_ 8191 13) ?_
 refine done_ (done_of HT_.out (by kernel_rfl)) ?_
 try go_wp2
 go_ret
 exact ⟨by first | rfl | (simp [errW_none, errW_some] <;> rfl) | (simp only [← hji10]; first | rfl | (simp [errW_none, errW_some] <;> rfl)) | (simp [*, errW_none, errW_some] <;> rfl), bl_ HB.out⟩
mutual
def impl_IsSemigroup.j0 : Nat → List Int → Bool → Option (Bool)
 | 0, _, _ => none
 | k + 1, x3, x27 => if x27 = true then (some false) else (impl_IsSemigroup.l0 k x3 1)
def impl_IsSemigroup.l0 : Nat → List Int → Int → Option (Bool)
 | 0, _, _ => none
 | k + 1, x3, x4 => if x4 < (x3.length : Int) then (if 0 ≤ x4 then (if x4 ≤ (x3.length : Int) then ((impl_Generates.f k (x3.take (x4 : Int).toNat) (rd x3 x4)).bind fun t139 => (if t139 = true then (some false) else (impl_IsSemigroup.l0 k x3 (wrap64 (x4 + 1))))) else (none)) else (none)) else (if 0 < (x3.length : Int) then ((impl_leasts.f k x3 (rd x3 0)).bind fun t141 => (impl_IsSemigroup.l1 k x3 t141 (t141.length : Int) 0)) else (none))
def impl_IsSemigroup.l1 : Nat → List Int → List Int → Int → Int → Option (Bool)
 | 0, _, _, _, _ => none
 | k + 1, x3, x46, x47, x48 => if x48 < x47 then (if 0 ≤ x48 then (if x48 < (x46.length : Int) then (if 0 < (x3.length : Int) then (if (wrap64 ((rd x46 x48) - (rd x3 0))) ≥ 200 then (some false) else (impl_IsSemigroup.l1 k x3 x46 x47 (wrap64 (x48 + 1)))) else (none)) else (none)) else (none)) else (some true)
end
def impl_IsSemigroup.f (k : Nat) (l0_0 : List Int) : Option (Bool) := (impl_within.f (l0_0.length : Int) 1 12).bind fun t133 => (if t133 = true then ((impl_allWithin.f k l0_0 1 60).bind fun t134 => (if t134 = true then ((impl_IsAscending.f k l0_0).bind fun t135 => (if t135 = true then ((impl_GcdOfList.f k l0_0).bind fun t136 => (impl_IsSemigroup.j0 k l0_0 (t136 != 1))) else (impl_IsSemigroup.j0 k l0_0 true))) else (impl_IsSemigroup.j0 k l0_0 true))) else (impl_IsSemigroup.j0 k l0_0 true))
def impl_IsSemigroup.T7 : Bool × List (List Nat × List Nat) := (true, [([], []), ([], []), ([0, 1], [0, 1]), ([], []), ([], []), ([3, 4], [3, 4]), ([5], [5]), ([2, 6], [2, 6])])
def impl_IsSemigroup.B7 : List Nat := [0, 0, 3, 0, 0, 24, 56, 127]
theorem impl_IsSemigroup.tab7 : rtab .any (opsOf Try.f28 7) = impl_IsSemigroup.T7 := by kernel_rfl
theorem impl_IsSemigroup.bits7 : waitsOk impl_IsSemigroup.T7.2 impl_IsSemigroup.B7 = true := by kernel_rfl
theorem impl_IsSemigroup.calls (k : Nat) (A0_0 : Option Addr) (c0_0 : Nat) (l0_0 : List Int) (r : Bool) (w : World) (hr0_0 : Kd.C (Kd.int .i64) w A0_0 l0_0.length l0_0) (hc0_0 : l0_0.length ≤ c0_0) (h : impl_IsSemigroup.f k l0_0 = some r) :
 Calls Try.prog 28 #[.agg #[.slice A0_0 l0_0.length c0_0]] w fun e w' => e = .returned (.bool r) ∧ Below w.heap.size w w' := by
 have hu26 := Try.underlying26
 have HR0_0 := Aside0.mk hr0_0
 have HC0_0 := Aside0.mk hc0_0
 clear hr0_0 hc0_0
 have HB := Aside0.mk (Below.refl w.heap.size w)
 have H := h
 clear h
 unfold impl_IsSemigroup.f at H
 have HC2 := Aside0.mk H
 clear H
 go_enter Try.func28, Try.ntmps28
 go_upto_region 2 with (first | ((with_reducible refine gate_dst (N := 1) rfl ?_); refine bx_ 1 #[.slice A0_0 l0_0.length c0_0] 26 ?_; intro gb132 hg w3 hbox hb; have BK132 := Aside0.mk (hbox); have GW132 := gw_ hg HB; have GE132 := gw_ hg HB; replace HB := bo_ HB hb; clear hb hbox hg; have hcz4_0 := cz_ BK132; have hfz4_0 := blk_frozen BK132.out 0))
 (try simp only [Act.put, z1_, z2_, z3_])
 go_cut [27] (fun v27 wc => ∃ (kq : Nat) (x27_1 : Bool), v27 = .bool x27_1 ∧ Aside0 (impl_IsSemigroup.j0 kq l0_0 x27_1 = some r) ∧ Aside0 (kq ≤ k) ∧ Aside0 (wc.heap[gb132]? = some (.cells #[(.slice A0_0 l0_0.length c0_0)] 26 (0, 0))) ∧ Aside0 (Below w.heap.size w wc))
 case first =>
  have H := HC2.out
  clear HC2
  obtain ⟨t133, A5, H⟩ := ob_ H
  by_cases c6 : t133 = true
  rotate_left
  · replace c6 := Bool.eq_false_iff.mpr c6
    subst c6
    rw [if_neg (show ¬ (false = true) by decide)] at H
    have H' := Aside0.mk H
    clear H
    go_wp2_with (first | ((with_reducible refine gate_callee (f := 40) rfl ?_); refine gL_ (some 11) Try.func40 #[.int .i64 (l0_0.length : Int), .int .i64 1, .int .i64 12] ?_; (with_reducible refine (impl_within.calls (l0_0.length : Int) 1 12 false _ A5.out).mono ?_); rintro e w' ⟨rfl, ⟨nd, rfl⟩⟩; refine ⟨_, rfl, ?_⟩))
    go_meet
    case rel => exact ⟨_, (true), rs_, H', ⟨by first | omega | exact Nat.le_refl _⟩, ⟨be_ BK132.out⟩, ⟨bq_ HB⟩⟩
  subst c6
  rw [if_pos rfl] at H
  obtain ⟨t134, A7, H⟩ := ob_ H
  by_cases c8 : t134 = true
  rotate_left
  · replace c8 := Bool.eq_false_iff.mpr c8
    subst c8
    rw [if_neg (show ¬ (false = true) by decide)] at H
    have H' := Aside0.mk H
    clear H
    go_wp2_with (first | ((with_reducible refine gate_callee (f := 40) rfl ?_); refine gL_ (some 11) Try.func40 #[.int .i64 (l0_0.length : Int), .int .i64 1, .int .i64 12] ?_; (with_reducible refine (impl_within.calls (l0_0.length : Int) 1 12 true _ A5.out).mono ?_); rintro e w' ⟨rfl, ⟨nd, rfl⟩⟩; refine ⟨_, rfl, ?_⟩) | (go_at_call 55; (with_reducible refine (impl_allWithin.calls k _ _ l0_0 1 60 false _ ?side1 ?side2 A7.out).mono ?_); (case side1 => repeat (first | exact (Kd.C_below HR0_0.out (bq_ HB)) | (with_reducible refine Kd.C_alloc ?_ _) | (with_reducible refine Kd.C_drewN ?_ _) | (with_reducible refine Kd.C_drew ?_))); (case side2 => exact HC0_0.out); rintro e w' ⟨rfl, ⟨nd, rfl⟩⟩))
    go_meet
    case rel => exact ⟨_, (true), rs_, H', ⟨by first | omega | exact Nat.le_refl _⟩, ⟨be_ BK132.out⟩, ⟨bq_ HB⟩⟩
  subst c8
  rw [if_pos rfl] at H
  obtain ⟨t135, A9, H⟩ := ob_ H
  by_cases c10 : t135 = true
  rotate_left
  · replace c10 := Bool.eq_false_iff.mpr c10
    subst c10
    rw [if_neg (show ¬ (false = true) by decide)] at H
    have H' := Aside0.mk H
    clear H
    go_wp2_with (first | ((with_reducible refine gate_callee (f := 40) rfl ?_); refine gL_ (some 11) Try.func40 #[.int .i64 (l0_0.length : Int), .int .i64 1, .int .i64 12] ?_; (with_reducible refine (impl_within.calls (l0_0.length : Int) 1 12 true _ A5.out).mono ?_); rintro e w' ⟨rfl, ⟨nd, rfl⟩⟩; refine ⟨_, rfl, ?_⟩) | (go_at_call 55; (with_reducible refine (impl_allWithin.calls k _ _ l0_0 1 60 true _ ?side1 ?side2 A7.out).mono ?_); (case side1 => repeat (first | exact (Kd.C_below HR0_0.out (bq_ HB)) | (with_reducible refine Kd.C_alloc ?_ _) | (with_reducible refine Kd.C_drewN ?_ _) | (with_reducible refine Kd.C_drew ?_))); (case side2 => exact HC0_0.out); rintro e w' ⟨rfl, ⟨nd, rfl⟩⟩) | (go_at_call 56; (with_reducible refine (impl_IsAscending.calls k _ _ l0_0 false _ ?side1 ?side2 A9.out).mono ?_); (case side1 => repeat (first | exact (Kd.C_below HR0_0.out (bq_ HB)) | (with_reducible refine Kd.C_alloc ?_ _) | (with_reducible refine Kd.C_drewN ?_ _) | (with_reducible refine Kd.C_drew ?_))); (case side2 => exact HC0_0.out); rintro e w' ⟨rfl, ⟨nd, rfl⟩⟩))
    go_meet
    case rel => exact ⟨_, (true), rs_, H', ⟨by first | omega | exact Nat.le_refl _⟩, ⟨be_ BK132.out⟩, ⟨bq_ HB⟩⟩
  subst c10
  rw [if_pos rfl] at H
  obtain ⟨t136, A11, H⟩ := ob_ H
  have H' := Aside0.mk H
  clear H
  go_wp2_with (first | ((with_reducible refine gate_callee (f := 40) rfl ?_); refine gL_ (some 11) Try.func40 #[.int .i64 (l0_0.length : Int), .int .i64 1, .int .i64 12] ?_; (with_reducible refine (impl_within.calls (l0_0.length : Int) 1 12 true _ A5.out).mono ?_); rintro e w' ⟨rfl, ⟨nd, rfl⟩⟩; refine ⟨_, rfl, ?_⟩) | (go_at_call 55; (with_reducible refine (impl_allWithin.calls k _ _ l0_0 1 60 true _ ?side1 ?side2 A7.out).mono ?_); (case side1 => repeat (first | exact (Kd.C_below HR0_0.out (bq_ HB)) | (with_reducible refine Kd.C_alloc ?_ _) | (with_reducible refine Kd.C_drewN ?_ _) | (with_reducible refine Kd.C_drew ?_))); (case side2 => exact HC0_0.out); rintro e w' ⟨rfl, ⟨nd, rfl⟩⟩) | (go_at_call 56; (with_reducible refine (impl_IsAscending.calls k _ _ l0_0 true _ ?side1 ?side2 A9.out).mono ?_); (case side1 => repeat (first | exact (Kd.C_below HR0_0.out (bq_ HB)) | (with_reducible refine Kd.C_alloc ?_ _) | (with_reducible refine Kd.C_drewN ?_ _) | (with_reducible refine Kd.C_drew ?_))); (case side2 => exact HC0_0.out); rintro e w' ⟨rfl, ⟨nd, rfl⟩⟩) | (go_at_call 57; (with_reducible refine (impl_GcdOfList.calls k _ _ l0_0 t136 _ ?side1 ?side2 A11.out).mono ?_); (case side1 => repeat (first | exact (Kd.C_below HR0_0.out (bq_ HB)) | (with_reducible refine Kd.C_alloc ?_ _) | (with_reducible refine Kd.C_drewN ?_ _) | (with_reducible refine Kd.C_drew ?_))); (case side2 => exact HC0_0.out); rintro e w12 ⟨rfl, hb⟩; replace BK132 := bk_ BK132 hb; replace HB := bp_ HB hb; (try clear hb)))
  go_meet
  case rel => exact ⟨_, ((t136 != 1)), rs_, H', ⟨by first | omega | exact Nat.le_refl _⟩, ⟨be_ BK132.out⟩, ⟨bq_ HB⟩⟩
 case rest =>
  clear HC2
  try clear hcz4_0
  try clear hfz4_0
  obtain ⟨kq, x27_1, rfl, HA, HJ1, BK132, HB⟩ := hcut
  cases kq with
  | zero => exact absurd HA.out (by simp [impl_IsSemigroup.j0])
  | succ kj1 =>
   have H := HA.out
   clear HA
   simp only [impl_IsSemigroup.j0] at H
   by_cases c13 : x27_1 = true
   · subst c13
     rw [if_pos rfl] at H
     obtain rfl := Option.some.inj H
     go_wp2
     go_ret
     exact ⟨rf_, bq_ HB⟩
   replace c13 := Bool.eq_false_iff.mpr c13
   subst c13
   rw [if_neg (show ¬ (false = true) by decide)] at H
   have H' := Aside0.mk H
   clear H
   go_wp2
   go_loopg [4] kj1 (fun kq v4 w' => ∃ (x4_2 : Int), v4 = .int .i64 x4_2 ∧ Aside0 (impl_IsSemigroup.l0 kq l0_0 x4_2 = some r) ∧ Aside0 (kq ≤ kj1) ∧ Aside0 (w'.heap[gb132]? = some (.cells #[(.slice A0_0 l0_0.length c0_0)] 26 (0, 0))) ∧ Aside0 (Below w.heap.size w w'))
   case atStart => exact ⟨(1), rs_, H', ⟨Nat.le_refl _⟩, ⟨be_ BK132.out⟩, ⟨bq_ HB⟩⟩
   case round =>
    clear H'
    obtain ⟨x4_2, rfl, HA, HK2, BK132, HB⟩ := hrel
    cases gk with
    | zero => exact absurd HA.out (by simp [impl_IsSemigroup.l0])
    | succ k2 =>
     have H := HA.out
     clear HA
     simp only [impl_IsSemigroup.l0] at H
     by_cases c14 : x4_2 < (l0_0.length : Int)
     · rw [if_pos c14] at H
       have c14b0 : decide (x4_2 < (l0_0.length : Int)) = true := decide_eq_true c14
       clear c14
       obtain ⟨c15, H⟩ := ip_ H
       have c15b0 := eq_true c15
       have c15b1 : decide (0 ≤ x4_2) = true := decide_eq_true c15
       clear c15
       obtain ⟨c16, H⟩ := ip_ H
       have c16b0 := eq_true c16
       have c16b1 : decide (x4_2 ≤ (l0_0.length : Int)) = true := decide_eq_true c16
       clear c16
       obtain ⟨t139, A17, H⟩ := ob_ H
       by_cases c18 : t139 = true
       · subst c18
         rw [if_pos rfl] at H
         obtain rfl := Option.some.inj H
         try go_wp2
         replace BK132 := Aside0.mk (blk_drew BK132.out)
         replace HB := Aside0.mk (below_drew1 HB.out)
         obtain ⟨i020, hi020, _, hsz20, _⟩ := info_parts info3
         obtain ⟨hcut20, hA20, hC20⟩ := print_take_of (P := Try.prog) (Value.int .i64) 0 24 3 .i64 Try.underlying24 hi020 hsz20 A0_0 c0_0 l0_0 x4_2 (od_) (od_) HC0_0.out
         have HR137 := Aside0.mk (Kd.C_of_reads (h1 := fun _ => rfl) (hA20 _ (Kd.reads_of_C HR0_0.out)))
         have HC137 := Aside0.mk hC20
         clear hA20 hC20 hi020 hsz20
         have p138 : 0 ≤ (x4_2 : Int) := od_
         have q138 : x4_2 < (l0_0.length : Int) := od_
         obtain ⟨ad138, e138, hx138_0⟩ := Kd.at_int HR0_0.out x4_2 p138 q138
         have hw138_0 := hx138_0
         cases e138
         (try replace hx138_0 := (HB.out.cell (World.block_lt_of_cell? w _ hx138_0)).trans hx138_0)
         replace p138 := eq_true p138
         replace q138 := eq_true q138
         refine start_ (n := 8) (S := fun w' => w'.cell? (ad138.add (x4_2).toNat) = some (.int .i64 (rd l0_0 x4_2))) (ds := []) (B_ 0 8) (by kernel_rfl) rfl rfl (by first | exact hw138_0 | exact (HB.out.cell (World.block_lt_of_cell? w _ hw138_0)).trans hw138_0 | (obtain ⟨_, e_, h_⟩ := Kd.at_int HR0_0.out x4_2 (of_eq_true p138) (of_eq_true q138); cases e_; exact h_)) (fun hHeld => ?_); refine with_tabW impl_IsSemigroup.tab7 impl_IsSemigroup.bits7 (fun HT_ HW_ => ?_)
         generalize wr.drew = w19 at BK132 HB HR137 hx138_0 hHeld ⊢
         refine pu_ HT_ 0 34 (B_ 1 8) ?_
         refine pu_ HT_ 1 35 (B_ 3 8) ?_
         refine pu_ HT_ 2 36 (B_ 7 8) ?_
         refine pu_ HT_ 3 37 (B_ 15 8) ?_
         refine pu_ HT_ 4 38 (B_ 31 8) ?_
         refine pu_ HT_ 5 39 (B_ 63 8) ?_
         refine tk1_ HT_ HW_ hHeld 6 40 (B_ 127 8) ?_
         refine on_ HT_ 7 41 (B_ 255 8) (fun K hK => ?_)
         refine goes_ Try.func58 (by kernel_rfl) rfl #[.slice (some ad138) (l0_0.take (x4_2 : Int).toNat).length c0_0, .int .i64 (rd l0_0 x4_2)] (by rfl) rfl rfl (by (try simp only [List.map_toArray, List.map_cons, List.map_nil]); first | done | (rw [show (l0_0.take (x4_2 : Int).toNat).length = x4_2.toNat from (by rw [List.length_take]; have h_ : (x4_2 : Int) ≤ (l0_0.length : Int) := od_; omega)] <;> rfl) | rfl | (simp only [List.length_drop, List.length_take]; rfl)) ?_
         with_reducible refine (impl_Generates.calls k2 _ _ (l0_0.take (x4_2 : Int).toNat) (rd l0_0 x4_2) true _ ?side1 ?side2 A17.out).mono ?_
         (case side1 => exact ch_ HR137 HB)
         (case side2 => exact HC137.out)
         rintro e w21 ⟨rfl, hb⟩
         refine ⟨_, rfl, ?_⟩
         replace BK132 := bk_ BK132 hb
         replace HB := bp_ HB hb
         (try clear hb)
         refine hK.out _ _ (by first | exact hw138_0 | exact (HB.out.cell (World.block_lt_of_cell? w _ hw138_0)).trans hw138_0 | (obtain ⟨_, e_, h_⟩ := Kd.at_int HR0_0.out x4_2 (of_eq_true p138) (of_eq_true q138); cases e_; exact h_)) (fun hHeld => ?_)
         clear hK K
         refine norm_ (a' := ?_) ?_ ?_
         rotate_left
         · show Act.put _ (some 41) _ = _
           simp only [Act.put, z1_, z2_, z3_, i64_w, i32_w]
           rfl
         refine done_ (done_of HT_.out (by kernel_rfl)) ?_
         try go_wp2
         go_ret
         exact ⟨rf_, bq_ HB⟩
       replace c18 := Bool.eq_false_iff.mpr c18
       subst c18
       rw [if_neg (show ¬ (false = true) by decide)] at H
       have H' := Aside0.mk H
       clear H
       try go_wp2
       replace BK132 := Aside0.mk (blk_drew BK132.out)
       replace HB := Aside0.mk (below_drew1 HB.out)
       obtain ⟨i023, hi023, _, hsz23, _⟩ := info_parts info3
       obtain ⟨hcut23, hA23, hC23⟩ := print_take_of (P := Try.prog) (Value.int .i64) 0 24 3 .i64 Try.underlying24 hi023 hsz23 A0_0 c0_0 l0_0 x4_2 (od_) (od_) HC0_0.out
       have HR137 := Aside0.mk (Kd.C_of_reads (h1 := fun _ => rfl) (hA23 _ (Kd.reads_of_C HR0_0.out)))
       have HC137 := Aside0.mk hC23
       clear hA23 hC23 hi023 hsz23
       have p138 : 0 ≤ (x4_2 : Int) := od_
       have q138 : x4_2 < (l0_0.length : Int) := od_
       obtain ⟨ad138, e138, hx138_0⟩ := Kd.at_int HR0_0.out x4_2 p138 q138
       have hw138_0 := hx138_0
       cases e138
       (try replace hx138_0 := (HB.out.cell (World.block_lt_of_cell? w _ hx138_0)).trans hx138_0)
       replace p138 := eq_true p138
       replace q138 := eq_true q138
       refine start_ (n := 8) (S := fun w' => w'.cell? (ad138.add (x4_2).toNat) = some (.int .i64 (rd l0_0 x4_2))) (ds := []) (B_ 0 8) (by kernel_rfl) rfl rfl (by first | exact hw138_0 | exact (HB.out.cell (World.block_lt_of_cell? w _ hw138_0)).trans hw138_0 | (obtain ⟨_, e_, h_⟩ := Kd.at_int HR0_0.out x4_2 (of_eq_true p138) (of_eq_true q138); cases e_; exact h_)) (fun hHeld => ?_); refine with_tabW impl_IsSemigroup.tab7 impl_IsSemigroup.bits7 (fun HT_ HW_ => ?_)
       generalize wr.drew = w22 at BK132 HB HR137 hx138_0 hHeld ⊢
       refine pu_ HT_ 0 34 (B_ 1 8) ?_
       refine pu_ HT_ 1 35 (B_ 3 8) ?_
       refine pu_ HT_ 2 36 (B_ 7 8) ?_
       refine pu_ HT_ 3 37 (B_ 15 8) ?_
       refine pu_ HT_ 4 38 (B_ 31 8) ?_
       refine pu_ HT_ 5 39 (B_ 63 8) ?_
       refine tk1_ HT_ HW_ hHeld 6 40 (B_ 127 8) ?_
       refine on_ HT_ 7 41 (B_ 255 8) (fun K hK => ?_)
       refine goes_ Try.func58 (by kernel_rfl) rfl #[.slice (some ad138) (l0_0.take (x4_2 : Int).toNat).length c0_0, .int .i64 (rd l0_0 x4_2)] (by rfl) rfl rfl (by (try simp only [List.map_toArray, List.map_cons, List.map_nil]); first | done | (rw [show (l0_0.take (x4_2 : Int).toNat).length = x4_2.toNat from (by rw [List.length_take]; have h_ : (x4_2 : Int) ≤ (l0_0.length : Int) := od_; omega)] <;> rfl) | rfl | (simp only [List.length_drop, List.length_take]; rfl)) ?_
       with_reducible refine (impl_Generates.calls k2 _ _ (l0_0.take (x4_2 : Int).toNat) (rd l0_0 x4_2) false _ ?side1 ?side2 A17.out).mono ?_
       (case side1 => exact ch_ HR137 HB)
       (case side2 => exact HC137.out)
       rintro e w24 ⟨rfl, hb⟩
       refine ⟨_, rfl, ?_⟩
       replace BK132 := bk_ BK132 hb
       replace HB := bp_ HB hb
       (try clear hb)
       refine hK.out _ _ (by first | exact hw138_0 | exact (HB.out.cell (World.block_lt_of_cell? w _ hw138_0)).trans hw138_0 | (obtain ⟨_, e_, h_⟩ := Kd.at_int HR0_0.out x4_2 (of_eq_true p138) (of_eq_true q138); cases e_; exact h_)) (fun hHeld => ?_)
       clear hK K
       refine norm_ (a' := ?_) ?_ ?_
       rotate_left
       · show Act.put _ (some 41) _ = _
         simp only [Act.put, z1_, z2_, z3_, i64_w, i32_w]
         rfl
       refine done_ (done_of HT_.out (by kernel_rfl)) ?_
       try go_wp2
       go_roundg k2
       case measure => have := HJ1.out; have := HK2.out; omega
       case rel => exact ⟨(wrap64 (x4_2 + 1)), rs_, H', ⟨by have := HJ1.out; have := HK2.out; omega⟩, ⟨be_ BK132.out⟩, ⟨bq_ HB⟩⟩
     rw [if_neg c14] at H
     have c14b0 : decide (x4_2 < (l0_0.length : Int)) = false := decide_eq_false c14
     clear c14
     obtain ⟨c25, H⟩ := ip_ H
     have c25b0 : decide (0 < (l0_0.length : Int)) = true := decide_eq_true c25
     have c25b1 : decide (0 < l0_0.length) = true := decide_eq_true (by omega)
     clear c25
     obtain ⟨t141, A26, H⟩ := ob_ H
     have H' := Aside0.mk H
     clear H
     have p140 : 0 ≤ (0 : Int) := (by omega)
     have q140 : 0 < (l0_0.length : Int) := od_
     obtain ⟨ad140, e140, hx140_0⟩ := Kd.at_int HR0_0.out 0 p140 q140
     cases e140
     have qi140 : (0 < l0_0.length) = True := eq_true (by omega)
     (try rw [show ((0 : Int)).toNat = 0 from rfl] at hx140_0)
     (try rw [Addr.add_zero'] at hx140_0)
     (try replace hx140_0 := (HB.out.cell (World.block_lt_of_cell? w _ hx140_0)).trans hx140_0)
     replace p140 := eq_true p140
     replace q140 := eq_true q140
     go_wp2_with (first | ((with_reducible refine gate_callee (f := 59) rfl ?_); refine gL_ (some 46) Try.func59 #[.slice (some ad140) l0_0.length c0_0, .int .i64 (rd l0_0 0)] ?_; (with_reducible refine (impl_leasts.calls k2 _ _ l0_0 (rd l0_0 0) t141 _ ?side1 ?side2 A26.out).mono ?_); (case side1 => exact ch_ HR0_0 HB); (case side2 => exact HC0_0.out); rintro e w27 ⟨v142, rfl, ho0, hb⟩; refine ⟨_, rfl, ?_⟩; have HO143 := Aside0.mk (Kd.R_lower ho0 (below_size (bq_ HB))); replace BK132 := bk_ BK132 hb; replace HB := bp_ HB hb; (try clear hb); (try clear ho0); obtain ⟨Ao28, co28, eo28⟩ := Kd.R_slice HO143.out; subst eo28))
     go_loopg [48] k2 (fun kq v48 w' => ∃ (x48_3 : Int), v48 = .int .i64 x48_3 ∧ Aside0 (impl_IsSemigroup.l1 kq l0_0 t141 (t141.length : Int) x48_3 = some r) ∧ Aside0 (kq ≤ k2) ∧ Aside0 (Kd.R (Kd.int .i64) 3 w' w.heap.size (fun _ => True) (.slice Ao28 t141.length co28) t141) ∧ Aside0 (w'.heap[gb132]? = some (.cells #[(.slice (some ad140) l0_0.length c0_0)] 26 (0, 0))) ∧ Aside0 (Below w.heap.size w w'))
     case atStart => exact ⟨(0), rs_, H', ⟨Nat.le_refl _⟩, ⟨re_ HO143.out⟩, ⟨be_ BK132.out⟩, ⟨bq_ HB⟩⟩
     case round =>
      clear H'
      try clear c14b0
      try clear c25b0
      try clear c25b1
      try clear hx140_0
      try clear p140
      try clear q140
      obtain ⟨x48_3, rfl, HA, HK3, HO_46, BK132, HB⟩ := hrel
      cases gk with
      | zero => exact absurd HA.out (by simp [impl_IsSemigroup.l1])
      | succ k3 =>
       have H := HA.out
       clear HA
       simp only [impl_IsSemigroup.l1] at H
       by_cases c29 : x48_3 < (t141.length : Int)
       rotate_left
       · rw [if_neg c29] at H
         have c29b0 : decide (x48_3 < (t141.length : Int)) = false := decide_eq_false c29
         clear c29
         obtain rfl := Option.some.inj H
         go_wp2
         go_ret
         exact ⟨rf_, bq_ HB⟩
       rw [if_pos c29] at H
       have c29b0 : decide (x48_3 < (t141.length : Int)) = true := decide_eq_true c29
       clear c29
       obtain ⟨c30b0, H⟩ := ipd_ H
       obtain ⟨c31b0, H⟩ := ipd_ H
       obtain ⟨c32, H⟩ := ip_ H
       have c32b0 : decide (0 < (l0_0.length : Int)) = true := decide_eq_true c32
       have c32b1 : decide (0 < l0_0.length) = true := decide_eq_true (by omega)
       clear c32
       by_cases c33 : (wrap64 ((rd t141 x48_3) - (rd l0_0 0))) ≥ 200
       · rw [if_pos c33] at H
         have c33b0 : decide (200 ≤ (wrap64 ((rd t141 x48_3) - (rd l0_0 0)))) = true := decide_eq_true c33
         clear c33
         obtain rfl := Option.some.inj H
         have p144 : 0 ≤ (x48_3 : Int) := od_
         have q144 : x48_3 < (t141.length : Int) := od_
         obtain ⟨ad144, e144, hx144_0⟩ := Kd.at_int (Kd.R_reads' HO_46.out).2.2 x48_3 p144 q144
         cases e144
         replace p144 := eq_true p144
         replace q144 := eq_true q144
         have p145 : 0 ≤ (0 : Int) := (by omega)
         have q145 : 0 < (l0_0.length : Int) := od_
         obtain ⟨ad145, e145, hx145_0⟩ := Kd.at_int HR0_0.out 0 p145 q145
         obtain rfl : ad140 = ad145 := (by injection e145)
         have qi145 : (0 < l0_0.length) = True := eq_true (by omega)
         (try rw [show ((0 : Int)).toNat = 0 from rfl] at hx145_0)
         (try rw [Addr.add_zero'] at hx145_0)
         (try replace hx145_0 := (HB.out.cell (World.block_lt_of_cell? w _ hx145_0)).trans hx145_0)
         replace p145 := eq_true p145
         replace q145 := eq_true q145
         go_wp2
         go_ret
         exact ⟨rf_, bq_ HB⟩
       rw [if_neg c33] at H
       have c33b0 : decide (200 ≤ (wrap64 ((rd t141 x48_3) - (rd l0_0 0)))) = false := decide_eq_false c33
       clear c33
       have H' := Aside0.mk H
       clear H
       have p144 : 0 ≤ (x48_3 : Int) := od_
       have q144 : x48_3 < (t141.length : Int) := od_
       obtain ⟨ad144, e144, hx144_0⟩ := Kd.at_int (Kd.R_reads' HO_46.out).2.2 x48_3 p144 q144
       cases e144
       replace p144 := eq_true p144
       replace q144 := eq_true q144
       have p145 : 0 ≤ (0 : Int) := (by omega)
       have q145 : 0 < (l0_0.length : Int) := od_
       obtain ⟨ad145, e145, hx145_0⟩ := Kd.at_int HR0_0.out 0 p145 q145
       obtain rfl : ad140 = ad145 := (by injection e145)
       have qi145 : (0 < l0_0.length) = True := eq_true (by omega)
       (try rw [show ((0 : Int)).toNat = 0 from rfl] at hx145_0)
       (try rw [Addr.add_zero'] at hx145_0)
       (try replace hx145_0 := (HB.out.cell (World.block_lt_of_cell? w _ hx145_0)).trans hx145_0)
       replace p145 := eq_true p145
       replace q145 := eq_true q145
       go_wp2
       go_roundg k3
       case measure => have := HJ1.out; have := HK2.out; have := HK3.out; omega
       case rel => exact ⟨(wrap64 (x48_3 + 1)), rs_, H', ⟨by have := HJ1.out; have := HK2.out; have := HK3.out; omega⟩, ⟨re_ HO_46.out⟩, ⟨be_ BK132.out⟩, ⟨bq_ HB⟩⟩
def impl_table.l0 : Nat → List Int → List Bool → Int → Int → List Int → Option (List Bool)
 | 0, _, _, _, _, _ => none
 | k + 1, x5, x6, x19, x20, x147000 => if x20 < x19 then (if 0 < (x147000.length : Int) then (if (rd x147000 0) = 0 then (none) else (if 0 ≤ (Int.tmod x20 (rd x147000 0)) then (if (Int.tmod x20 (rd x147000 0)) < (x5.length : Int) then (if 0 ≤ x20 then (if x20 < (x6.length : Int) then (impl_table.l0 k x5 (x6.set (x20 : Int).toNat (decide ((rd x5 (Int.tmod x20 (rd x147000 0))) ≤ x20))) x19 (wrap64 (x20 + 1)) x147000) else (none)) else (none)) else (none)) else (none))) else (none)) else (some x6)
def impl_table.f (k : Nat) (l0_0 : List Int) (a1 : Int) : Option (List Bool) := if 0 < (l0_0.length : Int) then ((impl_leasts.f k l0_0 (rd l0_0 0)).bind fun t148 => (if 0 ≤ (wrap64 (a1 + 1)) then (if (wrap64 (a1 + 1) : Int).toNat ≤ 281474976710656 then ((some (List.replicate (wrap64 (a1 + 1) : Int).toNat false : List Bool)).bind fun y151 => (impl_table.l0 k t148 y151 (y151.length : Int) 0 l0_0)) else (none)) else (none))) else (none)
def impl_table.T1 : Bool × List (List Nat × List Nat) := (true, [([], []), ([0], [0]), ([], []), ([2], [2]), ([3], [3]), ([4], [4]), ([1, 5], [1, 5]), ([6, 6, 0, 1, 2, 3, 4, 5, 6], [6])])
def impl_table.B1 : List Nat := [0, 1, 0, 4, 12, 28, 63, 127]
theorem impl_table.tab1 : rtab .any (opsOf Try.f92 1) = impl_table.T1 := by kernel_rfl
theorem impl_table.bits1 : waitsOk impl_table.T1.2 impl_table.B1 = true := by kernel_rfl
theorem impl_table.calls (k : Nat) (A0_0 : Option Addr) (c0_0 : Nat) (l0_0 : List Int) (a1 : Int) (r : List Bool) (w : World) (hr0_0 : Kd.C (Kd.int .i64) w A0_0 l0_0.length l0_0) (hc0_0 : l0_0.length ≤ c0_0) (h : impl_table.f k l0_0 a1 = some r) :
 Calls Try.prog 92 #[.agg #[.slice A0_0 l0_0.length c0_0], .int .i64 a1] w fun e w' => ∃ v0_ : Value, e = .returned (v0_) ∧ Kd.R Kd.bool 4 w' w.heap.size (fun _ => True) v0_ r ∧ Below w.heap.size w w' := by
 have hu26 := Try.underlying26
 have HR0_0 := Aside0.mk hr0_0
 have HC0_0 := Aside0.mk hc0_0
 clear hr0_0 hc0_0
 have HB := Aside0.mk (Below.refl w.heap.size w)
 have H := h
 clear h
 unfold impl_table.f at H
 obtain ⟨c3, H⟩ := ip_ H
 have c3b0 : decide (0 < (l0_0.length : Int)) = true := decide_eq_true c3
 have c3b1 : decide (0 < l0_0.length) = true := decide_eq_true (by omega)
 clear c3
 obtain ⟨t148, A4, H⟩ := ob_ H
 obtain ⟨ji5, hji5⟩ : ∃ j_ : Int, (wrap64 (a1 + 1)) = j_ := ⟨_, rfl⟩
 replace H : (if 0 ≤ (ji5) then (if (ji5 : Int).toNat ≤ 281474976710656 then ((some (List.replicate (ji5 : Int).toNat false : List Bool)).bind fun y151 => (impl_table.l0 k t148 y151 (y151.length : Int) 0 l0_0)) else (none)) else (none)) = some r := by first | (rw [hji5] at H; exact H) | (simp only [hji5] at H ⊢; exact H)
 (try rw [hji5] at A4)
 have hji5w : (IntKind.i64.wrap (a1 + 1)) = ji5 := (i64_w _).trans hji5
 obtain ⟨c6, H⟩ := ip_ H
 have c6b0 := eq_true c6
 have c6b1 : decide (0 ≤ (ji5)) = true := decide_eq_true c6
 clear c6
 obtain ⟨c7, H⟩ := ip_ H
 have c7b0 := eq_true c7
 have c7b1 : decide ((ji5 : Int).toNat ≤ 281474976710656) = true := decide_eq_true c7
 clear c7
 obtain ⟨y151, hy151⟩ : ∃ y_ : List Bool, y_ = (List.replicate (ji5 : Int).toNat false) := ⟨_, rfl⟩
 replace H : (impl_table.l0 k t148 y151 (y151.length : Int) 0 l0_0) = some r := by subst hy151; exact H
 have Ny151 := Aside0.mk hy151
 clear hy151
 have H' := Aside0.mk H
 clear H
 go_enter Try.func92, Try.ntmps92
 try go_wp2_with (first | ((with_reducible refine gate_dst (N := 2) rfl ?_); refine bx_ 2 #[.slice A0_0 l0_0.length c0_0] 26 ?_; intro gb146 hg w8 hbox hb; have BK146 := Aside0.mk (hbox); have GW146 := gw_ hg HB; have GE146 := gw_ hg HB; replace HB := bo_ HB hb; clear hb hbox hg))
 replace BK146 := Aside0.mk (blk_drew BK146.out)
 replace HB := Aside0.mk (below_drew1 HB.out)
 have p147 : 0 ≤ (0 : Int) := (by omega)
 have q147 : 0 < (l0_0.length : Int) := od_
 obtain ⟨ad147, e147, hx147_0⟩ := Kd.at_int HR0_0.out 0 p147 q147
 have hw147_0 := hx147_0
 (try rw [show ((0 : Int)).toNat = 0 from rfl] at hw147_0)
 (try rw [show 0 * 1 = 0 from rfl] at hw147_0)
 (try rw [Addr.add_zero'] at hw147_0)
 cases e147
 have qi147 : (0 < l0_0.length) = True := eq_true (by omega)
 (try rw [show ((0 : Int)).toNat = 0 from rfl] at hx147_0)
 (try rw [Addr.add_zero'] at hx147_0)
 (try replace hx147_0 := (HB.out.cell (World.block_lt_of_cell? w _ hx147_0)).trans hx147_0)
 replace p147 := eq_true p147
 replace q147 := eq_true q147
 refine start_ (n := 8) (S := fun w' => w'.cell? ⟨gb146, 0, none⟩ = some (.slice (some ad147) l0_0.length c0_0) ∧ w'.cell? ad147 = some (.int .i64 (rd l0_0 0))) (ds := []) (B_ 0 8) (by kernel_rfl) rfl rfl ⟨(blk_cell BK146.out 0).trans rfl, ((HB.out.cell (World.block_lt_of_cell? w _ hw147_0)).trans hw147_0)⟩ (fun hHeld => ?_); refine with_tabW impl_table.tab1 impl_table.bits1 (fun HT_ HW_ => ?_)
 generalize w8.drew = w9 at BK146 HB hx147_0 hHeld ⊢
 refine pu_ HT_ 0 8 (B_ 1 8) ?_
 refine pu_ HT_ 2 10 (B_ 5 8) ?_
 refine tk2_ HT_ HW_ hHeld 1 9 (B_ 7 8) ?_
 refine tk2_ HT_ HW_ hHeld 3 11 (B_ 15 8) ?_
 refine pu_ HT_ 4 12 (B_ 31 8) ?_
 refine tk2_ HT_ HW_ hHeld 5 13 (B_ 63 8) ?_
 refine on_ HT_ 6 14 (B_ 127 8) (fun K hK => ?_)
 refine goes_ Try.func59 (by kernel_rfl) rfl #[.slice (some ad147) l0_0.length c0_0, .int .i64 (rd l0_0 0)] (by rfl) rfl rfl (by (try simp only [List.map_toArray, List.map_cons, List.map_nil]); first | done | rfl | (simp only [List.length_drop, List.length_take]; rfl)) ?_
 with_reducible refine (impl_leasts.calls k _ _ l0_0 (rd l0_0 0) t148 _ ?side1 ?side2 A4.out).mono ?_
 (case side1 => exact ch_ HR0_0 HB)
 (case side2 => exact HC0_0.out)
 rintro e w10 ⟨v149, rfl, ho0, hb⟩
 refine ⟨_, rfl, ?_⟩
 have HO150 := Aside0.mk (Kd.R_lower ho0 (below_size (bq_ HB)))
 replace BK146 := bk_ BK146 hb
 replace HB := bp_ HB hb
 (try clear hb)
 (try clear ho0)
 refine hK.out _ _ ⟨(blk_cell BK146.out 0).trans rfl, ((HB.out.cell (World.block_lt_of_cell? w _ hw147_0)).trans hw147_0)⟩ (fun hHeld => ?_)
 clear hK K
 refine norm_ (a' := ?_) ?_ ?_
 rotate_left
 · show Act.put _ (some 14) _ = _
   simp only [Act.put, z1_, z2_, z3_, i64_w, i32_w]
   rfl
 refine pu_ HT_ 7 5 (B_ 255 8) ?_
 refine done_ (done_of HT_.out (by kernel_rfl)) ?_
 try go_wp2_with (first | ((with_reducible refine gate_dst (N := 17) rfl ?_); refine Kd.R_make Kd.bool _ 4 rfl (N := 17) rfl 67 _ _ rfl ji5 rfl rfl Try.underlying67 (.bool false) 1 info4 rfl (by decide) (by omega) false (ok := fun _ => True) (okp := fun _ => True) rfl (fun _ hk => hk) trivial (od_) (Nat.le_trans (Nat.mul_le_mul_right _ (od_ : ji5.toNat ≤ 281474976710656)) (by omega)) (Below.refl _ _) (Nat.le_refl _) ?_; intro v152 w11 ho12 hb hg_ hnew_; clear hg_ hnew_; (first | rw [← Ny151.out] at ho12 | (simp only [Int.reduceToNat] at ho12; rw [← Ny151.out] at ho12)); replace HO150 := Aside0.mk (Kd.R_below (re_ HO150.out) hb); have HO153 := Aside0.mk (Kd.R_lower ho12 (below_size (bq_ HB))); replace BK146 := bk_ BK146 hb; replace HB := bp_ HB hb; clear hb ho12; obtain ⟨Ao13, co13, eo13⟩ := Kd.R_slice HO153.out; subst eo13))
 go_loopg [20] k (fun kq v20 w' => ∃ (x6_1 : List Bool) (x20_1 : Int), v20 = .int .i64 x20_1 ∧ Aside0 (impl_table.l0 kq t148 x6_1 (y151.length : Int) x20_1 l0_0 = some r) ∧ Aside0 (kq ≤ k) ∧ Aside0 (Kd.R (Kd.int .i64) 3 w' w.heap.size (fun _ => True) v149 t148) ∧ Aside0 (Kd.R Kd.bool 4 w' w.heap.size (fun _ => True) (.slice Ao13 y151.length co13) x6_1) ∧ Aside0 (w'.heap[gb146]? = some (.cells #[(.slice (some ad147) l0_0.length c0_0)] 26 (0, 0))) ∧ Aside0 (Below w.heap.size w w'))
 case atStart => exact ⟨(y151), (0), rs_, H', ⟨Nat.le_refl _⟩, ⟨re_ HO150.out⟩, ⟨re_ HO153.out⟩, ⟨be_ BK146.out⟩, ⟨bq_ HB⟩⟩
 case round =>
  clear H'
  try clear c3b0
  try clear c3b1
  try clear c6b0
  try clear c6b1
  try clear c7b0
  try clear c7b1
  try clear hx147_0
  try clear p147
  try clear q147
  obtain ⟨x6_1, x20_1, rfl, HA, HK1, HO_5, HO_6, BK146, HB⟩ := hrel
  have hl6_1 := (Kd.R_reads' HO_6.out).1
  rw [hl6_1] at HO_6
  (try simp only [hl6_1])
  (try simp only [hl6_1] at BK146)
  (try simp only [hl6_1] at HO_5)
  cases gk with
  | zero => exact absurd HA.out (by simp [impl_table.l0])
  | succ k1 =>
   have H := HA.out
   clear HA
   simp only [impl_table.l0] at H
   by_cases c14 : x20_1 < (y151.length : Int)
   rotate_left
   · rw [if_neg c14] at H
     have c14b0 : decide (x20_1 < (y151.length : Int)) = false := decide_eq_false c14
     (try (have c14h := c14b0; simp only [hl6_1] at c14h))
     clear c14
     obtain rfl := Option.some.inj H
     go_wp2
     go_ret
     exact ⟨_, by first | rfl | (simp [errW_none, errW_some] <;> rfl) | (simp only [← hji5]; first | rfl | (simp [errW_none, errW_some] <;> rfl)) | (simp [*, errW_none, errW_some] <;> rfl), re_ HO_6.out, bq_ HB⟩
   rw [if_pos c14] at H
   have c14b0 : decide (x20_1 < (y151.length : Int)) = true := decide_eq_true c14
   (try (have c14h := c14b0; simp only [hl6_1] at c14h))
   clear c14
   obtain ⟨c15, H⟩ := ip_ H
   have c15b0 : decide (0 < (l0_0.length : Int)) = true := decide_eq_true c15
   have c15b1 : decide (0 < l0_0.length) = true := decide_eq_true (by omega)
   (try (have c15h := c15b0; simp only [hl6_1] at c15h))
   clear c15
   obtain ⟨c16, H⟩ := in_ H
   have c16b0 : ((rd l0_0 0) == 0) = false := beq_eq_false_iff_ne.mpr c16
   have c16b1 : ((rd l0_0 0) != 0) = true := bne_iff_ne.mpr c16
   obtain ⟨ji17, hji17⟩ : ∃ j_ : Int, (Int.tmod x20_1 (rd l0_0 0)) = j_ := ⟨_, rfl⟩
   replace H : (if 0 ≤ (ji17) then (if (ji17) < (t148.length : Int) then (if 0 ≤ x20_1 then (if x20_1 < (x6_1.length : Int) then (impl_table.l0 k1 t148 (x6_1.set (x20_1 : Int).toNat (decide ((rd t148 (ji17)) ≤ x20_1))) (y151.length : Int) (wrap64 (x20_1 + 1)) l0_0) else (none)) else (none)) else (none)) else (none)) = some r := by first | (rw [hji17] at H; exact H) | (simp only [hji17] at H ⊢; exact H)
   obtain ⟨c18b0, H⟩ := ipd_ H
   obtain ⟨c19, H⟩ := ip_ H
   have c19b0 : decide ((ji17) < (t148.length : Int)) = true := decide_eq_true c19
   (try (have c19h := c19b0; simp only [hl6_1] at c19h))
   clear c19
   obtain ⟨c20b0, H⟩ := ipd_ H
   obtain ⟨c21, H⟩ := ip_ H
   have c21b0 : decide (x20_1 < (x6_1.length : Int)) = true := decide_eq_true c21
   (try (have c21h := c21b0; simp only [hl6_1] at c21h))
   clear c21
   obtain ⟨y156, hy156⟩ : ∃ y_ : List Bool, y_ = (x6_1.set (x20_1 : Int).toNat (decide ((rd t148 (ji17)) ≤ x20_1))) := ⟨_, rfl⟩
   replace H : (impl_table.l0 k1 t148 y156 (y151.length : Int) (wrap64 (x20_1 + 1)) l0_0) = some r := by subst hy156; exact H
   have Ny156 := Aside0.mk hy156
   clear hy156
   have H' := Aside0.mk H
   clear H
   have hcz23_0 := cz_ BK146
   have hfz23_0 := blk_frozen BK146.out 0
   have p154 : 0 ≤ (0 : Int) := (by omega)
   have q154 : 0 < (l0_0.length : Int) := od_
   obtain ⟨ad154, e154, hx154_0⟩ := Kd.at_int HR0_0.out 0 p154 q154
   obtain rfl : ad147 = ad154 := (by injection e154)
   have qi154 : (0 < l0_0.length) = True := eq_true (by omega)
   (try rw [show ((0 : Int)).toNat = 0 from rfl] at hx154_0)
   (try rw [Addr.add_zero'] at hx154_0)
   (try replace hx154_0 := (HB.out.cell (World.block_lt_of_cell? w _ hx154_0)).trans hx154_0)
   replace p154 := eq_true p154
   replace q154 := eq_true q154
   obtain ⟨Ao24, co24, eo24⟩ := Kd.R_slice HO_5.out
   subst eo24
   have p155 : 0 ≤ ((ji17) : Int) := od_
   have q155 : (ji17) < (t148.length : Int) := od_
   obtain ⟨ad155, e155, hx155_0⟩ := Kd.at_int (Kd.R_reads' HO_5.out).2.2 (ji17) p155 q155
   cases e155
   replace p155 := eq_true p155
   replace q155 := eq_true q155
   have p22 : 0 ≤ (x20_1 : Int) := od_
   have q22 : (x20_1 : Int) < ((x6_1.length : Int) : Int) := od_
   obtain ⟨go22, co22, eo22, gb22, gl22, cl22, HG22⟩ := Kd.R_form HO_6.out (by omega)
   (first | cases eo22 | (injection eo22 with ea_ en_ ec_; (first | subst ea_ | (injection ea_ with ea_; subst ea_)); subst ec_; clear en_))
   have GB22 := Aside0.mk gb22
   have GG22 := Aside0.mk HG22
   clear gb22 gl22 HG22
   obtain ⟨hx22_0, hf22_0⟩ := Kd.R_celln false HO_6.out (x20_1 : Int) p22 q22
   replace p22 := eq_true p22
   replace q22 := eq_true q22
   have HP25 := Kd.R_putg HO_6.out (x20_1 : Int) (decide ((rd t148 (ji17)) ≤ x20_1))
   go_wp2_with (first | ((with_reducible refine gate_store (t := 4) (p := 36) rfl ?_); refine store_event (t := 4) (p := 36) (v := ?vo_w26) (w1 := (wr.setCell ⟨go22, (x20_1 : Int).toNat, none⟩ (.bool (decide ((rd t148 (ji17)) ≤ x20_1))))) ?hg ?ho ?hn ?hr ?_; (case ho => rfl); (case hg => rfl); (case hn => rfl); (case hr => first | (go_simp; done) | (go_simp; rfl)); intro w26 hw; have hg : wr.grownBy w26 (some go22) := (by rw [hw]; exact HP25.2); have hp_ : Kd.R Kd.bool 4 w26 w.heap.size (fun _ => True) (.slice (some ⟨go22, 0, none⟩) x6_1.length co13) y156 := (by rw [hw, Ny156.out]; exact HP25.1); clear HP25; replace HO_5 := Aside0.mk (Kd.R_over' (v := (.slice (some ⟨go22, 0, none⟩) x6_1.length co13)) (re_ HO_5.out) (Kd.R_typed HO_6.out) (by decide) hg); replace BK146 := Aside0.mk (blk_grown (be_ BK146.out) hg (Kd.R_ne HO_6.out BK146.out (by decide))); replace HO_6 := Aside0.mk (hp_); replace HB := Aside0.mk ((by rw [hw]; exact below_set (HB.out) GB22.out : Below w.heap.size w w26)); clear hg hw hp_))
   (try simp only [← hl6_1])
   go_roundg k1
   case measure => have := HK1.out; omega
   case rel => exact ⟨(y156), (wrap64 (x20_1 + 1)), rs_, H', ⟨by have := HK1.out; omega⟩, ⟨by (try simp only [hl6_1]); (with_reducible repeat (first | apply Kd.R_alloc | apply Kd.R_drewN | apply Kd.R_drew)); exact HO_5.out⟩, ⟨by (try simp only [hl6_1]); (with_reducible repeat (first | apply Kd.R_alloc | apply Kd.R_drewN | apply Kd.R_drew)); exact HO_6.out⟩, ⟨by (try simp only [hl6_1]); exact ba_ BK146⟩, ⟨bq_ HB⟩⟩
def impl_Gaps.l0 : Nat → List Int → List Bool → Int → Int → Option (List Int)
 | 0, _, _, _, _ => none
 | k + 1, x3, x11, x12, x13 => if x13 < x12 then (if 0 ≤ x13 then (if x13 < (x11.length : Int) then (if rdOf false x11 x13 = true then (impl_Gaps.l0 k x3 x11 x12 (wrap64 (x13 + 1))) else (if x3.length < 17592186044416 then (impl_Gaps.l0 k (x3 ++ [x13]) x11 x12 (wrap64 (x13 + 1))) else (none))) else (none)) else (none)) else (some x3)
def impl_Gaps.f (k : Nat) (l0_0 : List Int) : Option (List Int) := (impl_IsSemigroup.f k l0_0).bind fun t158 => (if t158 = true then ((impl_table.f k l0_0 200).bind fun t162 => (impl_Gaps.l0 k (([] : List Int)) t162 (t162.length : Int) 0)) else (some ([] : List Int)))
theorem impl_Gaps.calls (k : Nat) (A0_0 : Option Addr) (c0_0 : Nat) (l0_0 : List Int) (r : List Int) (w : World) (hr0_0 : Kd.C (Kd.int .i64) w A0_0 l0_0.length l0_0) (hc0_0 : l0_0.length ≤ c0_0) (h : impl_Gaps.f k l0_0 = some r) :
 Calls Try.prog 62 #[.agg #[.slice A0_0 l0_0.length c0_0]] w fun e w' => ∃ v0_ : Value, e = .returned (v0_) ∧ Kd.R (Kd.int .i64) 3 w' w.heap.size (fun _ => True) v0_ r ∧ Below w.heap.size w w' := by
 have hu26 := Try.underlying26
 have HR0_0 := Aside0.mk hr0_0
 have HC0_0 := Aside0.mk hc0_0
 clear hr0_0 hc0_0
 have HB := Aside0.mk (Below.refl w.heap.size w)
 have H := h
 clear h
 unfold impl_Gaps.f at H
 obtain ⟨t158, A2, H⟩ := ob_ H
 by_cases c3 : t158 = true
 rotate_left
 · replace c3 := Bool.eq_false_iff.mpr c3
   subst c3
   rw [if_neg (show ¬ (false = true) by decide)] at H
   obtain rfl := Option.some.inj H
   go_enter Try.func62, Try.ntmps62
   go_wp2_with (first | ((with_reducible refine gate_dst (N := 1) rfl ?_); refine bx_ 1 #[.slice A0_0 l0_0.length c0_0] 26 ?_; intro gb157 hg w20 hbox hb; have BK157 := Aside0.mk (hbox); have GW157 := gw_ hg HB; have GE157 := gw_ hg HB; replace HB := bo_ HB hb; clear hb hbox hg; have hcz21_0 := cz_ BK157; have hfz21_0 := blk_frozen BK157.out 0) | ((with_reducible refine gate_callee (f := 28) rfl ?_); refine gL_ (some 7) Try.func28 #[.agg #[.slice A0_0 l0_0.length c0_0]] ?_; (with_reducible refine (impl_IsSemigroup.calls k _ _ l0_0 false _ ?side1 ?side2 A2.out).mono ?_); (case side1 => exact ch_ HR0_0 HB); (case side2 => exact HC0_0.out); rintro e w22 ⟨rfl, hb⟩; refine ⟨_, rfl, ?_⟩; replace BK157 := bk_ BK157 hb; replace HB := bp_ HB hb; (try clear hb)))
   go_ret
   exact ⟨_, rf_, by first | exact Kd.R_nil _ _ _ _ _ | exact Kd.N_nil _ _ _ _ _ | exact Kd.V_nil _ _ _ _ _ | exact Kd.Q_nil _ _ _ _ _ | exact Kd.S_nil _ _ _ _ _, bq_ HB⟩
 subst c3
 rw [if_pos rfl] at H
 obtain ⟨y159, hy159⟩ : ∃ y_ : List Int, y_ = (([] : List Int)) := ⟨_, rfl⟩
 replace H : ((impl_table.f k l0_0 200).bind fun t162 => (impl_Gaps.l0 k y159 t162 (t162.length : Int) 0)) = some r := by subst hy159; exact H
 have Ny159 := Aside0.mk hy159
 clear hy159
 obtain ⟨t162, A4, H⟩ := ob_ H
 have H' := Aside0.mk H
 clear H
 go_enter Try.func62, Try.ntmps62
 go_wp2_with (first | ((with_reducible refine gate_dst (N := 1) rfl ?_); refine bx_ 1 #[.slice A0_0 l0_0.length c0_0] 26 ?_; intro gb157 hg w5 hbox hb; have BK157 := Aside0.mk (hbox); have GW157 := gw_ hg HB; have GE157 := gw_ hg HB; replace HB := bo_ HB hb; clear hb hbox hg; have hcz6_0 := cz_ BK157; have hfz6_0 := blk_frozen BK157.out 0) | ((with_reducible refine gate_callee (f := 28) rfl ?_); refine gL_ (some 7) Try.func28 #[.agg #[.slice A0_0 l0_0.length c0_0]] ?_; (with_reducible refine (impl_IsSemigroup.calls k _ _ l0_0 true _ ?side1 ?side2 A2.out).mono ?_); (case side1 => exact ch_ HR0_0 HB); (case side2 => exact HC0_0.out); rintro e w7 ⟨rfl, hb⟩; refine ⟨_, rfl, ?_⟩; replace BK157 := bk_ BK157 hb; replace HB := bp_ HB hb; (try clear hb)) | ((with_reducible refine gate_dst (N := 9) rfl ?_); refine Kd.R_lit (Kd.int .i64) _ 3 ?hg (N := 9) ?hd (xs := ([] : List Int)) (inner := []) (ok := fun _ => True) (okp := fun _ => True) ?hr ?hp (fun _ hk => hk) trivial (Below.refl _ _) (Nat.le_refl _) (by simp) ?_; (case hd => rfl); (case hg => rfl); (case hr => first | (go_simp; done) | (go_simp; rfl)); (case hp => exact (Reps.none _ _)); intro v160 w8 ho9 hb hg_ hnew_; clear hg_ hnew_; (first | rw [← Ny159.out] at ho9 | (simp only [Int.reduceToNat] at ho9; rw [← Ny159.out] at ho9)); have HO161 := Aside0.mk (Kd.R_lower ho9 (below_size (bq_ HB))); replace BK157 := bk_ BK157 hb; replace HB := bp_ HB hb; clear hb ho9; have hcz10_0 := cz_ BK157; have hfz10_0 := blk_frozen BK157.out 0) | ((with_reducible refine gate_callee (f := 92) rfl ?_); refine gL_ (some 11) Try.func92 #[.agg #[.slice A0_0 l0_0.length c0_0], .int .i64 200] ?_; (with_reducible refine (impl_table.calls k _ _ l0_0 200 t162 _ ?side1 ?side2 A4.out).mono ?_); (case side1 => exact ch_ HR0_0 HB); (case side2 => exact HC0_0.out); rintro e w11 ⟨v163, rfl, ho0, hb⟩; refine ⟨_, rfl, ?_⟩; replace HO161 := Aside0.mk (Kd.R_below (re_ HO161.out) hb); have HO164 := Aside0.mk (Kd.R_lower ho0 (below_size (bq_ HB))); replace BK157 := bk_ BK157 hb; replace HB := bp_ HB hb; (try clear hb); (try clear ho0); obtain ⟨Ao12, co12, eo12⟩ := Kd.R_slice HO164.out; subst eo12))
 go_loopg [3, 13] k (fun kq v3 v13 w' => ∃ (x3_1 : List Int) (x13_1 : Int), v13 = .int .i64 x13_1 ∧ Aside0 (impl_Gaps.l0 kq x3_1 t162 (t162.length : Int) x13_1 = some r) ∧ Aside0 (kq ≤ k) ∧ Aside0 (Kd.R (Kd.int .i64) 3 w' w.heap.size (fun _ => True) v3 x3_1) ∧ Aside0 (Kd.R Kd.bool 4 w' w.heap.size (fun _ => True) (.slice Ao12 t162.length co12) t162) ∧ Aside0 (w'.heap[gb157]? = some (.cells #[(.slice A0_0 l0_0.length c0_0)] 26 (0, 0))) ∧ Aside0 (Below w.heap.size w w'))
 case atStart => exact ⟨(y159), (0), rs_, H', ⟨Nat.le_refl _⟩, ⟨re_ HO161.out⟩, ⟨re_ HO164.out⟩, ⟨be_ BK157.out⟩, ⟨bq_ HB⟩⟩
 case round =>
  clear H'
  try clear hcz10_0
  try clear hcz6_0
  try clear hfz10_0
  try clear hfz6_0
  obtain ⟨x3_1, x13_1, rfl, HA, HK1, HO_3, HO_11, BK157, HB⟩ := hrel
  cases gk with
  | zero => exact absurd HA.out (by simp [impl_Gaps.l0])
  | succ k1 =>
   have H := HA.out
   clear HA
   simp only [impl_Gaps.l0] at H
   by_cases c13 : x13_1 < (t162.length : Int)
   rotate_left
   · rw [if_neg c13] at H
     have c13b0 : decide (x13_1 < (t162.length : Int)) = false := decide_eq_false c13
     clear c13
     obtain rfl := Option.some.inj H
     go_wp2
     go_ret
     exact ⟨_, rf_, re_ HO_3.out, bq_ HB⟩
   rw [if_pos c13] at H
   have c13b0 : decide (x13_1 < (t162.length : Int)) = true := decide_eq_true c13
   clear c13
   obtain ⟨c14b0, H⟩ := ipd_ H
   obtain ⟨c15b0, H⟩ := ipd_ H
   obtain ⟨bq16, hbq16⟩ : ∃ b_ : Bool, b_ = (rdOf false t162 x13_1) := ⟨_, rfl⟩
   replace H : (if bq16 = true then (impl_Gaps.l0 k1 x3_1 t162 (t162.length : Int) (wrap64 (x13_1 + 1))) else (if x3_1.length < 17592186044416 then (impl_Gaps.l0 k1 (x3_1 ++ [x13_1]) t162 (t162.length : Int) (wrap64 (x13_1 + 1))) else (none))) = some r := by rw [← hbq16] at H; exact H
   have Nbq16 := Aside0.mk hbq16
   clear hbq16
   by_cases c17 : bq16 = true
   · subst c17
     rw [if_pos rfl] at H
     have H' := Aside0.mk H
     clear H
     have p165 : 0 ≤ (x13_1 : Int) := od_
     have q165 : x13_1 < (t162.length : Int) := od_
     obtain ⟨ad165, e165, hx165_0⟩ := Kd.at_bool (Kd.R_reads' HO_11.out).2.2 x13_1 p165 q165
     (try rw [← Nbq16.out] at hx165_0)
     cases e165
     replace p165 := eq_true p165
     replace q165 := eq_true q165
     go_wp2
     go_roundg k1
     case measure => have := HK1.out; omega
     case rel => exact ⟨(x3_1), (wrap64 (x13_1 + 1)), rs_, H', ⟨by have := HK1.out; omega⟩, ⟨re_ HO_3.out⟩, ⟨re_ HO_11.out⟩, ⟨be_ BK157.out⟩, ⟨bq_ HB⟩⟩
   replace c17 := Bool.eq_false_iff.mpr c17
   subst c17
   rw [if_neg (show ¬ (false = true) by decide)] at H
   obtain ⟨c18, H⟩ := ip_ H
   have LMc18 := Aside0.mk c18
   clear c18
   obtain ⟨y166, hy166⟩ : ∃ y_ : List Int, y_ = (x3_1 ++ [x13_1]) := ⟨_, rfl⟩
   replace H : (impl_Gaps.l0 k1 y166 t162 (t162.length : Int) (wrap64 (x13_1 + 1))) = some r := by subst hy166; exact H
   have Ny166 := Aside0.mk hy166
   clear hy166
   have H' := Aside0.mk H
   clear H
   have p165 : 0 ≤ (x13_1 : Int) := od_
   have q165 : x13_1 < (t162.length : Int) := od_
   obtain ⟨ad165, e165, hx165_0⟩ := Kd.at_bool (Kd.R_reads' HO_11.out).2.2 x13_1 p165 q165
   (try rw [← Nbq16.out] at hx165_0)
   cases e165
   replace p165 := eq_true p165
   replace q165 := eq_true q165
   go_wp2_with (first | ((with_reducible refine gate_builtin (b := .append) (xs := #[.tmp 20, .tmp 22]) rfl ?_); at_builtin; refine Kd.R_append (Kd.int .i64) (w0 := w) w.heap.size rfl (.tmp 20) (.tmp 22) 24 3 (.int .i64 0) 8 rfl Try.underlying24 info3 rfl (by decide) (by omega) u3 x3_1 x13_1 [.int .i64 x13_1] (fun _ => True) (fun _ => False) rfl rfl ?aP (fun _ hk => hk.elim) ?aF ?aO ?aB ?aS ?aL ?_; (case aP => exact rfl); (case aB => exact (bq_ HB)); (case aF => exact (fun _ _ => trivial)); (case aO => exact (re_ HO_3.out)); (case aS => exact (below_size (bq_ HB))); (case aL => have := LMc18.out; omega); intro v167 w19 ho hb hg hat; rw [← Ny166.out] at ho; replace HO_11 := Aside0.mk (Kd.R_over' (re_ HO_11.out) (Kd.R_typed (re_ HO_3.out)) (by decide) hg); replace BK157 := Aside0.mk (blk_grown (be_ BK157.out) hg (Kd.R_ne HO_3.out BK157.out (by decide))); replace HB := Aside0.mk (hb); have HO168 := Aside0.mk (ho); clear HO_3; clear ho hb hg hat))
   go_roundg k1
   case measure => have := HK1.out; omega
   case rel => exact ⟨(y166), (wrap64 (x13_1 + 1)), rs_, H', ⟨by have := HK1.out; omega⟩, ⟨re_ HO168.out⟩, ⟨re_ HO_11.out⟩, ⟨be_ BK157.out⟩, ⟨bq_ HB⟩⟩
def impl_GenusOf.f (k : Nat) (l0_0 : List Int) : Option (Int) := (impl_IsSemigroup.f k l0_0).bind fun t170 => (if t170 = true then ((impl_Gaps.f k l0_0).bind fun t171 => (some (t171.length : Int))) else (some (-1)))
theorem impl_GenusOf.calls (k : Nat) (A0_0 : Option Addr) (c0_0 : Nat) (l0_0 : List Int) (r : Int) (w : World) (hr0_0 : Kd.C (Kd.int .i64) w A0_0 l0_0.length l0_0) (hc0_0 : l0_0.length ≤ c0_0) (h : impl_GenusOf.f k l0_0 = some r) :
 Calls Try.prog 68 #[.agg #[.slice A0_0 l0_0.length c0_0]] w fun e w' => e = .returned (.int .i64 r) ∧ Below w.heap.size w w' := by
 have hu26 := Try.underlying26
 have HR0_0 := Aside0.mk hr0_0
 have HC0_0 := Aside0.mk hc0_0
 clear hr0_0 hc0_0
 have HB := Aside0.mk (Below.refl w.heap.size w)
 have H := h
 clear h
 unfold impl_GenusOf.f at H
 obtain ⟨t170, A2, H⟩ := ob_ H
 by_cases c3 : t170 = true
 rotate_left
 · replace c3 := Bool.eq_false_iff.mpr c3
   subst c3
   rw [if_neg (show ¬ (false = true) by decide)] at H
   obtain rfl := Option.some.inj H
   go_enter Try.func68, Try.ntmps68
   go_wp2_with (first | ((with_reducible refine gate_dst (N := 1) rfl ?_); refine bx_ 1 #[.slice A0_0 l0_0.length c0_0] 26 ?_; intro gb169 hg w11 hbox hb; have BK169 := Aside0.mk (hbox); have GW169 := gw_ hg HB; have GE169 := gw_ hg HB; replace HB := bo_ HB hb; clear hb hbox hg; have hcz12_0 := cz_ BK169; have hfz12_0 := blk_frozen BK169.out 0) | ((with_reducible refine gate_callee (f := 28) rfl ?_); refine gL_ (some 4) Try.func28 #[.agg #[.slice A0_0 l0_0.length c0_0]] ?_; (with_reducible refine (impl_IsSemigroup.calls k _ _ l0_0 false _ ?side1 ?side2 A2.out).mono ?_); (case side1 => exact ch_ HR0_0 HB); (case side2 => exact HC0_0.out); rintro e w13 ⟨rfl, hb⟩; refine ⟨_, rfl, ?_⟩; replace BK169 := bk_ BK169 hb; replace HB := bp_ HB hb; (try clear hb)))
   go_ret
   exact ⟨rf_, bq_ HB⟩
 subst c3
 rw [if_pos rfl] at H
 obtain ⟨t171, A4, H⟩ := ob_ H
 obtain rfl := Option.some.inj H
 go_enter Try.func68, Try.ntmps68
 go_wp2_with (first | ((with_reducible refine gate_dst (N := 1) rfl ?_); refine bx_ 1 #[.slice A0_0 l0_0.length c0_0] 26 ?_; intro gb169 hg w5 hbox hb; have BK169 := Aside0.mk (hbox); have GW169 := gw_ hg HB; have GE169 := gw_ hg HB; replace HB := bo_ HB hb; clear hb hbox hg; have hcz6_0 := cz_ BK169; have hfz6_0 := blk_frozen BK169.out 0) | ((with_reducible refine gate_callee (f := 28) rfl ?_); refine gL_ (some 4) Try.func28 #[.agg #[.slice A0_0 l0_0.length c0_0]] ?_; (with_reducible refine (impl_IsSemigroup.calls k _ _ l0_0 true _ ?side1 ?side2 A2.out).mono ?_); (case side1 => exact ch_ HR0_0 HB); (case side2 => exact HC0_0.out); rintro e w7 ⟨rfl, hb⟩; refine ⟨_, rfl, ?_⟩; replace BK169 := bk_ BK169 hb; replace HB := bp_ HB hb; (try clear hb); have hcz8_0 := cz_ BK169; have hfz8_0 := blk_frozen BK169.out 0) | ((with_reducible refine gate_callee (f := 62) rfl ?_); refine gL_ (some 7) Try.func62 #[.agg #[.slice A0_0 l0_0.length c0_0]] ?_; (with_reducible refine (impl_Gaps.calls k _ _ l0_0 t171 _ ?side1 ?side2 A4.out).mono ?_); (case side1 => exact ch_ HR0_0 HB); (case side2 => exact HC0_0.out); rintro e w9 ⟨v172, rfl, ho0, hb⟩; refine ⟨_, rfl, ?_⟩; have HO173 := Aside0.mk (Kd.R_lower ho0 (below_size (bq_ HB))); replace BK169 := bk_ BK169 hb; replace HB := bp_ HB hb; (try clear hb); (try clear ho0); obtain ⟨Ao10, co10, eo10⟩ := Kd.R_slice HO173.out; subst eo10))
 go_ret
 exact ⟨rf_, bq_ HB⟩
def cmp_isNaN_int.f (a0 : Int) : Option (Bool) := some (a0 != a0)
theorem cmp_isNaN_int.calls (a0 : Int) (r : Bool) (w : World) (h : cmp_isNaN_int.f a0 = some r) :
 Calls Try.prog 117 #[.int .i64 a0] w fun e w' => e = .returned (.bool r) ∧ Drawn0 w w' := by
 have H := h
 clear h
 unfold cmp_isNaN_int.f at H
 obtain rfl := Option.some.inj H
 go_enter Try.func117, Try.ntmps117
 go_wp2
 go_ret
 exact ⟨by first | rfl | (simp; done) | (simp [*]; done), by repeat (first | exact Drawn0.refl _ | apply Drawn0.step)⟩
def cmp_Compare_int.f (a0 : Int) (a1 : Int) : Option (Int) := (cmp_isNaN_int.f a0).bind fun t174 => ((cmp_isNaN_int.f a1).bind fun t175 => (if t174 = true then (if t175 = true then (some 0) else (some (-1))) else (if t175 = true then (some 1) else (if a0 < a1 then (some (-1)) else (if a0 > a1 then (some 1) else (some 0))))))
theorem cmp_Compare_int.calls (a0 : Int) (a1 : Int) (r : Int) (w : World) (h : cmp_Compare_int.f a0 a1 = some r) :
 Calls Try.prog 102 #[.int .i64 a0, .int .i64 a1] w fun e w' => e = .returned (.int .i64 r) ∧ Drawn0 w w' := by
 have H := h
 clear h
 unfold cmp_Compare_int.f at H
 obtain ⟨t174, A3, H⟩ := ob_ H
 obtain ⟨t175, A4, H⟩ := ob_ H
 by_cases c5 : t174 = true
 · subst c5
   rw [if_pos rfl] at H
   by_cases c6 : t175 = true
   · subst c6
     rw [if_pos rfl] at H
     obtain rfl := Option.some.inj H
     go_enter Try.func102, Try.ntmps102
     go_wp2_with (first | ((with_reducible refine gate_callee (f := 117) rfl ?_); refine gL_ (some 8) Try.func117 #[.int .i64 a0] ?_; (with_reducible refine (cmp_isNaN_int.calls a0 true _ A3.out).mono ?_); rintro e w' ⟨rfl, ⟨nd, rfl⟩⟩; refine ⟨_, rfl, ?_⟩) | ((with_reducible refine gate_callee (f := 117) rfl ?_); refine gL_ (some 10) Try.func117 #[.int .i64 a1] ?_; (with_reducible refine (cmp_isNaN_int.calls a1 true _ A4.out).mono ?_); rintro e w' ⟨rfl, ⟨nd, rfl⟩⟩; refine ⟨_, rfl, ?_⟩))
     go_ret
     exact ⟨by first | rfl | (simp; done) | (simp [*]; done), by repeat (first | exact Drawn0.refl _ | apply Drawn0.step)⟩
   replace c6 := Bool.eq_false_iff.mpr c6
   subst c6
   rw [if_neg (show ¬ (false = true) by decide)] at H
   obtain rfl := Option.some.inj H
   go_enter Try.func102, Try.ntmps102
   go_wp2_with (first | ((with_reducible refine gate_callee (f := 117) rfl ?_); refine gL_ (some 8) Try.func117 #[.int .i64 a0] ?_; (with_reducible refine (cmp_isNaN_int.calls a0 true _ A3.out).mono ?_); rintro e w' ⟨rfl, ⟨nd, rfl⟩⟩; refine ⟨_, rfl, ?_⟩) | ((with_reducible refine gate_callee (f := 117) rfl ?_); refine gL_ (some 10) Try.func117 #[.int .i64 a1] ?_; (with_reducible refine (cmp_isNaN_int.calls a1 false _ A4.out).mono ?_); rintro e w' ⟨rfl, ⟨nd, rfl⟩⟩; refine ⟨_, rfl, ?_⟩))
   go_ret
   exact ⟨by first | rfl | (simp; done) | (simp [*]; done), by repeat (first | exact Drawn0.refl _ | apply Drawn0.step)⟩
 replace c5 := Bool.eq_false_iff.mpr c5
 subst c5
 rw [if_neg (show ¬ (false = true) by decide)] at H
 by_cases c7 : t175 = true
 · subst c7
   rw [if_pos rfl] at H
   obtain rfl := Option.some.inj H
   go_enter Try.func102, Try.ntmps102
   go_wp2_with (first | ((with_reducible refine gate_callee (f := 117) rfl ?_); refine gL_ (some 8) Try.func117 #[.int .i64 a0] ?_; (with_reducible refine (cmp_isNaN_int.calls a0 false _ A3.out).mono ?_); rintro e w' ⟨rfl, ⟨nd, rfl⟩⟩; refine ⟨_, rfl, ?_⟩) | ((with_reducible refine gate_callee (f := 117) rfl ?_); refine gL_ (some 10) Try.func117 #[.int .i64 a1] ?_; (with_reducible refine (cmp_isNaN_int.calls a1 true _ A4.out).mono ?_); rintro e w' ⟨rfl, ⟨nd, rfl⟩⟩; refine ⟨_, rfl, ?_⟩))
   go_ret
   exact ⟨by first | rfl | (simp; done) | (simp [*]; done), by repeat (first | exact Drawn0.refl _ | apply Drawn0.step)⟩
 replace c7 := Bool.eq_false_iff.mpr c7
 subst c7
 rw [if_neg (show ¬ (false = true) by decide)] at H
 by_cases c8 : a0 < a1
 · rw [if_pos c8] at H
   have c8b0 : decide (a0 < a1) = true := decide_eq_true c8
   clear c8
   obtain rfl := Option.some.inj H
   go_enter Try.func102, Try.ntmps102
   go_wp2_with (first | ((with_reducible refine gate_callee (f := 117) rfl ?_); refine gL_ (some 8) Try.func117 #[.int .i64 a0] ?_; (with_reducible refine (cmp_isNaN_int.calls a0 false _ A3.out).mono ?_); rintro e w' ⟨rfl, ⟨nd, rfl⟩⟩; refine ⟨_, rfl, ?_⟩) | ((with_reducible refine gate_callee (f := 117) rfl ?_); refine gL_ (some 10) Try.func117 #[.int .i64 a1] ?_; (with_reducible refine (cmp_isNaN_int.calls a1 false _ A4.out).mono ?_); rintro e w' ⟨rfl, ⟨nd, rfl⟩⟩; refine ⟨_, rfl, ?_⟩))
   go_ret
   exact ⟨by first | rfl | (simp; done) | (simp [*]; done), by repeat (first | exact Drawn0.refl _ | apply Drawn0.step)⟩
 rw [if_neg c8] at H
 have c8b0 : decide (a0 < a1) = false := decide_eq_false c8
 clear c8
 by_cases c9 : a0 > a1
 rotate_left
 · rw [if_neg c9] at H
   have c9b0 : decide (a1 < a0) = false := decide_eq_false c9
   clear c9
   obtain rfl := Option.some.inj H
   go_enter Try.func102, Try.ntmps102
   go_wp2_with (first | ((with_reducible refine gate_callee (f := 117) rfl ?_); refine gL_ (some 8) Try.func117 #[.int .i64 a0] ?_; (with_reducible refine (cmp_isNaN_int.calls a0 false _ A3.out).mono ?_); rintro e w' ⟨rfl, ⟨nd, rfl⟩⟩; refine ⟨_, rfl, ?_⟩) | ((with_reducible refine gate_callee (f := 117) rfl ?_); refine gL_ (some 10) Try.func117 #[.int .i64 a1] ?_; (with_reducible refine (cmp_isNaN_int.calls a1 false _ A4.out).mono ?_); rintro e w' ⟨rfl, ⟨nd, rfl⟩⟩; refine ⟨_, rfl, ?_⟩))
   go_ret
   exact ⟨by first | rfl | (simp; done) | (simp [*]; done), by repeat (first | exact Drawn0.refl _ | apply Drawn0.step)⟩
 rw [if_pos c9] at H
 have c9b0 : decide (a1 < a0) = true := decide_eq_true c9
 clear c9
 obtain rfl := Option.some.inj H
 go_enter Try.func102, Try.ntmps102
 go_wp2_with (first | ((with_reducible refine gate_callee (f := 117) rfl ?_); refine gL_ (some 8) Try.func117 #[.int .i64 a0] ?_; (with_reducible refine (cmp_isNaN_int.calls a0 false _ A3.out).mono ?_); rintro e w' ⟨rfl, ⟨nd, rfl⟩⟩; refine ⟨_, rfl, ?_⟩) | ((with_reducible refine gate_callee (f := 117) rfl ?_); refine gL_ (some 10) Try.func117 #[.int .i64 a1] ?_; (with_reducible refine (cmp_isNaN_int.calls a1 false _ A4.out).mono ?_); rintro e w' ⟨rfl, ⟨nd, rfl⟩⟩; refine ⟨_, rfl, ?_⟩))
 go_ret
 exact ⟨by first | rfl | (simp; done) | (simp [*]; done), by repeat (first | exact Drawn0.refl _ | apply Drawn0.step)⟩
def slices_Compare_int_int.l0 : Nat → List Int → List Int → List Int → Int → Int → Option (Int)
 | 0, _, _, _, _, _ => none
 | k + 1, x0, x1, x9, x10, x11 => if x11 < x10 then (if 0 ≤ x11 then (if x11 < (x9.length : Int) then (if x11 ≥ (x1.length : Int) then (some 1) else (if x11 < (x1.length : Int) then ((cmp_Compare_int.f (rd x9 x11) (rd x1 x11)).bind fun t178 => (if t178 = 0 then (slices_Compare_int_int.l0 k x0 x1 x9 x10 (wrap64 (x11 + 1))) else (some t178))) else (none))) else (none)) else (none)) else (if (x0.length : Int) < (x1.length : Int) then (some (-1)) else (some 0))
def slices_Compare_int_int.f (k : Nat) (l0 : List Int) (l1 : List Int) : Option (Int) := slices_Compare_int_int.l0 k l0 l1 l0 (l0.length : Int) 0
theorem slices_Compare_int_int.calls (k : Nat) (A0 : Option Addr) (c0 : Nat) (l0 : List Int) (A1 : Option Addr) (c1 : Nat) (l1 : List Int) (r : Int) (w : World) (hr0 : Kd.C (Kd.int .i64) w A0 l0.length l0) (hc0 : l0.length ≤ c0) (hr1 : Kd.C (Kd.int .i64) w A1 l1.length l1) (hc1 : l1.length ≤ c1) (h : slices_Compare_int_int.f k l0 l1 = some r) :
 Calls Try.prog 79 #[.slice A0 l0.length c0, .slice A1 l1.length c1] w fun e w' => e = .returned (.int .i64 r) ∧ Drawn0 w w' := by
 have HR0 := Aside0.mk hr0
 have HC0 := Aside0.mk hc0
 clear hr0 hc0
 have HR1 := Aside0.mk hr1
 have HC1 := Aside0.mk hc1
 clear hr1 hc1
 have H := h
 clear h
 unfold slices_Compare_int_int.f at H
 have H' := Aside0.mk H
 clear H
 go_enter Try.func79, Try.ntmps79
 go_wp2
 go_loopg [11] k (fun kq v11 w' => ∃ (x11_1 : Int), v11 = .int .i64 x11_1 ∧ Aside0 (slices_Compare_int_int.l0 kq l0 l1 l0 (l0.length : Int) x11_1 = some r) ∧ Aside0 (kq ≤ k) ∧ Drawn0 w w')
 case atStart => exact ⟨(0), rs_, H', ⟨Nat.le_refl _⟩, by repeat (first | exact Drawn0.refl _ | apply Drawn0.step)⟩
 case round =>
  clear H'
  try clear c1
  obtain ⟨x11_1, rfl, HA, HK1, ⟨m1, rfl⟩⟩ := hrel
  cases gk with
  | zero => exact absurd HA.out (by simp [slices_Compare_int_int.l0])
  | succ k1 =>
   have H := HA.out
   clear HA
   simp only [slices_Compare_int_int.l0] at H
   by_cases c3 : x11_1 < (l0.length : Int)
   rotate_left
   · rw [if_neg c3] at H
     have c3b0 : decide (x11_1 < (l0.length : Int)) = false := decide_eq_false c3
     clear c3
     by_cases c10 : (l0.length : Int) < (l1.length : Int)
     rotate_left
     · rw [if_neg c10] at H
       have c10b0 : decide ((l0.length : Int) < (l1.length : Int)) = false := decide_eq_false c10
       have c10b1 : decide (l0.length < l1.length) = false := decide_eq_false (fun h => c10 (Int.ofNat_lt.mpr h))
       clear c10
       obtain rfl := Option.some.inj H
       go_wp2
       go_ret
       exact ⟨by first | rfl | (simp; done) | (simp [*]; done), by repeat (first | exact Drawn0.refl _ | apply Drawn0.step)⟩
     rw [if_pos c10] at H
     have c10b0 : decide ((l0.length : Int) < (l1.length : Int)) = true := decide_eq_true c10
     have c10b1 : decide (l0.length < l1.length) = true := decide_eq_true (Int.ofNat_lt.mp c10)
     clear c10
     obtain rfl := Option.some.inj H
     go_wp2
     go_ret
     exact ⟨by first | rfl | (simp; done) | (simp [*]; done), by repeat (first | exact Drawn0.refl _ | apply Drawn0.step)⟩
   rw [if_pos c3] at H
   have c3b0 : decide (x11_1 < (l0.length : Int)) = true := decide_eq_true c3
   clear c3
   obtain ⟨c4b0, H⟩ := ipd_ H
   obtain ⟨c5b0, H⟩ := ipd_ H
   by_cases c6 : x11_1 ≥ (l1.length : Int)
   · rw [if_pos c6] at H
     have c6b0 : decide ((l1.length : Int) ≤ x11_1) = true := decide_eq_true c6
     clear c6
     obtain rfl := Option.some.inj H
     have p176 : 0 ≤ (x11_1 : Int) := od_
     have q176 : x11_1 < (l0.length : Int) := od_
     obtain ⟨ad176, e176, hx176_0⟩ := Kd.at_int HR0.out x11_1 p176 q176
     cases e176
     replace p176 := eq_true p176
     replace q176 := eq_true q176
     go_wp2
     go_ret
     exact ⟨by first | rfl | (simp; done) | (simp [*]; done), by repeat (first | exact Drawn0.refl _ | apply Drawn0.step)⟩
   rw [if_neg c6] at H
   have c6b0 : decide ((l1.length : Int) ≤ x11_1) = false := decide_eq_false c6
   clear c6
   obtain ⟨c7b0, H⟩ := ipd_ H
   obtain ⟨t178, A8, H⟩ := ob_ H
   by_cases c9 : t178 = 0
   rotate_left
   · rw [if_neg c9] at H
     have c9b0 : (t178 == 0) = false := beq_eq_false_iff_ne.mpr c9
     have c9b1 : (t178 != 0) = true := bne_iff_ne.mpr c9
     obtain rfl := Option.some.inj H
     have p176 : 0 ≤ (x11_1 : Int) := od_
     have q176 : x11_1 < (l0.length : Int) := od_
     obtain ⟨ad176, e176, hx176_0⟩ := Kd.at_int HR0.out x11_1 p176 q176
     cases e176
     replace p176 := eq_true p176
     replace q176 := eq_true q176
     have p177 : 0 ≤ (x11_1 : Int) := od_
     have q177 : x11_1 < (l1.length : Int) := od_
     obtain ⟨ad177, e177, hx177_0⟩ := Kd.at_int HR1.out x11_1 p177 q177
     cases e177
     replace p177 := eq_true p177
     replace q177 := eq_true q177
     go_wp2_with (first | ((with_reducible refine gate_callee (f := 102) rfl ?_); refine gL_ (some 26) Try.func102 #[.int .i64 (rd l0 x11_1), .int .i64 (rd l1 x11_1)] ?_; (with_reducible refine (cmp_Compare_int.calls (rd l0 x11_1) (rd l1 x11_1) t178 _ A8.out).mono ?_); rintro e w' ⟨rfl, ⟨nd, rfl⟩⟩; refine ⟨_, rfl, ?_⟩))
     go_ret
     exact ⟨by first | rfl | (simp; done) | (simp [*]; done), by repeat (first | exact Drawn0.refl _ | apply Drawn0.step)⟩
   rw [if_pos c9] at H
   have c9b0 : (t178 == 0) = true := beq_iff_eq.mpr c9
   have c9b1 : (t178 != 0) = false := bne_eq_false_iff_eq.mpr c9
   clear c9
   have H' := Aside0.mk H
   clear H
   have p176 : 0 ≤ (x11_1 : Int) := od_
   have q176 : x11_1 < (l0.length : Int) := od_
   obtain ⟨ad176, e176, hx176_0⟩ := Kd.at_int HR0.out x11_1 p176 q176
   cases e176
   replace p176 := eq_true p176
   replace q176 := eq_true q176
   have p177 : 0 ≤ (x11_1 : Int) := od_
   have q177 : x11_1 < (l1.length : Int) := od_
   obtain ⟨ad177, e177, hx177_0⟩ := Kd.at_int HR1.out x11_1 p177 q177
   cases e177
   replace p177 := eq_true p177
   replace q177 := eq_true q177
   go_wp2_with (first | ((with_reducible refine gate_callee (f := 102) rfl ?_); refine gL_ (some 26) Try.func102 #[.int .i64 (rd l0 x11_1), .int .i64 (rd l1 x11_1)] ?_; (with_reducible refine (cmp_Compare_int.calls (rd l0 x11_1) (rd l1 x11_1) t178 _ A8.out).mono ?_); rintro e w' ⟨rfl, ⟨nd, rfl⟩⟩; refine ⟨_, rfl, ?_⟩))
   go_roundg k1
   case measure => have := HK1.out; omega
   case rel => exact ⟨(wrap64 (x11_1 + 1)), rs_, H', ⟨by have := HK1.out; omega⟩, by repeat (first | exact Drawn0.refl _ | apply Drawn0.step)⟩
end Go.Proofs.Ytonknpgfbkgbjaa.PC
end
