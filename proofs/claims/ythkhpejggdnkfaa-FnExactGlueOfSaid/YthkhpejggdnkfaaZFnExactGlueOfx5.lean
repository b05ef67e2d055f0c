-- Bundled by shake.py from this session's printed and written texts; Lean checks it.
import Derived.Test.YthkhpejggdnkfaaZFnExactGlueOfx1
import Derived.Test.YthkhpejggdnkfaaZFnExactGlueOfx4
section
namespace Go.Proofs.Ythkhpejggdnkfaa.PA
open Go.RowKit Go.Proofs.YthkhpejggdnkfaaW.PrintWords Go.Proofs.YthkhpejggdnkfaaW.PrintLast Go.Proofs.YthkhpejggdnkfaaW.PrintMore
set_option linter.unusedVariables false
set_option linter.unusedSimpArgs false
mutual
def impl_leasts.l0 : Nat → List Int → Int → List Int → Int → Int → Option (List Int)
 | 0, _, _, _, _, _ => none
 | k + 1, x0, x1, x5, x16, x17 => if x17 < x16 then (if 0 ≤ x17 then (if x17 < (x5.length : Int) then (impl_leasts.l0 k x0 x1 (x5.set (x17 : Int).toNat (-1)) x16 (wrap64 (x17 + 1))) else (none)) else (none)) else (if 0 < (x5.length : Int) then (impl_leasts.l1 k x0 x1 (x5.set (0 : Int).toNat 0) true) else (none))
def impl_leasts.l1 : Nat → List Int → Int → List Int → Bool → Option (List Int)
 | 0, _, _, _, _ => none
 | k + 1, x0, x1, x5, x7 => if x7 = true then (impl_leasts.l2 k x0 x1 x5 false (x5.length : Int) 0) else (some x5)
def impl_leasts.l2 : Nat → List Int → Int → List Int → Bool → Int → Int → Option (List Int)
 | 0, _, _, _, _, _, _ => none
 | k + 1, x0, x1, x5, x7, x28, x29 => if x29 < x28 then (if 0 ≤ x29 then (if x29 < (x5.length : Int) then (if (rd x5 x29) < 0 then (impl_leasts.l2 k x0 x1 x5 x7 x28 (wrap64 (x29 + 1))) else (impl_leasts.l3 k x0 x1 x5 x7 x29 (rd x5 x29) x28 x29 x0 (x0.length : Int) 0)) else (none)) else (none)) else (impl_leasts.l1 k x0 x1 x5 x7)
def impl_leasts.l3 : Nat → List Int → Int → List Int → Bool → Int → Int → Int → Int → List Int → Int → Int → Option (List Int)
 | 0, _, _, _, _, _, _, _, _, _, _, _ => none
 | k + 1, x0, x1, x5, x7, x8, x9, x28, x29, x36, x37, x38 => if x38 < x37 then (if 0 ≤ x38 then (if x38 < (x36.length : Int) then (if x1 = 0 then (none) else (if 0 ≤ (Int.tmod (wrap64 (x8 + (rd x36 x38))) x1) then (if (Int.tmod (wrap64 (x8 + (rd x36 x38))) x1) < (x5.length : Int) then (if (rd x5 (Int.tmod (wrap64 (x8 + (rd x36 x38))) x1)) < 0 then (impl_leasts.l3 k x0 x1 (x5.set ((Int.tmod (wrap64 (x8 + (rd x36 x38))) x1) : Int).toNat (wrap64 (x9 + (rd x36 x38)))) true x8 x9 x28 x29 x36 x37 (wrap64 (x38 + 1))) else (if (wrap64 (x9 + (rd x36 x38))) < (rd x5 (Int.tmod (wrap64 (x8 + (rd x36 x38))) x1)) then (impl_leasts.l3 k x0 x1 (x5.set ((Int.tmod (wrap64 (x8 + (rd x36 x38))) x1) : Int).toNat (wrap64 (x9 + (rd x36 x38)))) true x8 x9 x28 x29 x36 x37 (wrap64 (x38 + 1))) else (impl_leasts.l3 k x0 x1 x5 x7 x8 x9 x28 x29 x36 x37 (wrap64 (x38 + 1))))) else (none)) else (none))) else (none)) else (none)) else (impl_leasts.l2 k x0 x1 x5 x7 x28 (wrap64 (x29 + 1)))
end
def impl_leasts.f (k : Nat) (l0 : List Int) (a1 : Int) : Option (List Int) := if 0 ≤ a1 then (if (a1 : Int).toNat ≤ 35184372088832 then ((some (List.replicate (a1 : Int).toNat 0 : List Int)).bind fun y276 => (impl_leasts.l0 k l0 a1 y276 (y276.length : Int) 0)) else (none)) else (none)
set_option maxHeartbeats 8000000 in
set_option maxRecDepth 100000 in
theorem impl_leasts.calls (k : Nat) (A0 : Option Addr) (c0 : Nat) (l0 : List Int) (a1 : Int) (r : List Int) (w : World) (hr0 : Kd.C (Kd.int .i64) w A0 l0.length l0) (hc0 : l0.length ≤ c0) (h : impl_leasts.f k l0 a1 = some r) :
 Calls Try.prog 79 #[.slice A0 l0.length c0, .int .i64 a1] w fun e w' => ∃ v0_ : Value, e = .returned (v0_) ∧ Kd.R (Kd.int .i64) 3 w' w.heap.size (fun _ => True) v0_ r ∧ Below w.heap.size w w' := by
 have HR0 := Aside0.mk hr0
 have HC0 := Aside0.mk hc0
 clear hr0 hc0
 have HB := Aside0.mk (Below.refl w.heap.size w)
 have H : (if 0 ≤ a1 then (if (a1 : Int).toNat ≤ 35184372088832 then ((some (List.replicate (a1 : Int).toNat 0 : List Int)).bind fun y276 => (impl_leasts.l0 k l0 a1 y276 (y276.length : Int) 0)) else (none)) else (none)) = some r := h
 clear h
 by_cases c3 : 0 ≤ a1
 · rw [if_pos c3] at H
   have c3b0 := eq_true c3
   have c3b1 : decide (0 ≤ a1) = true := decide_eq_true c3
   clear c3
   by_cases c4 : (a1 : Int).toNat ≤ 35184372088832
   · rw [if_pos c4] at H
     have c4b0 := eq_true c4
     have c4b1 : decide ((a1 : Int).toNat ≤ 35184372088832) = true := decide_eq_true c4
     clear c4
     obtain ⟨y276, hy276⟩ : ∃ y_ : List Int, y_ = (List.replicate (a1 : Int).toNat 0) := ⟨_, rfl⟩
     replace H : (impl_leasts.l0 k l0 a1 y276 (y276.length : Int) 0) = some r := by first | (rw [hy276]; with_reducible exact H) | (have H2_ := (Option.bind_some _ _).symm.trans H; rw [hy276]; with_reducible exact H2_) | (have H2_ := (Option.bind_some _ _).symm.trans H; with_reducible exact H2_) | with_reducible exact H | (rw [hy276]; exact H) | exact H
     have Ny276 := Aside0.mk hy276
     clear hy276
     have H' := Aside0.mk H
     clear H
     go_enter Try.func79, Try.ntmps79
     go_wp2_with (first | ((with_reducible refine gate_dst (N := 14) rfl ?_); refine Kd.R_make (Kd.int .i64) _ 3 rfl (N := 14) rfl 22 _ _ rfl a1 rfl rfl Try.underlying22 (.int .i64 0) 8 info3 rfl (by decide) (by omega) 0 (ok := fun _ => True) (okp := fun _ => True) rfl (fun _ hk => hk) trivial (of_decide_eq_true (by first | (with_reducible assumption) | assumption)) (Nat.le_trans (Nat.mul_le_mul_right _ (of_decide_eq_true (by first | (with_reducible assumption) | assumption) : a1.toNat ≤ 35184372088832)) (by omega)) (Below.refl _ _) (Nat.le_refl _) ?_; intro v277 w5 ho6 hb hg_ hnew_; clear hg_ hnew_; (first | rw [← Ny276.out] at ho6 | (simp only [Int.reduceToNat] at ho6; rw [← Ny276.out] at ho6)); have n0_ := Aside0.mk (Kd.R_lower ho6 (below_size (bl_ HB.out))); have n1_ := Aside0.mk (below_step (bl_ HB.out) hb); clear HB; have HO278 := n0_; have HB := n1_; clear n0_ n1_; clear hb ho6; obtain ⟨Ao7, co7, eo7⟩ := Kd.R_slice HO278.out; subst eo7))
     go_loopg [17] k (fun kq v17 w' => ∃ (x5_1 : List Int) (x17_1 : Int), v17 = .int .i64 x17_1 ∧ Aside0 (impl_leasts.l0 kq l0 a1 x5_1 (y276.length : Int) x17_1 = some r) ∧ Aside0 (kq ≤ k) ∧ Aside0 (Kd.R (Kd.int .i64) 3 w' w.heap.size (fun _ => True) (.slice Ao7 y276.length co7) x5_1) ∧ Aside0 (Below w.heap.size w w'))
     case atStart => exact ⟨(y276), (0), (by first | rfl | (simp; done) | (simp [*]; done)), H', ⟨Nat.le_refl _⟩, ⟨re_ HO278.out⟩, ⟨bl_ HB.out⟩⟩
     case round =>
      clear H'
      try clear p2
      try clear c3
      try clear c3b0
      try clear c3b1
      try clear c4
      try clear c4b0
      try clear c4b1
      try clear c7
      obtain ⟨x5_1, x17_1, rfl, HA, HK1, HO_5, HB⟩ := hrel
      have hl5_1 := (Kd.R_reads' HO_5.out).1
      rw [hl5_1] at HO_5
      (try simp only [hl5_1])
      cases gk with
      | zero => exact absurd HA.out (by simp [impl_leasts.l0])
      | succ k1 =>
       have H := HA.out
       clear HA
       simp only [impl_leasts.l0] at H
       by_cases c8 : x17_1 < (y276.length : Int)
       · rw [if_pos c8] at H
         have c8b0 : decide (x17_1 < (y276.length : Int)) = true := decide_eq_true c8
         (try (have c8h := c8b0; simp only [hl5_1] at c8h))
         clear c8
         by_cases c9 : 0 ≤ x17_1
         · rw [if_pos c9] at H
           have c9b0 : decide (0 ≤ x17_1) = true := decide_eq_true c9
           clear c9
           by_cases c10 : x17_1 < (x5_1.length : Int)
           · rw [if_pos c10] at H
             have c10b0 : decide (x17_1 < (x5_1.length : Int)) = true := decide_eq_true c10
             (try (have c10h := c10b0; simp only [hl5_1] at c10h))
             clear c10
             obtain ⟨y279, hy279⟩ : ∃ y_ : List Int, y_ = (x5_1.set (x17_1 : Int).toNat (-1)) := ⟨_, rfl⟩
             replace H : (impl_leasts.l0 k1 l0 a1 y279 (y276.length : Int) (wrap64 (x17_1 + 1))) = some r := by first | (rw [hy279]; with_reducible exact H) | (have H2_ := (Option.bind_some _ _).symm.trans H; rw [hy279]; with_reducible exact H2_) | (have H2_ := (Option.bind_some _ _).symm.trans H; with_reducible exact H2_) | with_reducible exact H | (rw [hy279]; exact H) | exact H
             have Ny279 := Aside0.mk hy279
             clear hy279
             as_aux_lemma =>
              have H' := Aside0.mk H
              clear H
              have p11 : 0 ≤ (x17_1 : Int) := of_decide_eq_true (by first | (with_reducible assumption) | assumption)
              have q11 : (x17_1 : Int) < ((x5_1.length : Int) : Int) := of_decide_eq_true (by first | (with_reducible assumption) | assumption)
              obtain ⟨go11, co11, eo11, gb11, gl11, cl11, HG11⟩ := Kd.R_form HO_5.out (by omega)
              (first | cases eo11 | (injection eo11 with ea_ en_ ec_; (first | subst ea_ | (injection ea_ with ea_; subst ea_)); subst ec_; clear en_))
              have GB11 := Aside0.mk gb11
              have GG11 := Aside0.mk HG11
              clear gb11 gl11 HG11
              obtain ⟨hx11_0, hf11_0⟩ := Kd.R_celln 0 HO_5.out (x17_1 : Int) p11 q11
              replace p11 := eq_true p11
              replace q11 := eq_true q11
              have HP12 := Kd.R_putg HO_5.out (x17_1 : Int) (-1)
              go_wp2_with (first | ((with_reducible refine gate_store (t := 3) (p := 22) rfl ?_); refine store_event (t := 3) (p := 22) (v := ?vo_w13) (w1 := (wr.setCell ⟨go11, (x17_1 : Int).toNat, none⟩ (.int .i64 (-1)))) ?hg ?ho ?hn ?hr ?_; (case ho => rfl); (case hg => rfl); (case hn => rfl); (case hr => first | (go_simp; done) | (go_simp; rfl)); intro w13 hw; have hg : wr.grownBy w13 (some go11) := (by rw [hw]; exact HP12.2); have hp_ : Kd.R (Kd.int .i64) 3 w13 w.heap.size (fun _ => True) (.slice (some ⟨go11, 0, none⟩) x5_1.length co7) y279 := (by rw [hw, Ny279.out]; exact HP12.1); clear HP12; have n0_ := Aside0.mk (hp_); have n1_ := Aside0.mk ((by rw [hw]; exact below_set (HB.out) GB11.out : Below w.heap.size w w13)); clear HO_5; clear HB; have HO_5 := n0_; have HB := n1_; clear n0_ n1_; clear hg hw hp_))
              (try simp only [← hl5_1])
              go_roundg k1
              case measure => have := HK1.out; omega
              case rel => exact ⟨(y279), (wrap64 (x17_1 + 1)), (by first | rfl | (simp; done) | (simp [*]; done)), H', ⟨by have := HK1.out; omega⟩, ⟨by (try simp only [hl5_1]); (with_reducible repeat (first | apply Kd.R_alloc | apply Kd.R_drewN | apply Kd.R_drew)); exact HO_5.out⟩, ⟨bl_ HB.out⟩⟩
           · rw [if_neg c10] at H
             exact absurd H (by simp)
         · rw [if_neg c9] at H
           exact absurd H (by simp)
       · rw [if_neg c8] at H
         have c8b0 : decide (x17_1 < (y276.length : Int)) = false := decide_eq_false c8
         (try (have c8h := c8b0; simp only [hl5_1] at c8h))
         clear c8
         by_cases c14 : 0 < (x5_1.length : Int)
         · rw [if_pos c14] at H
           have c14b0 : decide (0 < (x5_1.length : Int)) = true := decide_eq_true c14
           have c14b1 : decide (0 < x5_1.length) = true := decide_eq_true (by omega)
           (try (have c14h := c14b0; simp only [hl5_1] at c14h))
           clear c14
           obtain ⟨y280, hy280⟩ : ∃ y_ : List Int, y_ = (x5_1.set (0 : Int).toNat 0) := ⟨_, rfl⟩
           replace H : (impl_leasts.l1 k1 l0 a1 y280 true) = some r := by first | (rw [hy280]; with_reducible exact H) | (have H2_ := (Option.bind_some _ _).symm.trans H; rw [hy280]; with_reducible exact H2_) | (have H2_ := (Option.bind_some _ _).symm.trans H; with_reducible exact H2_) | with_reducible exact H | (rw [hy280]; exact H) | exact H
           have Ny280 := Aside0.mk hy280
           clear hy280
           have H' := Aside0.mk H
           clear H
           have p15 : 0 ≤ (0 : Int) := (by omega)
           have q15 : (0 : Int) < ((x5_1.length : Int) : Int) := of_decide_eq_true (by first | (with_reducible assumption) | assumption)
           have qi15 : (0 < x5_1.length) = True := eq_true (by omega)
           obtain ⟨go15, co15, eo15, gb15, gl15, cl15, HG15⟩ := Kd.R_form HO_5.out (by omega)
           (first | cases eo15 | (injection eo15 with ea_ en_ ec_; (first | subst ea_ | (injection ea_ with ea_; subst ea_)); subst ec_; clear en_))
           have GB15 := Aside0.mk gb15
           have GG15 := Aside0.mk HG15
           clear gb15 gl15 HG15
           obtain ⟨hx15_0, hf15_0⟩ := Kd.R_celln 0 HO_5.out (0 : Int) p15 q15
           (try rw [show ((0 : Int)).toNat = 0 from rfl] at hx15_0)
           (try simp only [Nat.reduceMul, Nat.zero_mul, Nat.zero_add, Nat.reduceAdd] at hx15_0)
           (try rw [show ((0 : Int)).toNat = 0 from rfl] at hf15_0)
           (try simp only [Nat.reduceMul, Nat.zero_mul, Nat.zero_add, Nat.reduceAdd] at hf15_0)
           replace p15 := eq_true p15
           replace q15 := eq_true q15
           have HP16 := Kd.R_putg HO_5.out (0 : Int) 0
           go_wp2_with (first | ((with_reducible refine gate_store (t := 3) (p := 25) rfl ?_); refine store_event (t := 3) (p := 25) (v := ?vo_w17) (w1 := (wr.setCell ⟨go15, (0 : Int).toNat, none⟩ (.int .i64 0))) ?hg ?ho ?hn ?hr ?_; (case ho => rfl); (case hg => rfl); (case hn => rfl); (case hr => first | (go_simp; done) | (go_simp; rfl)); intro w17 hw; have hg : wr.grownBy w17 (some go15) := (by rw [hw]; exact HP16.2); have hp_ : Kd.R (Kd.int .i64) 3 w17 w.heap.size (fun _ => True) (.slice (some ⟨go15, 0, none⟩) x5_1.length co7) y280 := (by rw [hw, Ny280.out]; exact HP16.1); clear HP16; have n0_ := Aside0.mk (hp_); have n1_ := Aside0.mk ((by rw [hw]; exact below_set (HB.out) GB15.out : Below w.heap.size w w17)); clear HO_5; clear HB; have HO_5 := n0_; have HB := n1_; clear n0_ n1_; clear hg hw hp_))
           go_loopg [7] k1 (fun kq v7 w' => ∃ (x5_2 : List Int) (x7_2 : Bool), v7 = .bool x7_2 ∧ Aside0 (impl_leasts.l1 kq l0 a1 x5_2 x7_2 = some r) ∧ Aside0 (kq ≤ k1) ∧ Aside0 (Kd.R (Kd.int .i64) 3 w' w.heap.size (fun _ => True) (.slice (some ⟨go15, 0, none⟩) x5_1.length co7) x5_2) ∧ Aside0 (Below w.heap.size w w'))
           case atStart => exact ⟨(y280), (true), (by first | rfl | (simp; done) | (simp [*]; done)), H', ⟨Nat.le_refl _⟩, ⟨by (try simp only [hl5_1]); (with_reducible repeat (first | apply Kd.R_alloc | apply Kd.R_drewN | apply Kd.R_drew)); exact HO_5.out⟩, ⟨bl_ HB.out⟩⟩
           case round =>
            clear H'
            try clear c1
            try clear p1
            try clear q1
            try clear hx1
            try clear qi1
            try clear p2
            try clear c3
            try clear c3b0
            try clear c3b1
            try clear c4
            try clear c4b0
            try clear c4b1
            try clear p6
            try clear c7
            try clear c8
            try clear c8b0
            try clear c9
            try clear c9b0
            try clear c10
            try clear c10b0
            try clear p11
            try clear q11
            try clear hx11
            try clear hf11
            try clear c14
            try clear c14b0
            try clear c14b1
            try clear p15
            try clear q15
            try clear hx15
            try clear qi15
            try clear hf15
            try clear hx11_0
            try clear hx15_0
            try clear p11
            try clear p15
            try clear p2
            try clear q11
            try clear q15
            obtain ⟨x5_2, x7_2, rfl, HA, HK2, HO_5, HB⟩ := hrel
            have hl5_2 := (Kd.R_reads' HO_5.out).1
            rw [hl5_2] at HO_5
            (try simp only [hl5_2])
            cases gk with
            | zero => exact absurd HA.out (by simp [impl_leasts.l1])
            | succ k2 =>
             have H := HA.out
             clear HA
             simp only [impl_leasts.l1] at H
             by_cases c18 : x7_2 = true
             · subst c18
               have H1 : (impl_leasts.l2 k2 l0 a1 x5_2 false (x5_2.length : Int) 0) = some r := by rw [if_pos rfl] at H; exact H
               clear H
               have H := H1
               clear H1
               have H' := Aside0.mk H
               clear H
               go_wp2
               go_loopg [7, 29] k2 (fun kq v7 v29 w' => ∃ (x5_3 : List Int) (x7_3 : Bool) (x29_3 : Int), v7 = .bool x7_3 ∧ v29 = .int .i64 x29_3 ∧ Aside0 (impl_leasts.l2 kq l0 a1 x5_3 x7_3 (x5_2.length : Int) x29_3 = some r) ∧ Aside0 (kq ≤ k2) ∧ Aside0 (Kd.R (Kd.int .i64) 3 w' w.heap.size (fun _ => True) (.slice (some ⟨go15, 0, none⟩) x5_2.length co7) x5_3) ∧ Aside0 (Below w.heap.size w w'))
               case atStart => exact ⟨(x5_2), (false), (0), (by first | rfl | (simp; done) | (simp [*]; done)), (by first | rfl | (simp; done) | (simp [*]; done)), H', ⟨Nat.le_refl _⟩, ⟨by (try simp only [hl5_1]); (try simp only [hl5_2]); (with_reducible repeat (first | apply Kd.R_alloc | apply Kd.R_drewN | apply Kd.R_drew)); exact HO_5.out⟩, ⟨bl_ HB.out⟩⟩
               case round =>
                clear H'
                try clear c1
                try clear p1
                try clear q1
                try clear hx1
                try clear qi1
                try clear p2
                try clear c3
                try clear c3b0
                try clear c3b1
                try clear c4
                try clear c4b0
                try clear c4b1
                try clear p6
                try clear c7
                try clear c8
                try clear c8b0
                try clear c9
                try clear c9b0
                try clear c10
                try clear c10b0
                try clear p11
                try clear q11
                try clear hx11
                try clear hf11
                try clear c14
                try clear c14b0
                try clear c14b1
                try clear p15
                try clear q15
                try clear hx15
                try clear qi15
                try clear hf15
                try clear c18
                try clear hx11_0
                try clear hx15_0
                try clear p1
                try clear p11
                try clear p15
                try clear p2
                try clear p6
                try clear q1
                try clear q11
                try clear q15
                obtain ⟨x5_3, x7_3, x29_3, rfl, rfl, HA, HK3, HO_5, HB⟩ := hrel
                have hl5_3 := (Kd.R_reads' HO_5.out).1
                rw [hl5_3] at HO_5
                (try simp only [hl5_3])
                cases gk with
                | zero => exact absurd HA.out (by simp [impl_leasts.l2])
                | succ k3 =>
                 have H := HA.out
                 clear HA
                 simp only [impl_leasts.l2] at H
                 by_cases c19 : x29_3 < (x5_2.length : Int)
                 · rw [if_pos c19] at H
                   have c19b0 : decide (x29_3 < (x5_2.length : Int)) = true := decide_eq_true c19
                   (try (have c19h := c19b0; simp only [hl5_1, hl5_2, hl5_3] at c19h))
                   clear c19
                   by_cases c20 : 0 ≤ x29_3
                   · rw [if_pos c20] at H
                     have c20b0 : decide (0 ≤ x29_3) = true := decide_eq_true c20
                     clear c20
                     by_cases c21 : x29_3 < (x5_3.length : Int)
                     · rw [if_pos c21] at H
                       have c21b0 : decide (x29_3 < (x5_3.length : Int)) = true := decide_eq_true c21
                       (try (have c21h := c21b0; simp only [hl5_1, hl5_2, hl5_3] at c21h))
                       clear c21
                       by_cases c22 : (rd x5_3 x29_3) < 0
                       · rw [if_pos c22] at H
                         have c22b0 : decide ((rd x5_3 x29_3) < 0) = true := decide_eq_true c22
                         clear c22
                         as_aux_lemma =>
                          have H' := Aside0.mk H
                          clear H
                          have p281 : 0 ≤ (x29_3 : Int) := of_decide_eq_true (by first | (with_reducible assumption) | assumption)
                          have q281 : x29_3 < (x5_3.length : Int) := of_decide_eq_true (by first | (with_reducible assumption) | assumption)
                          obtain ⟨ad281, e281, hx281_0⟩ := Kd.at_int (Kd.R_reads' HO_5.out).2.2 x29_3 p281 q281
                          obtain rfl : (⟨go15, 0, none⟩ : Addr) = ad281 := (by injection e281)
                          (first | simp only [add_plain] at hx281_0 | simp only [add_at] at hx281_0 | simp only [Addr.add, Nat.zero_add] at hx281_0 | skip)
                          replace p281 := eq_true p281
                          replace q281 := eq_true q281
                          go_wp2
                          (try simp only [← hl5_3])
                          go_roundg k3
                          case measure => have := HK1.out; have := HK2.out; have := HK3.out; omega
                          case rel => exact ⟨(x5_3), (x7_3), (wrap64 (x29_3 + 1)), (by first | rfl | (simp; done) | (simp [*]; done)), (by first | rfl | (simp; done) | (simp [*]; done)), H', ⟨by have := HK1.out; have := HK2.out; have := HK3.out; omega⟩, ⟨by (try simp only [hl5_1]); (try simp only [hl5_2]); (try simp only [hl5_3]); (with_reducible repeat (first | apply Kd.R_alloc | apply Kd.R_drewN | apply Kd.R_drew)); exact HO_5.out⟩, ⟨bl_ HB.out⟩⟩
                       · rw [if_neg c22] at H
                         have c22b0 : decide ((rd x5_3 x29_3) < 0) = false := decide_eq_false c22
                         clear c22
                         have H' := Aside0.mk H
                         clear H
                         have p281 : 0 ≤ (x29_3 : Int) := of_decide_eq_true (by first | (with_reducible assumption) | assumption)
                         have q281 : x29_3 < (x5_3.length : Int) := of_decide_eq_true (by first | (with_reducible assumption) | assumption)
                         obtain ⟨ad281, e281, hx281_0⟩ := Kd.at_int (Kd.R_reads' HO_5.out).2.2 x29_3 p281 q281
                         obtain rfl : (⟨go15, 0, none⟩ : Addr) = ad281 := (by injection e281)
                         (first | simp only [add_plain] at hx281_0 | simp only [add_at] at hx281_0 | simp only [Addr.add, Nat.zero_add] at hx281_0 | skip)
                         replace p281 := eq_true p281
                         replace q281 := eq_true q281
                         go_wp2
                         go_loopg [7, 38] k3 (fun kq v7 v38 w' => ∃ (x5_4 : List Int) (x7_4 : Bool) (x38_4 : Int), v7 = .bool x7_4 ∧ v38 = .int .i64 x38_4 ∧ Aside0 (impl_leasts.l3 kq l0 a1 x5_4 x7_4 x29_3 (rd x5_3 x29_3) (x5_2.length : Int) x29_3 l0 (l0.length : Int) x38_4 = some r) ∧ Aside0 (kq ≤ k3) ∧ Aside0 (Kd.R (Kd.int .i64) 3 w' w.heap.size (fun _ => True) (.slice (some ⟨go15, 0, none⟩) x5_3.length co7) x5_4) ∧ Aside0 (Below w.heap.size w w'))
                         case atStart => exact ⟨(x5_3), (x7_3), (0), (by first | rfl | (simp; done) | (simp [*]; done)), (by first | rfl | (simp; done) | (simp [*]; done)), H', ⟨Nat.le_refl _⟩, ⟨by (try simp only [hl5_1]); (try simp only [hl5_2]); (try simp only [hl5_3]); (with_reducible repeat (first | apply Kd.R_alloc | apply Kd.R_drewN | apply Kd.R_drew)); exact HO_5.out⟩, ⟨bl_ HB.out⟩⟩
                         case round =>
                          clear H'
                          try clear c1
                          try clear p1
                          try clear q1
                          try clear hx1
                          try clear qi1
                          try clear c2
                          try clear p2
                          try clear q2
                          try clear hx2
                          try clear c3
                          try clear c3b0
                          try clear c3b1
                          try clear c4
                          try clear c4b0
                          try clear c4b1
                          try clear p6
                          try clear c7
                          try clear c8
                          try clear c8b0
                          try clear c9
                          try clear c9b0
                          try clear c10
                          try clear c10b0
                          try clear p11
                          try clear q11
                          try clear hx11
                          try clear hf11
                          try clear c14
                          try clear c14b0
                          try clear c14b1
                          try clear p15
                          try clear q15
                          try clear hx15
                          try clear qi15
                          try clear hf15
                          try clear c18
                          try clear c19
                          try clear c19b0
                          try clear c20
                          try clear c20b0
                          try clear c21
                          try clear c21b0
                          try clear c22
                          try clear c22b0
                          try clear hx11_0
                          try clear hx15_0
                          try clear hx281_0
                          try clear p1
                          try clear p11
                          try clear p15
                          try clear p2
                          try clear p281
                          try clear p6
                          try clear q1
                          try clear q11
                          try clear q15
                          try clear q281
                          obtain ⟨x5_4, x7_4, x38_4, rfl, rfl, HA, HK4, HO_5, HB⟩ := hrel
                          have hl5_4 := (Kd.R_reads' HO_5.out).1
                          rw [hl5_4] at HO_5
                          (try simp only [hl5_4])
                          cases gk with
                          | zero => exact absurd HA.out (by simp [impl_leasts.l3])
                          | succ k4 =>
                           have H := HA.out
                           clear HA
                           simp only [impl_leasts.l3] at H
                           by_cases c23 : x38_4 < (l0.length : Int)
                           · rw [if_pos c23] at H
                             have c23b0 : decide (x38_4 < (l0.length : Int)) = true := decide_eq_true c23
                             (try (have c23h := c23b0; simp only [hl5_1, hl5_2, hl5_3, hl5_4] at c23h))
                             clear c23
                             by_cases c24 : 0 ≤ x38_4
                             · rw [if_pos c24] at H
                               have c24b0 : decide (0 ≤ x38_4) = true := decide_eq_true c24
                               clear c24
                               by_cases c25 : x38_4 < (l0.length : Int)
                               · rw [if_pos c25] at H
                                 have c25b0 : decide (x38_4 < (l0.length : Int)) = true := decide_eq_true c25
                                 (try (have c25h := c25b0; simp only [hl5_1, hl5_2, hl5_3, hl5_4] at c25h))
                                 clear c25
                                 by_cases c26 : a1 = 0
                                 · rw [if_pos c26] at H
                                   exact absurd H (by simp)
                                 · rw [if_neg c26] at H
                                   have c26b0 : (a1 == 0) = false := beq_eq_false_iff_ne.mpr c26
                                   have c26b1 : (a1 != 0) = true := bne_iff_ne.mpr c26
                                   obtain ⟨ji27, hji27⟩ : ∃ j_ : Int, (Int.tmod (wrap64 (x29_3 + (rd l0 x38_4))) a1) = j_ := ⟨_, rfl⟩
                                   replace H : (if 0 ≤ (ji27) then (if (ji27) < (x5_4.length : Int) then (if (rd x5_4 (ji27)) < 0 then (impl_leasts.l3 k4 l0 a1 (x5_4.set ((ji27) : Int).toNat (wrap64 ((rd x5_3 x29_3) + (rd l0 x38_4)))) true x29_3 (rd x5_3 x29_3) (x5_2.length : Int) x29_3 l0 (l0.length : Int) (wrap64 (x38_4 + 1))) else (if (wrap64 ((rd x5_3 x29_3) + (rd l0 x38_4))) < (rd x5_4 (ji27)) then (impl_leasts.l3 k4 l0 a1 (x5_4.set ((ji27) : Int).toNat (wrap64 ((rd x5_3 x29_3) + (rd l0 x38_4)))) true x29_3 (rd x5_3 x29_3) (x5_2.length : Int) x29_3 l0 (l0.length : Int) (wrap64 (x38_4 + 1))) else (impl_leasts.l3 k4 l0 a1 x5_4 x7_4 x29_3 (rd x5_3 x29_3) (x5_2.length : Int) x29_3 l0 (l0.length : Int) (wrap64 (x38_4 + 1))))) else (none)) else (none)) = some r := by first | (rw [hji27] at H; exact H) | (simp only [hji27] at H ⊢; exact H)
                                   by_cases c28 : 0 ≤ (ji27)
                                   · rw [if_pos c28] at H
                                     have c28b0 : decide (0 ≤ (ji27)) = true := decide_eq_true c28
                                     clear c28
                                     by_cases c29 : (ji27) < (x5_4.length : Int)
                                     · rw [if_pos c29] at H
                                       have c29b0 : decide ((ji27) < (x5_4.length : Int)) = true := decide_eq_true c29
                                       (try (have c29h := c29b0; simp only [hl5_1, hl5_2, hl5_3, hl5_4] at c29h))
                                       clear c29
                                       by_cases c30 : (rd x5_4 (ji27)) < 0
                                       · rw [if_pos c30] at H
                                         have c30b0 : decide ((rd x5_4 (ji27)) < 0) = true := decide_eq_true c30
                                         clear c30
                                         obtain ⟨y284, hy284⟩ : ∃ y_ : List Int, y_ = (x5_4.set ((ji27) : Int).toNat (wrap64 ((rd x5_3 x29_3) + (rd l0 x38_4)))) := ⟨_, rfl⟩
                                         replace H : (impl_leasts.l3 k4 l0 a1 y284 true x29_3 (rd x5_3 x29_3) (x5_2.length : Int) x29_3 l0 (l0.length : Int) (wrap64 (x38_4 + 1))) = some r := by first | (rw [hy284]; with_reducible exact H) | (have H2_ := (Option.bind_some _ _).symm.trans H; rw [hy284]; with_reducible exact H2_) | (have H2_ := (Option.bind_some _ _).symm.trans H; with_reducible exact H2_) | with_reducible exact H | (rw [hy284]; exact H) | exact H
                                         have Ny284 := Aside0.mk hy284
                                         clear hy284
                                         as_aux_lemma =>
                                          have H' := Aside0.mk H
                                          clear H
                                          have p282 : 0 ≤ (x38_4 : Int) := of_decide_eq_true (by first | (with_reducible assumption) | assumption)
                                          have q282 : x38_4 < (l0.length : Int) := of_decide_eq_true (by first | (with_reducible assumption) | assumption)
                                          obtain ⟨ad282, e282, hx282_0⟩ := Kd.at_int HR0.out x38_4 p282 q282
                                          cases e282
                                          (try replace hx282_0 := (HB.out.cell (World.block_lt_of_cell? w _ hx282_0)).trans hx282_0)
                                          replace p282 := eq_true p282
                                          replace q282 := eq_true q282
                                          have p283 : 0 ≤ ((ji27) : Int) := of_decide_eq_true (by first | (with_reducible assumption) | assumption)
                                          have q283 : (ji27) < (x5_4.length : Int) := of_decide_eq_true (by first | (with_reducible assumption) | assumption)
                                          obtain ⟨ad283, e283, hx283_0⟩ := Kd.at_int (Kd.R_reads' HO_5.out).2.2 (ji27) p283 q283
                                          obtain rfl : (⟨go15, 0, none⟩ : Addr) = ad283 := (by injection e283)
                                          (first | simp only [add_plain] at hx283_0 | simp only [add_at] at hx283_0 | simp only [Addr.add, Nat.zero_add] at hx283_0 | skip)
                                          replace p283 := eq_true p283
                                          replace q283 := eq_true q283
                                          have p31 : 0 ≤ ((ji27) : Int) := of_decide_eq_true (by first | (with_reducible assumption) | assumption)
                                          have q31 : ((ji27) : Int) < ((x5_4.length : Int) : Int) := of_decide_eq_true (by first | (with_reducible assumption) | assumption)
                                          obtain ⟨hx31_0, hf31_0⟩ := Kd.R_celln 0 HO_5.out ((ji27) : Int) p31 q31
                                          replace p31 := eq_true p31
                                          replace q31 := eq_true q31
                                          have HP32 := Kd.R_putg HO_5.out ((ji27) : Int) (wrap64 ((rd x5_3 x29_3) + (rd l0 x38_4)))
                                          go_wp2_with (first | ((with_reducible refine gate_store (t := 3) (p := 67) rfl ?_); refine store_event (t := 3) (p := 67) (v := ?vo_w33) (w1 := (wr.setCell ⟨go15, ((ji27) : Int).toNat, none⟩ (.int .i64 (wrap64 ((rd x5_3 x29_3) + (rd l0 x38_4)))))) ?hg ?ho ?hn ?hr ?_; (case ho => rfl); (case hg => rfl); (case hn => rfl); (case hr => first | (go_simp; done) | (go_simp; rfl)); intro w33 hw; have hg : wr.grownBy w33 (some go15) := (by rw [hw]; exact HP32.2); have hp_ : Kd.R (Kd.int .i64) 3 w33 w.heap.size (fun _ => True) (.slice (some ⟨go15, 0, none⟩) x5_4.length co7) y284 := (by rw [hw, Ny284.out]; exact HP32.1); clear HP32; have n0_ := Aside0.mk (hp_); have n1_ := Aside0.mk ((by rw [hw]; exact below_set (HB.out) GB15.out : Below w.heap.size w w33)); clear HO_5; clear HB; have HO_5 := n0_; have HB := n1_; clear n0_ n1_; clear hg hw hp_))
                                          (try simp only [← hl5_4])
                                          go_roundg k4
                                          case measure => have := HK1.out; have := HK2.out; have := HK3.out; have := HK4.out; omega
                                          case rel => exact ⟨(y284), (true), (wrap64 (x38_4 + 1)), (by first | rfl | (simp; done) | (simp [*]; done)), (by first | rfl | (simp; done) | (simp [*]; done)), H', ⟨by have := HK1.out; have := HK2.out; have := HK3.out; have := HK4.out; omega⟩, ⟨by (try simp only [hl5_1]); (try simp only [hl5_2]); (try simp only [hl5_3]); (try simp only [hl5_4]); (with_reducible repeat (first | apply Kd.R_alloc | apply Kd.R_drewN | apply Kd.R_drew)); exact HO_5.out⟩, ⟨bl_ HB.out⟩⟩
                                       · rw [if_neg c30] at H
                                         have c30b0 : decide ((rd x5_4 (ji27)) < 0) = false := decide_eq_false c30
                                         clear c30
                                         by_cases c34 : (wrap64 ((rd x5_3 x29_3) + (rd l0 x38_4))) < (rd x5_4 (ji27))
                                         · rw [if_pos c34] at H
                                           have c34b0 : decide ((wrap64 ((rd x5_3 x29_3) + (rd l0 x38_4))) < (rd x5_4 (ji27))) = true := decide_eq_true c34
                                           clear c34
                                           obtain ⟨y286, hy286⟩ : ∃ y_ : List Int, y_ = (x5_4.set ((ji27) : Int).toNat (wrap64 ((rd x5_3 x29_3) + (rd l0 x38_4)))) := ⟨_, rfl⟩
                                           replace H : (impl_leasts.l3 k4 l0 a1 y286 true x29_3 (rd x5_3 x29_3) (x5_2.length : Int) x29_3 l0 (l0.length : Int) (wrap64 (x38_4 + 1))) = some r := by first | (rw [hy286]; with_reducible exact H) | (have H2_ := (Option.bind_some _ _).symm.trans H; rw [hy286]; with_reducible exact H2_) | (have H2_ := (Option.bind_some _ _).symm.trans H; with_reducible exact H2_) | with_reducible exact H | (rw [hy286]; exact H) | exact H
                                           have Ny286 := Aside0.mk hy286
                                           clear hy286
                                           as_aux_lemma =>
                                            have H' := Aside0.mk H
                                            clear H
                                            have p282 : 0 ≤ (x38_4 : Int) := of_decide_eq_true (by first | (with_reducible assumption) | assumption)
                                            have q282 : x38_4 < (l0.length : Int) := of_decide_eq_true (by first | (with_reducible assumption) | assumption)
                                            obtain ⟨ad282, e282, hx282_0⟩ := Kd.at_int HR0.out x38_4 p282 q282
                                            cases e282
                                            (try replace hx282_0 := (HB.out.cell (World.block_lt_of_cell? w _ hx282_0)).trans hx282_0)
                                            replace p282 := eq_true p282
                                            replace q282 := eq_true q282
                                            have p283 : 0 ≤ ((ji27) : Int) := of_decide_eq_true (by first | (with_reducible assumption) | assumption)
                                            have q283 : (ji27) < (x5_4.length : Int) := of_decide_eq_true (by first | (with_reducible assumption) | assumption)
                                            obtain ⟨ad283, e283, hx283_0⟩ := Kd.at_int (Kd.R_reads' HO_5.out).2.2 (ji27) p283 q283
                                            obtain rfl : (⟨go15, 0, none⟩ : Addr) = ad283 := (by injection e283)
                                            (first | simp only [add_plain] at hx283_0 | simp only [add_at] at hx283_0 | simp only [Addr.add, Nat.zero_add] at hx283_0 | skip)
                                            replace p283 := eq_true p283
                                            replace q283 := eq_true q283
                                            have p285 : 0 ≤ ((ji27) : Int) := of_decide_eq_true (by first | (with_reducible assumption) | assumption)
                                            have q285 : (ji27) < (x5_4.length : Int) := of_decide_eq_true (by first | (with_reducible assumption) | assumption)
                                            obtain ⟨ad285, e285, hx285_0⟩ := Kd.at_int (Kd.R_reads' HO_5.out).2.2 (ji27) p285 q285
                                            obtain rfl : (⟨go15, 0, none⟩ : Addr) = ad285 := (by injection e285)
                                            (first | simp only [add_plain] at hx285_0 | simp only [add_at] at hx285_0 | simp only [Addr.add, Nat.zero_add] at hx285_0 | skip)
                                            replace p285 := eq_true p285
                                            replace q285 := eq_true q285
                                            have p35 : 0 ≤ ((ji27) : Int) := of_decide_eq_true (by first | (with_reducible assumption) | assumption)
                                            have q35 : ((ji27) : Int) < ((x5_4.length : Int) : Int) := of_decide_eq_true (by first | (with_reducible assumption) | assumption)
                                            obtain ⟨hx35_0, hf35_0⟩ := Kd.R_celln 0 HO_5.out ((ji27) : Int) p35 q35
                                            replace p35 := eq_true p35
                                            replace q35 := eq_true q35
                                            have HP36 := Kd.R_putg HO_5.out ((ji27) : Int) (wrap64 ((rd x5_3 x29_3) + (rd l0 x38_4)))
                                            go_wp2_with (first | ((with_reducible refine gate_store (t := 3) (p := 67) rfl ?_); refine store_event (t := 3) (p := 67) (v := ?vo_w37) (w1 := (wr.setCell ⟨go15, ((ji27) : Int).toNat, none⟩ (.int .i64 (wrap64 ((rd x5_3 x29_3) + (rd l0 x38_4)))))) ?hg ?ho ?hn ?hr ?_; (case ho => rfl); (case hg => rfl); (case hn => rfl); (case hr => first | (go_simp; done) | (go_simp; rfl)); intro w37 hw; have hg : wr.grownBy w37 (some go15) := (by rw [hw]; exact HP36.2); have hp_ : Kd.R (Kd.int .i64) 3 w37 w.heap.size (fun _ => True) (.slice (some ⟨go15, 0, none⟩) x5_4.length co7) y286 := (by rw [hw, Ny286.out]; exact HP36.1); clear HP36; have n0_ := Aside0.mk (hp_); have n1_ := Aside0.mk ((by rw [hw]; exact below_set (HB.out) GB15.out : Below w.heap.size w w37)); clear HO_5; clear HB; have HO_5 := n0_; have HB := n1_; clear n0_ n1_; clear hg hw hp_))
                                            (try simp only [← hl5_4])
                                            go_roundg k4
                                            case measure => have := HK1.out; have := HK2.out; have := HK3.out; have := HK4.out; omega
                                            case rel => exact ⟨(y286), (true), (wrap64 (x38_4 + 1)), (by first | rfl | (simp; done) | (simp [*]; done)), (by first | rfl | (simp; done) | (simp [*]; done)), H', ⟨by have := HK1.out; have := HK2.out; have := HK3.out; have := HK4.out; omega⟩, ⟨by (try simp only [hl5_1]); (try simp only [hl5_2]); (try simp only [hl5_3]); (try simp only [hl5_4]); (with_reducible repeat (first | apply Kd.R_alloc | apply Kd.R_drewN | apply Kd.R_drew)); exact HO_5.out⟩, ⟨bl_ HB.out⟩⟩
                                         · rw [if_neg c34] at H
                                           have c34b0 : decide ((wrap64 ((rd x5_3 x29_3) + (rd l0 x38_4))) < (rd x5_4 (ji27))) = false := decide_eq_false c34
                                           clear c34
                                           as_aux_lemma =>
                                            have H' := Aside0.mk H
                                            clear H
                                            have p282 : 0 ≤ (x38_4 : Int) := of_decide_eq_true (by first | (with_reducible assumption) | assumption)
                                            have q282 : x38_4 < (l0.length : Int) := of_decide_eq_true (by first | (with_reducible assumption) | assumption)
                                            obtain ⟨ad282, e282, hx282_0⟩ := Kd.at_int HR0.out x38_4 p282 q282
                                            cases e282
                                            (try replace hx282_0 := (HB.out.cell (World.block_lt_of_cell? w _ hx282_0)).trans hx282_0)
                                            replace p282 := eq_true p282
                                            replace q282 := eq_true q282
                                            have p283 : 0 ≤ ((ji27) : Int) := of_decide_eq_true (by first | (with_reducible assumption) | assumption)
                                            have q283 : (ji27) < (x5_4.length : Int) := of_decide_eq_true (by first | (with_reducible assumption) | assumption)
                                            obtain ⟨ad283, e283, hx283_0⟩ := Kd.at_int (Kd.R_reads' HO_5.out).2.2 (ji27) p283 q283
                                            obtain rfl : (⟨go15, 0, none⟩ : Addr) = ad283 := (by injection e283)
                                            (first | simp only [add_plain] at hx283_0 | simp only [add_at] at hx283_0 | simp only [Addr.add, Nat.zero_add] at hx283_0 | skip)
                                            replace p283 := eq_true p283
                                            replace q283 := eq_true q283
                                            have p285 : 0 ≤ ((ji27) : Int) := of_decide_eq_true (by first | (with_reducible assumption) | assumption)
                                            have q285 : (ji27) < (x5_4.length : Int) := of_decide_eq_true (by first | (with_reducible assumption) | assumption)
                                            obtain ⟨ad285, e285, hx285_0⟩ := Kd.at_int (Kd.R_reads' HO_5.out).2.2 (ji27) p285 q285
                                            obtain rfl : (⟨go15, 0, none⟩ : Addr) = ad285 := (by injection e285)
                                            (first | simp only [add_plain] at hx285_0 | simp only [add_at] at hx285_0 | simp only [Addr.add, Nat.zero_add] at hx285_0 | skip)
                                            replace p285 := eq_true p285
                                            replace q285 := eq_true q285
                                            go_wp2
                                            (try simp only [← hl5_4])
                                            go_roundg k4
                                            case measure => have := HK1.out; have := HK2.out; have := HK3.out; have := HK4.out; omega
                                            case rel => exact ⟨(x5_4), (x7_4), (wrap64 (x38_4 + 1)), (by first | rfl | (simp; done) | (simp [*]; done)), (by first | rfl | (simp; done) | (simp [*]; done)), H', ⟨by have := HK1.out; have := HK2.out; have := HK3.out; have := HK4.out; omega⟩, ⟨by (try simp only [hl5_1]); (try simp only [hl5_2]); (try simp only [hl5_3]); (try simp only [hl5_4]); (with_reducible repeat (first | apply Kd.R_alloc | apply Kd.R_drewN | apply Kd.R_drew)); exact HO_5.out⟩, ⟨bl_ HB.out⟩⟩
                                     · rw [if_neg c29] at H
                                       exact absurd H (by simp)
                                   · rw [if_neg c28] at H
                                     exact absurd H (by simp)
                               · rw [if_neg c25] at H
                                 exact absurd H (by simp)
                             · rw [if_neg c24] at H
                               exact absurd H (by simp)
                           · rw [if_neg c23] at H
                             have c23b0 : decide (x38_4 < (l0.length : Int)) = false := decide_eq_false c23
                             (try (have c23h := c23b0; simp only [hl5_1, hl5_2, hl5_3, hl5_4] at c23h))
                             clear c23
                             as_aux_lemma =>
                              have H' := Aside0.mk H
                              clear H
                              go_wp2
                              (try simp only [← hl5_3, ← hl5_4])
                              go_roundg k4
                              case measure => have := HK1.out; have := HK2.out; have := HK3.out; have := HK4.out; omega
                              case rel => exact ⟨(x5_4), (x7_4), (wrap64 (x29_3 + 1)), (by first | rfl | (simp; done) | (simp [*]; done)), (by first | rfl | (simp; done) | (simp [*]; done)), H', ⟨by have := HK1.out; have := HK2.out; have := HK3.out; have := HK4.out; omega⟩, ⟨by (try simp only [hl5_1]); (try simp only [hl5_2]); (try simp only [hl5_3]); (try simp only [hl5_4]); (with_reducible repeat (first | apply Kd.R_alloc | apply Kd.R_drewN | apply Kd.R_drew)); exact HO_5.out⟩, ⟨bl_ HB.out⟩⟩
                     · rw [if_neg c21] at H
                       exact absurd H (by simp)
                   · rw [if_neg c20] at H
                     exact absurd H (by simp)
                 · rw [if_neg c19] at H
                   have c19b0 : decide (x29_3 < (x5_2.length : Int)) = false := decide_eq_false c19
                   (try (have c19h := c19b0; simp only [hl5_1, hl5_2, hl5_3] at c19h))
                   clear c19
                   as_aux_lemma =>
                    have H' := Aside0.mk H
                    clear H
                    go_wp2
                    (try simp only [← hl5_2, ← hl5_3])
                    go_roundg k3
                    case measure => have := HK1.out; have := HK2.out; have := HK3.out; omega
                    case rel => exact ⟨(x5_3), (x7_3), (by first | rfl | (simp; done) | (simp [*]; done)), H', ⟨by have := HK1.out; have := HK2.out; have := HK3.out; omega⟩, ⟨by (try simp only [hl5_1]); (try simp only [hl5_2]); (try simp only [hl5_3]); (with_reducible repeat (first | apply Kd.R_alloc | apply Kd.R_drewN | apply Kd.R_drew)); exact HO_5.out⟩, ⟨bl_ HB.out⟩⟩
             · replace c18 := Bool.eq_false_iff.mpr c18
               subst c18
               have H1 : (some x5_2) = some r := by rw [if_neg (show ¬ (false = true) by decide)] at H; exact H
               clear H
               have H := H1
               clear H1
               as_aux_lemma =>
                obtain rfl := Option.some.inj H
                go_wp2
                go_ret
                exact ⟨_, by first | rfl | (simp [errW_none, errW_some] <;> rfl) | (simp [*, errW_none, errW_some] <;> rfl), re_ HO_5.out, bl_ HB.out⟩
         · rw [if_neg c14] at H
           exact absurd H (by simp)
   · rw [if_neg c4] at H
     exact absurd H (by simp)
 · rw [if_neg c3] at H
   exact absurd H (by simp)
def impl_usable.f (k : Nat) (l0 : List Int) : Option (Bool) := (impl_within.f (l0.length : Int) 1 20).bind fun t287 => (if t287 = true then ((impl_allWithin.f k l0 1 60).bind fun t288 => (some t288)) else (some false))
set_option maxHeartbeats 8000000 in
set_option maxRecDepth 100000 in
theorem impl_usable.calls (k : Nat) (A0 : Option Addr) (c0 : Nat) (l0 : List Int) (r : Bool) (w : World) (hr0 : Kd.C (Kd.int .i64) w A0 l0.length l0) (hc0 : l0.length ≤ c0) (h : impl_usable.f k l0 = some r) :
 Calls Try.prog 84 #[.slice A0 l0.length c0] w fun e w' => e = .returned (.bool r) ∧ Drawn0 w w' := by
 have HR0 := Aside0.mk hr0
 have HC0 := Aside0.mk hc0
 clear hr0 hc0
 have H : ((impl_within.f (l0.length : Int) 1 20).bind fun t287 => (if t287 = true then ((impl_allWithin.f k l0 1 60).bind fun t288 => (some t288)) else (some false))) = some r := h
 clear h
 replace H := Option.bind_eq_some_iff.mp H
 obtain ⟨t287, A20, H⟩ := H
 replace H : (if t287 = true then ((impl_allWithin.f k l0 1 60).bind fun t288 => (some t288)) else (some false)) = some r := H
 have A2 := Aside0.mk A20
 clear A20
 by_cases c3 : t287 = true
 · subst c3
   have H1 : ((impl_allWithin.f k l0 1 60).bind fun t288 => (some t288)) = some r := by rw [if_pos rfl] at H; exact H
   clear H
   have H := H1
   clear H1
   replace H := Option.bind_eq_some_iff.mp H
   obtain ⟨t288, A40, H⟩ := H
   replace H : (some t288) = some r := H
   have A4 := Aside0.mk A40
   clear A40
   as_aux_lemma =>
    obtain rfl := Option.some.inj H
    go_enter Try.func84, Try.ntmps84
    go_wp2_with (first | ((with_reducible refine gate_callee (f := 39) rfl ?_); refine goesL_ (some 5) rfl rfl Try.func39 (by kernel_rfl) rfl #[.int .i64 (l0.length : Int), .int .i64 1, .int .i64 20] rfl (by (try simp only [List.map_toArray, List.map_cons, List.map_nil]); first | done | rfl | (simp only [List.length_drop, List.length_take]; rfl)) ?_; (with_reducible refine (impl_within.calls (l0.length : Int) 1 20 true _ A2.out).mono ?_); rintro e w' ⟨rfl, ⟨nd, rfl⟩⟩; refine ⟨_, rfl, ?_⟩) | (go_at_call 50; (with_reducible refine (impl_allWithin.calls k _ _ l0 1 60 t288 _ ?side1 ?side2 A4.out).mono ?_); (case side1 => exact ce_ (HR0.out)); (case side2 => exact HC0.out); rintro e w' ⟨rfl, ⟨nd, rfl⟩⟩))
    go_ret
    exact ⟨by first | rfl | (simp; done) | (simp [*]; done), by repeat (first | exact Drawn0.refl _ | apply Drawn0.step)⟩
 · replace c3 := Bool.eq_false_iff.mpr c3
   subst c3
   have H1 : (some false) = some r := by rw [if_neg (show ¬ (false = true) by decide)] at H; exact H
   clear H
   have H := H1
   clear H1
   as_aux_lemma =>
    obtain rfl := Option.some.inj H
    go_enter Try.func84, Try.ntmps84
    go_wp2_with (first | ((with_reducible refine gate_callee (f := 39) rfl ?_); refine goesL_ (some 5) rfl rfl Try.func39 (by kernel_rfl) rfl #[.int .i64 (l0.length : Int), .int .i64 1, .int .i64 20] rfl (by (try simp only [List.map_toArray, List.map_cons, List.map_nil]); first | done | rfl | (simp only [List.length_drop, List.length_take]; rfl)) ?_; (with_reducible refine (impl_within.calls (l0.length : Int) 1 20 false _ A2.out).mono ?_); rintro e w' ⟨rfl, ⟨nd, rfl⟩⟩; refine ⟨_, rfl, ?_⟩))
    go_ret
    exact ⟨by first | rfl | (simp; done) | (simp [*]; done), by repeat (first | exact Drawn0.refl _ | apply Drawn0.step)⟩
end Go.Proofs.Ythkhpejggdnkfaa.PA
end
section
namespace Go.Proofs.Ythkhpejggdnkfaa.PA
open Go.RowKit Go.Proofs.YthkhpejggdnkfaaW.PrintWords Go.Proofs.YthkhpejggdnkfaaW.PrintLast Go.Proofs.YthkhpejggdnkfaaW.PrintMore
set_option linter.unusedVariables false
set_option linter.unusedSimpArgs false
def impl_Generates.f (k : Nat) (l0 : List Int) (a1 : Int) : Option (Bool) := (impl_usable.f k l0).bind fun t289 => (if t289 = true then ((impl_within.f a1 0 1000000).bind fun t290 => (if t290 = true then (if 0 < (l0.length : Int) then ((impl_leasts.f k l0 (rd l0 0)).bind fun t292 => (if (rd l0 0) = 0 then (none) else (if 0 ≤ (Int.tmod a1 (rd l0 0)) then (if (Int.tmod a1 (rd l0 0)) < (t292.length : Int) then (if (rd t292 (Int.tmod a1 (rd l0 0))) ≥ 0 then (some (decide ((rd t292 (Int.tmod a1 (rd l0 0))) ≤ a1))) else (some false)) else (none)) else (none)))) else (none)) else (some false))) else (some false))
def impl_Generates.T3 : Bool × List (List Nat × List Nat) := (true, [([], []), ([], []), ([1], [1]), ([2], [2]), ([0, 3], [0, 3]), ([], []), ([], []), ([6], [6]), ([7], [7]), ([5, 8], [5, 8]), ([4, 9], [4, 9]), ([10], [10]), ([11, 4, 0, 1, 2, 3, 4, 5, 6, 7, 8, 9, 10, 11], [11])])
def impl_Generates.B3 : List Nat := [0, 0, 2, 6, 15, 0, 0, 64, 192, 480, 1023, 2047, 4095]
theorem impl_Generates.tab3 : rtab .any (opsOf Try.f78 3) = impl_Generates.T3 := by kernel_rfl
theorem impl_Generates.bits3 : waitsOk impl_Generates.T3.2 impl_Generates.B3 = true := by kernel_rfl
set_option maxHeartbeats 8000000 in
set_option maxRecDepth 100000 in
theorem impl_Generates.calls (k : Nat) (A0 : Option Addr) (c0 : Nat) (l0 : List Int) (a1 : Int) (r : Bool) (w : World) (hr0 : Kd.C (Kd.int .i64) w A0 l0.length l0) (hc0 : l0.length ≤ c0) (h : impl_Generates.f k l0 a1 = some r) :
 Calls Try.prog 78 #[.slice A0 l0.length c0, .int .i64 a1] w fun e w' => e = .returned (.bool r) ∧ Below w.heap.size w w' := by
 have HR0 := Aside0.mk hr0
 have HC0 := Aside0.mk hc0
 clear hr0 hc0
 have HB := Aside0.mk (Below.refl w.heap.size w)
 have H : ((impl_usable.f k l0).bind fun t289 => (if t289 = true then ((impl_within.f a1 0 1000000).bind fun t290 => (if t290 = true then (if 0 < (l0.length : Int) then ((impl_leasts.f k l0 (rd l0 0)).bind fun t292 => (if (rd l0 0) = 0 then (none) else (if 0 ≤ (Int.tmod a1 (rd l0 0)) then (if (Int.tmod a1 (rd l0 0)) < (t292.length : Int) then (if (rd t292 (Int.tmod a1 (rd l0 0))) ≥ 0 then (some (decide ((rd t292 (Int.tmod a1 (rd l0 0))) ≤ a1))) else (some false)) else (none)) else (none)))) else (none)) else (some false))) else (some false))) = some r := h
 clear h
 replace H := Option.bind_eq_some_iff.mp H
 obtain ⟨t289, A30, H⟩ := H
 replace H : (if t289 = true then ((impl_within.f a1 0 1000000).bind fun t290 => (if t290 = true then (if 0 < (l0.length : Int) then ((impl_leasts.f k l0 (rd l0 0)).bind fun t292 => (if (rd l0 0) = 0 then (none) else (if 0 ≤ (Int.tmod a1 (rd l0 0)) then (if (Int.tmod a1 (rd l0 0)) < (t292.length : Int) then (if (rd t292 (Int.tmod a1 (rd l0 0))) ≥ 0 then (some (decide ((rd t292 (Int.tmod a1 (rd l0 0))) ≤ a1))) else (some false)) else (none)) else (none)))) else (none)) else (some false))) else (some false)) = some r := H
 have A3 := Aside0.mk A30
 clear A30
 by_cases c4 : t289 = true
 · subst c4
   have H1 : ((impl_within.f a1 0 1000000).bind fun t290 => (if t290 = true then (if 0 < (l0.length : Int) then ((impl_leasts.f k l0 (rd l0 0)).bind fun t292 => (if (rd l0 0) = 0 then (none) else (if 0 ≤ (Int.tmod a1 (rd l0 0)) then (if (Int.tmod a1 (rd l0 0)) < (t292.length : Int) then (if (rd t292 (Int.tmod a1 (rd l0 0))) ≥ 0 then (some (decide ((rd t292 (Int.tmod a1 (rd l0 0))) ≤ a1))) else (some false)) else (none)) else (none)))) else (none)) else (some false))) = some r := by rw [if_pos rfl] at H; exact H
   clear H
   have H := H1
   clear H1
   replace H := Option.bind_eq_some_iff.mp H
   obtain ⟨t290, A50, H⟩ := H
   replace H : (if t290 = true then (if 0 < (l0.length : Int) then ((impl_leasts.f k l0 (rd l0 0)).bind fun t292 => (if (rd l0 0) = 0 then (none) else (if 0 ≤ (Int.tmod a1 (rd l0 0)) then (if (Int.tmod a1 (rd l0 0)) < (t292.length : Int) then (if (rd t292 (Int.tmod a1 (rd l0 0))) ≥ 0 then (some (decide ((rd t292 (Int.tmod a1 (rd l0 0))) ≤ a1))) else (some false)) else (none)) else (none)))) else (none)) else (some false)) = some r := H
   have A5 := Aside0.mk A50
   clear A50
   by_cases c6 : t290 = true
   · subst c6
     have H1 : (if 0 < (l0.length : Int) then ((impl_leasts.f k l0 (rd l0 0)).bind fun t292 => (if (rd l0 0) = 0 then (none) else (if 0 ≤ (Int.tmod a1 (rd l0 0)) then (if (Int.tmod a1 (rd l0 0)) < (t292.length : Int) then (if (rd t292 (Int.tmod a1 (rd l0 0))) ≥ 0 then (some (decide ((rd t292 (Int.tmod a1 (rd l0 0))) ≤ a1))) else (some false)) else (none)) else (none)))) else (none)) = some r := by rw [if_pos rfl] at H; exact H
     clear H
     have H := H1
     clear H1
     by_cases c7 : 0 < (l0.length : Int)
     · rw [if_pos c7] at H
       have c7b0 : decide (0 < (l0.length : Int)) = true := decide_eq_true c7
       have c7b1 : decide (0 < l0.length) = true := decide_eq_true (by omega)
       clear c7
       replace H := Option.bind_eq_some_iff.mp H
       obtain ⟨t292, A80, H⟩ := H
       replace H : (if (rd l0 0) = 0 then (none) else (if 0 ≤ (Int.tmod a1 (rd l0 0)) then (if (Int.tmod a1 (rd l0 0)) < (t292.length : Int) then (if (rd t292 (Int.tmod a1 (rd l0 0))) ≥ 0 then (some (decide ((rd t292 (Int.tmod a1 (rd l0 0))) ≤ a1))) else (some false)) else (none)) else (none))) = some r := H
       have A8 := Aside0.mk A80
       clear A80
       by_cases c9 : (rd l0 0) = 0
       · rw [if_pos c9] at H
         exact absurd H (by simp)
       · rw [if_neg c9] at H
         have c9b0 : ((rd l0 0) == 0) = false := beq_eq_false_iff_ne.mpr c9
         have c9b1 : ((rd l0 0) != 0) = true := bne_iff_ne.mpr c9
         obtain ⟨ji10, hji10⟩ : ∃ j_ : Int, (Int.tmod a1 (rd l0 0)) = j_ := ⟨_, rfl⟩
         replace H : (if 0 ≤ (ji10) then (if (ji10) < (t292.length : Int) then (if (rd t292 (ji10)) ≥ 0 then (some (decide ((rd t292 (ji10)) ≤ a1))) else (some false)) else (none)) else (none)) = some r := by first | (rw [hji10] at H; exact H) | (simp only [hji10] at H ⊢; exact H)
         (try rw [hji10] at A3)
         (try rw [hji10] at A5)
         (try rw [hji10] at A8)
         by_cases c11 : 0 ≤ (ji10)
         · rw [if_pos c11] at H
           have c11b0 : decide (0 ≤ (ji10)) = true := decide_eq_true c11
           clear c11
           by_cases c12 : (ji10) < (t292.length : Int)
           · rw [if_pos c12] at H
             have c12b0 : decide ((ji10) < (t292.length : Int)) = true := decide_eq_true c12
             clear c12
             by_cases c13 : (rd t292 (ji10)) ≥ 0
             · rw [if_pos c13] at H
               have c13b0 : decide (0 ≤ (rd t292 (ji10))) = true := decide_eq_true c13
               clear c13
               as_aux_lemma =>
                obtain rfl := Option.some.inj H
                go_enter Try.func78, Try.ntmps78
                try go_wp2_with (first | ((with_reducible refine gate_callee (f := 84) rfl ?_); refine goesL_ (some 7) rfl rfl Try.func84 (by kernel_rfl) rfl #[.slice A0 l0.length c0] rfl (by (try simp only [List.map_toArray, List.map_cons, List.map_nil]); first | done | rfl | (simp only [List.length_drop, List.length_take]; rfl)) ?_; (with_reducible refine (impl_usable.calls k _ _ l0 true _ ?side1 ?side2 A3.out).mono ?_); (case side1 => exact ce_ (HR0.out)); (case side2 => exact HC0.out); rintro e w' ⟨rfl, ⟨nd, rfl⟩⟩; refine ⟨_, rfl, ?_⟩) | (go_at_call 39; (with_reducible refine (impl_within.calls a1 0 1000000 true _ A5.out).mono ?_); rintro e w' ⟨rfl, ⟨nd, rfl⟩⟩))
                have n0_ := Aside0.mk (below_drew1 HB.out)
                clear HB
                have HB := n0_
                clear n0_
                have p291 : 0 ≤ (0 : Int) := (by omega)
                have q291 : 0 < (l0.length : Int) := of_decide_eq_true (by first | (with_reducible assumption) | assumption)
                obtain ⟨ad291, e291, hx291_0⟩ := Kd.at_int HR0.out 0 p291 q291
                have hw291_0 := hx291_0
                (try rw [show ((0 : Int)).toNat = 0 from rfl] at hw291_0)
                (try rw [show 0 * 1 = 0 from rfl] at hw291_0)
                (try rw [Addr.add_zero'] at hw291_0)
                cases e291
                have qi291 : (0 < l0.length) = True := eq_true (by omega)
                (try rw [show ((0 : Int)).toNat = 0 from rfl] at hx291_0)
                (try rw [Addr.add_zero'] at hx291_0)
                (try replace hx291_0 := (HB.out.cell (World.block_lt_of_cell? w _ hx291_0)).trans hx291_0)
                replace p291 := eq_true p291
                replace q291 := eq_true q291
                have p295 : 0 ≤ (0 : Int) := (by omega)
                have q295 : 0 < (l0.length : Int) := of_decide_eq_true (by first | (with_reducible assumption) | assumption)
                obtain ⟨ad295, e295, hx295_0⟩ := Kd.at_int HR0.out 0 p295 q295
                have hw295_0 := hx295_0
                (try rw [show ((0 : Int)).toNat = 0 from rfl] at hw295_0)
                (try rw [show 0 * 1 = 0 from rfl] at hw295_0)
                (try rw [Addr.add_zero'] at hw295_0)
                obtain rfl : ad291 = ad295 := (by injection e295)
                have qi295 : (0 < l0.length) = True := eq_true (by omega)
                (try rw [show ((0 : Int)).toNat = 0 from rfl] at hx295_0)
                (try rw [Addr.add_zero'] at hx295_0)
                (try replace hx295_0 := (HB.out.cell (World.block_lt_of_cell? w _ hx295_0)).trans hx295_0)
                replace p295 := eq_true p295
                replace q295 := eq_true q295
                refine start_ (n := 13) (S := fun w' => w'.cell? ad291 = some (.int .i64 (rd l0 0)) ∧ w'.cell? ad291 = some (.int .i64 (rd l0 0)) ∧ True) (ds := []) (B_ 0 13) (by kernel_rfl) rfl rfl ⟨((HB.out.cell (World.block_lt_of_cell? w _ hw291_0)).trans hw291_0), ((HB.out.cell (World.block_lt_of_cell? w _ hw295_0)).trans hw295_0), trivial⟩ (fun hHeld => ?_); refine with_tabW impl_Generates.tab3 impl_Generates.bits3 (fun HT_ HW_ => ?_)
                (first | (generalize hq_ : World.drew (World.drewN w _) = w14 at hHeld ⊢; have HBq_ : Aside0 (Below w.heap.size w w14) := ⟨hq_ ▸ (below_drew1 (pw_below_drewN (Below.refl w.heap.size w) _))⟩; clear hq_ HB; have HB := HBq_; clear HBq_; replace hx291_0 := (HB.out.cell (World.block_lt_of_cell? w _ hw291_0)).trans hw291_0; replace hx295_0 := (HB.out.cell (World.block_lt_of_cell? w _ hw295_0)).trans hw295_0) | (generalize w.drew = w14 at HB hx291_0 hx295_0 hHeld ⊢))
                refine pu_ HT_ 0 14 (B_ 1 13) ?_
                refine pu_ HT_ 1 15 (B_ 3 13) ?_
                refine pu_ HT_ 2 16 (B_ 7 13) ?_
                refine pu_ HT_ 5 19 (B_ 39 13) ?_
                refine pu_ HT_ 6 20 (B_ 103 13) ?_
                refine pu_ HT_ 7 21 (B_ 231 13) ?_
                refine tk3_ HT_ HW_ hHeld 3 17 (B_ 239 13) ?_
                refine tk3_ HT_ HW_ hHeld 8 22 (B_ 495 13) ?_
                refine pu_ HT_ 9 23 (B_ 1007 13) ?_
                refine one_ (i := 4) (N := some 18) (B_ 1023 13) rfl rfl (one_of HT_.out (by kernel_rfl)) (by decide) (fun K hK => ?_)
                refine goes_ Try.func79 (by kernel_rfl) rfl #[.slice (some ad291) l0.length c0, .int .i64 (rd l0 0)] (by rfl) rfl rfl (by (try simp only [List.map_toArray, List.map_cons, List.map_nil]); first | done | rfl | (simp only [List.length_drop, List.length_take]; rfl)) ?_
                with_reducible refine (impl_leasts.calls k _ _ l0 (rd l0 0) t292 _ ?side1 ?side2 A8.out).mono ?_
                (case side1 => exact ce_ ((Kd.C_below HR0.out HB.out)))
                (case side2 => exact HC0.out)
                rintro e w15 ⟨v293, rfl, ho0, hb⟩
                refine ⟨_, rfl, ?_⟩
                have n0_ := Aside0.mk (Kd.R_lower ho0 (below_size (bl_ HB.out)))
                have n1_ := Aside0.mk (below_step (bl_ HB.out) hb)
                clear HB
                have HO294 := n0_
                have HB := n1_
                clear n0_ n1_
                (try clear hb)
                (try clear hb2)
                (try clear hk)
                (try clear hi)
                (try clear ho0)
                obtain ⟨Ao16, co16, eo16⟩ := Kd.R_slice HO294.out
                (first | subst eo16 | (injection eo16 with f1_ f2_ f3_; have f4_ := f1_.symm; have f5_ := f3_.symm; clear f1_ f2_ f3_; subst f4_; subst f5_))
                have p296 : 0 ≤ ((ji10) : Int) := of_decide_eq_true (by first | (with_reducible assumption) | assumption)
                have q296 : (ji10) < (t292.length : Int) := of_decide_eq_true (by first | (with_reducible assumption) | assumption)
                obtain ⟨ad296, e296, hx296_0⟩ := Kd.at_int (Kd.R_reads' HO294.out).2.2 (ji10) p296 q296
                cases e296
                replace p296 := eq_true p296
                replace q296 := eq_true q296
                refine hK.out _ _ ⟨((HB.out.cell (World.block_lt_of_cell? w _ hw291_0)).trans hw291_0), ((HB.out.cell (World.block_lt_of_cell? w _ hw295_0)).trans hw295_0), trivial⟩ (fun _ => ?_); refine restart_ (S' := fun w' => w'.cell? ad291 = some (.int .i64 (rd l0 0)) ∧ w'.cell? ad291 = some (.int .i64 (rd l0 0)) ∧ w'.cell? (ad296.add ((ji10)).toNat) = some (.int .i64 (rd t292 (ji10)))) (fun _ h => ⟨h.1, h.2.1, trivial⟩) ⟨((HB.out.cell (World.block_lt_of_cell? w _ hw291_0)).trans hw291_0), ((HB.out.cell (World.block_lt_of_cell? w _ hw295_0)).trans hw295_0), hx296_0⟩ (fun hHeld => ?_)
                clear hK K
                refine norm_ (a' := ?_) ?_ ?_
                rotate_left
                · show Act.put _ (some 18) _ = _
                  simp only [Act.put, z1_, z2_, z3_, i64_w, i32_w]
                  rfl
                refine pu_ HT_ 10 24 (B_ 2047 13) ?_
                refine tk3_ HT_ HW_ hHeld 11 25 (B_ 4095 13) ?_
                refine pu_ HT_ 12 5 (B_ 8191 13) ?_
                refine done_ (done_of HT_.out (by kernel_rfl)) ?_
                try go_wp2
                go_ret
                exact ⟨by first | rfl | (simp [errW_none, errW_some] <;> rfl) | (simp only [← hji10]; first | rfl | (simp [errW_none, errW_some] <;> rfl)) | (simp [*, errW_none, errW_some] <;> rfl), bl_ HB.out⟩
             · rw [if_neg c13] at H
               have c13b0 : decide (0 ≤ (rd t292 (ji10))) = false := decide_eq_false c13
               clear c13
               as_aux_lemma =>
                obtain rfl := Option.some.inj H
                go_enter Try.func78, Try.ntmps78
                try go_wp2_with (first | ((with_reducible refine gate_callee (f := 84) rfl ?_); refine goesL_ (some 7) rfl rfl Try.func84 (by kernel_rfl) rfl #[.slice A0 l0.length c0] rfl (by (try simp only [List.map_toArray, List.map_cons, List.map_nil]); first | done | rfl | (simp only [List.length_drop, List.length_take]; rfl)) ?_; (with_reducible refine (impl_usable.calls k _ _ l0 true _ ?side1 ?side2 A3.out).mono ?_); (case side1 => exact ce_ (HR0.out)); (case side2 => exact HC0.out); rintro e w' ⟨rfl, ⟨nd, rfl⟩⟩; refine ⟨_, rfl, ?_⟩) | (go_at_call 39; (with_reducible refine (impl_within.calls a1 0 1000000 true _ A5.out).mono ?_); rintro e w' ⟨rfl, ⟨nd, rfl⟩⟩))
                have n0_ := Aside0.mk (below_drew1 HB.out)
                clear HB
                have HB := n0_
                clear n0_
                have p291 : 0 ≤ (0 : Int) := (by omega)
                have q291 : 0 < (l0.length : Int) := of_decide_eq_true (by first | (with_reducible assumption) | assumption)
                obtain ⟨ad291, e291, hx291_0⟩ := Kd.at_int HR0.out 0 p291 q291
                have hw291_0 := hx291_0
                (try rw [show ((0 : Int)).toNat = 0 from rfl] at hw291_0)
                (try rw [show 0 * 1 = 0 from rfl] at hw291_0)
                (try rw [Addr.add_zero'] at hw291_0)
                cases e291
                have qi291 : (0 < l0.length) = True := eq_true (by omega)
                (try rw [show ((0 : Int)).toNat = 0 from rfl] at hx291_0)
                (try rw [Addr.add_zero'] at hx291_0)
                (try replace hx291_0 := (HB.out.cell (World.block_lt_of_cell? w _ hx291_0)).trans hx291_0)
                replace p291 := eq_true p291
                replace q291 := eq_true q291
                have p295 : 0 ≤ (0 : Int) := (by omega)
                have q295 : 0 < (l0.length : Int) := of_decide_eq_true (by first | (with_reducible assumption) | assumption)
                obtain ⟨ad295, e295, hx295_0⟩ := Kd.at_int HR0.out 0 p295 q295
                have hw295_0 := hx295_0
                (try rw [show ((0 : Int)).toNat = 0 from rfl] at hw295_0)
                (try rw [show 0 * 1 = 0 from rfl] at hw295_0)
                (try rw [Addr.add_zero'] at hw295_0)
                obtain rfl : ad291 = ad295 := (by injection e295)
                have qi295 : (0 < l0.length) = True := eq_true (by omega)
                (try rw [show ((0 : Int)).toNat = 0 from rfl] at hx295_0)
                (try rw [Addr.add_zero'] at hx295_0)
                (try replace hx295_0 := (HB.out.cell (World.block_lt_of_cell? w _ hx295_0)).trans hx295_0)
                replace p295 := eq_true p295
                replace q295 := eq_true q295
                refine start_ (n := 13) (S := fun w' => w'.cell? ad291 = some (.int .i64 (rd l0 0)) ∧ w'.cell? ad291 = some (.int .i64 (rd l0 0)) ∧ True) (ds := []) (B_ 0 13) (by kernel_rfl) rfl rfl ⟨((HB.out.cell (World.block_lt_of_cell? w _ hw291_0)).trans hw291_0), ((HB.out.cell (World.block_lt_of_cell? w _ hw295_0)).trans hw295_0), trivial⟩ (fun hHeld => ?_); refine with_tabW impl_Generates.tab3 impl_Generates.bits3 (fun HT_ HW_ => ?_)
                (first | (generalize hq_ : World.drew (World.drewN w _) = w17 at hHeld ⊢; have HBq_ : Aside0 (Below w.heap.size w w17) := ⟨hq_ ▸ (below_drew1 (pw_below_drewN (Below.refl w.heap.size w) _))⟩; clear hq_ HB; have HB := HBq_; clear HBq_; replace hx291_0 := (HB.out.cell (World.block_lt_of_cell? w _ hw291_0)).trans hw291_0; replace hx295_0 := (HB.out.cell (World.block_lt_of_cell? w _ hw295_0)).trans hw295_0) | (generalize w.drew = w17 at HB hx291_0 hx295_0 hHeld ⊢))
                refine pu_ HT_ 0 14 (B_ 1 13) ?_
                refine pu_ HT_ 1 15 (B_ 3 13) ?_
                refine pu_ HT_ 2 16 (B_ 7 13) ?_
                refine pu_ HT_ 5 19 (B_ 39 13) ?_
                refine pu_ HT_ 6 20 (B_ 103 13) ?_
                refine pu_ HT_ 7 21 (B_ 231 13) ?_
                refine tk3_ HT_ HW_ hHeld 3 17 (B_ 239 13) ?_
                refine tk3_ HT_ HW_ hHeld 8 22 (B_ 495 13) ?_
                refine pu_ HT_ 9 23 (B_ 1007 13) ?_
                refine one_ (i := 4) (N := some 18) (B_ 1023 13) rfl rfl (one_of HT_.out (by kernel_rfl)) (by decide) (fun K hK => ?_)
                refine goes_ Try.func79 (by kernel_rfl) rfl #[.slice (some ad291) l0.length c0, .int .i64 (rd l0 0)] (by rfl) rfl rfl (by (try simp only [List.map_toArray, List.map_cons, List.map_nil]); first | done | rfl | (simp only [List.length_drop, List.length_take]; rfl)) ?_
                with_reducible refine (impl_leasts.calls k _ _ l0 (rd l0 0) t292 _ ?side1 ?side2 A8.out).mono ?_
                (case side1 => exact ce_ ((Kd.C_below HR0.out HB.out)))
                (case side2 => exact HC0.out)
                rintro e w18 ⟨v293, rfl, ho0, hb⟩
                refine ⟨_, rfl, ?_⟩
                have n0_ := Aside0.mk (Kd.R_lower ho0 (below_size (bl_ HB.out)))
                have n1_ := Aside0.mk (below_step (bl_ HB.out) hb)
                clear HB
                have HO294 := n0_
                have HB := n1_
                clear n0_ n1_
                (try clear hb)
                (try clear hb2)
                (try clear hk)
                (try clear hi)
                (try clear ho0)
                obtain ⟨Ao19, co19, eo19⟩ := Kd.R_slice HO294.out
                (first | subst eo19 | (injection eo19 with f1_ f2_ f3_; have f4_ := f1_.symm; have f5_ := f3_.symm; clear f1_ f2_ f3_; subst f4_; subst f5_))
                have p296 : 0 ≤ ((ji10) : Int) := of_decide_eq_true (by first | (with_reducible assumption) | assumption)
                have q296 : (ji10) < (t292.length : Int) := of_decide_eq_true (by first | (with_reducible assumption) | assumption)
                obtain ⟨ad296, e296, hx296_0⟩ := Kd.at_int (Kd.R_reads' HO294.out).2.2 (ji10) p296 q296
                cases e296
                replace p296 := eq_true p296
                replace q296 := eq_true q296
                refine hK.out _ _ ⟨((HB.out.cell (World.block_lt_of_cell? w _ hw291_0)).trans hw291_0), ((HB.out.cell (World.block_lt_of_cell? w _ hw295_0)).trans hw295_0), trivial⟩ (fun _ => ?_); refine restart_ (S' := fun w' => w'.cell? ad291 = some (.int .i64 (rd l0 0)) ∧ w'.cell? ad291 = some (.int .i64 (rd l0 0)) ∧ w'.cell? (ad296.add ((ji10)).toNat) = some (.int .i64 (rd t292 (ji10)))) (fun _ h => ⟨h.1, h.2.1, trivial⟩) ⟨((HB.out.cell (World.block_lt_of_cell? w _ hw291_0)).trans hw291_0), ((HB.out.cell (World.block_lt_of_cell? w _ hw295_0)).trans hw295_0), hx296_0⟩ (fun hHeld => ?_)
                clear hK K
                refine norm_ (a' := ?_) ?_ ?_
                rotate_left
                · show Act.put _ (some 18) _ = _
                  simp only [Act.put, z1_, z2_, z3_, i64_w, i32_w]
                  rfl
                refine pu_ HT_ 10 24 (B_ 2047 13) ?_
                refine tk3_ HT_ HW_ hHeld 11 25 (B_ 4095 13) ?_
                refine pu_ HT_ 12 5 (B_ 8191 13) ?_
                refine done_ (done_of HT_.out (by kernel_rfl)) ?_
                try go_wp2
                go_ret
                exact ⟨by first | rfl | (simp [errW_none, errW_some] <;> rfl) | (simp only [← hji10]; first | rfl | (simp [errW_none, errW_some] <;> rfl)) | (simp [*, errW_none, errW_some] <;> rfl), bl_ HB.out⟩
           · rw [if_neg c12] at H
             exact absurd H (by simp)
         · rw [if_neg c11] at H
           exact absurd H (by simp)
     · rw [if_neg c7] at H
       exact absurd H (by simp)
   · replace c6 := Bool.eq_false_iff.mpr c6
     subst c6
     have H1 : (some false) = some r := by rw [if_neg (show ¬ (false = true) by decide)] at H; exact H
     clear H
     have H := H1
     clear H1
     as_aux_lemma =>
      obtain rfl := Option.some.inj H
      go_enter Try.func78, Try.ntmps78
      go_wp2_with (first | ((with_reducible refine gate_callee (f := 84) rfl ?_); refine goesL_ (some 7) rfl rfl Try.func84 (by kernel_rfl) rfl #[.slice A0 l0.length c0] rfl (by (try simp only [List.map_toArray, List.map_cons, List.map_nil]); first | done | rfl | (simp only [List.length_drop, List.length_take]; rfl)) ?_; (with_reducible refine (impl_usable.calls k _ _ l0 true _ ?side1 ?side2 A3.out).mono ?_); (case side1 => exact ce_ (HR0.out)); (case side2 => exact HC0.out); rintro e w' ⟨rfl, ⟨nd, rfl⟩⟩; refine ⟨_, rfl, ?_⟩) | (go_at_call 39; (with_reducible refine (impl_within.calls a1 0 1000000 false _ A5.out).mono ?_); rintro e w' ⟨rfl, ⟨nd, rfl⟩⟩))
      go_ret
      exact ⟨by first | rfl | (simp [errW_none, errW_some] <;> rfl) | (simp [*, errW_none, errW_some] <;> rfl), bl_ HB.out⟩
 · replace c4 := Bool.eq_false_iff.mpr c4
   subst c4
   have H1 : (some false) = some r := by rw [if_neg (show ¬ (false = true) by decide)] at H; exact H
   clear H
   have H := H1
   clear H1
   as_aux_lemma =>
    obtain rfl := Option.some.inj H
    go_enter Try.func78, Try.ntmps78
    go_wp2_with (first | ((with_reducible refine gate_callee (f := 84) rfl ?_); refine goesL_ (some 7) rfl rfl Try.func84 (by kernel_rfl) rfl #[.slice A0 l0.length c0] rfl (by (try simp only [List.map_toArray, List.map_cons, List.map_nil]); first | done | rfl | (simp only [List.length_drop, List.length_take]; rfl)) ?_; (with_reducible refine (impl_usable.calls k _ _ l0 false _ ?side1 ?side2 A3.out).mono ?_); (case side1 => exact ce_ (HR0.out)); (case side2 => exact HC0.out); rintro e w' ⟨rfl, ⟨nd, rfl⟩⟩; refine ⟨_, rfl, ?_⟩))
    go_ret
    exact ⟨by first | rfl | (simp [errW_none, errW_some] <;> rfl) | (simp [*, errW_none, errW_some] <;> rfl), bl_ HB.out⟩
end Go.Proofs.Ythkhpejggdnkfaa.PA
end
section
namespace Go.Proofs.Ythkhpejggdnkfaa.PA
open Go.RowKit Go.Proofs.YthkhpejggdnkfaaW.PrintWords Go.Proofs.YthkhpejggdnkfaaW.PrintLast Go.Proofs.YthkhpejggdnkfaaW.PrintMore
set_option linter.unusedVariables false
set_option linter.unusedSimpArgs false
mutual
def impl_IsSemigroup.j0 : Nat → List Int → Bool → Option (Bool)
 | 0, _, _ => none
 | k + 1, x3, x27 => if x27 = true then (some false) else (impl_IsSemigroup.l0 k x3 1)
def impl_IsSemigroup.l0 : Nat → List Int → Int → Option (Bool)
 | 0, _, _ => none
 | k + 1, x3, x4 => if x4 < (x3.length : Int) then (if 0 ≤ x4 then (if x4 ≤ (x3.length : Int) then ((impl_Generates.f k (x3.take (x4 : Int).toNat) (rd x3 x4)).bind fun t304 => (if t304 = true then (some false) else (impl_IsSemigroup.l0 k x3 (wrap64 (x4 + 1))))) else (none)) else (none)) else (if 0 < (x3.length : Int) then ((impl_leasts.f k x3 (rd x3 0)).bind fun t306 => (impl_IsSemigroup.l1 k x3 t306 (t306.length : Int) 0)) else (none))
def impl_IsSemigroup.l1 : Nat → List Int → List Int → Int → Int → Option (Bool)
 | 0, _, _, _, _ => none
 | k + 1, x3, x46, x47, x48 => if x48 < x47 then (if 0 ≤ x48 then (if x48 < (x46.length : Int) then (if 0 < (x3.length : Int) then (if (wrap64 ((rd x46 x48) - (rd x3 0))) ≥ 200 then (some false) else (impl_IsSemigroup.l1 k x3 x46 x47 (wrap64 (x48 + 1)))) else (none)) else (none)) else (none)) else (some true)
end
def impl_IsSemigroup.f (k : Nat) (l0_0 : List Int) : Option (Bool) := (impl_within.f (l0_0.length : Int) 1 12).bind fun t298 => (if t298 = true then ((impl_allWithin.f k l0_0 1 60).bind fun t299 => (if t299 = true then ((impl_IsAscending.f k l0_0).bind fun t300 => (if t300 = true then ((impl_GcdOfList.f k l0_0).bind fun t301 => (impl_IsSemigroup.j0 k l0_0 (t301 != 1))) else (impl_IsSemigroup.j0 k l0_0 true))) else (impl_IsSemigroup.j0 k l0_0 true))) else (impl_IsSemigroup.j0 k l0_0 true))
def impl_IsSemigroup.T7 : Bool × List (List Nat × List Nat) := (true, [([], []), ([], []), ([0, 1], [0, 1]), ([], []), ([], []), ([3, 4], [3, 4]), ([5], [5]), ([2, 6], [2, 6])])
def impl_IsSemigroup.B7 : List Nat := [0, 0, 3, 0, 0, 24, 56, 127]
theorem impl_IsSemigroup.tab7 : rtab .any (opsOf Try.f57 7) = impl_IsSemigroup.T7 := by kernel_rfl
theorem impl_IsSemigroup.bits7 : waitsOk impl_IsSemigroup.T7.2 impl_IsSemigroup.B7 = true := by kernel_rfl
set_option maxHeartbeats 8000000 in
set_option maxRecDepth 100000 in
theorem impl_IsSemigroup.calls (k : Nat) (A0_0 : Option Addr) (c0_0 : Nat) (l0_0 : List Int) (r : Bool) (w : World) (hr0_0 : Kd.C (Kd.int .i64) w A0_0 l0_0.length l0_0) (hc0_0 : l0_0.length ≤ c0_0) (h : impl_IsSemigroup.f k l0_0 = some r) :
 Calls Try.prog 57 #[.agg #[.slice A0_0 l0_0.length c0_0]] w fun e w' => e = .returned (.bool r) ∧ Below w.heap.size w w' := by
 have hu44 := Try.underlying44
 have HR0_0 := Aside0.mk hr0_0
 have HC0_0 := Aside0.mk hc0_0
 clear hr0_0 hc0_0
 have HB := Aside0.mk (Below.refl w.heap.size w)
 have H : ((impl_within.f (l0_0.length : Int) 1 12).bind fun t298 => (if t298 = true then ((impl_allWithin.f k l0_0 1 60).bind fun t299 => (if t299 = true then ((impl_IsAscending.f k l0_0).bind fun t300 => (if t300 = true then ((impl_GcdOfList.f k l0_0).bind fun t301 => (impl_IsSemigroup.j0 k l0_0 (t301 != 1))) else (impl_IsSemigroup.j0 k l0_0 true))) else (impl_IsSemigroup.j0 k l0_0 true))) else (impl_IsSemigroup.j0 k l0_0 true))) = some r := h
 clear h
 have HC2 := Aside0.mk H
 clear H
 go_enter Try.func57, Try.ntmps57
 go_upto_region 2 with (first | ((with_reducible refine gate_dst (N := 1) rfl ?_); refine box_event ?hg (N := 1) ?hd (cs := #[.slice A0_0 l0_0.length c0_0]) (t := 44) ?hr ?_; (case hd => rfl); (case hg => rfl); (case hr => first | (go_simp; done) | (go_simp; rfl)); intro gb297 hg w3 hbox hb; have n0_ := Aside0.mk (below_step (bl_ HB.out) hb); have n1_ := Aside0.mk (hbox); have n2_ := Aside0.mk ((by rw [hg]; exact (below_size (bl_ HB.out)) : w.heap.size ≤ gb297)); have n3_ := Aside0.mk ((by rw [hg]; exact (below_size (bl_ HB.out)) : w.heap.size ≤ gb297)); clear HB; have HB := n0_; have BK297 := n1_; have GW297 := n2_; have GE297 := n3_; clear n0_ n1_ n2_ n3_; clear hb hbox hg; have hcz4_0 : w3.cell? ⟨gb297, 0, none⟩ = some (.slice A0_0 l0_0.length c0_0) := (blk_cell BK297.out 0).trans rfl; have hfz4_0 := blk_frozen BK297.out 0))
 (try simp only [Act.put, z1_, z2_, z3_])
 go_cut [27] (fun v27 wc => ∃ (kq : Nat) (x27_1 : Bool), v27 = .bool x27_1 ∧ Aside0 (impl_IsSemigroup.j0 kq l0_0 x27_1 = some r) ∧ Aside0 (kq ≤ k) ∧ Aside0 (wc.heap[gb297]? = some (.cells #[(.slice A0_0 l0_0.length c0_0)] 44 (0, 0))) ∧ Aside0 (Below w.heap.size w wc))
 case first =>
  have H := HC2.out
  clear HC2
  replace H := Option.bind_eq_some_iff.mp H
  obtain ⟨t298, A50, H⟩ := H
  replace H : (if t298 = true then ((impl_allWithin.f k l0_0 1 60).bind fun t299 => (if t299 = true then ((impl_IsAscending.f k l0_0).bind fun t300 => (if t300 = true then ((impl_GcdOfList.f k l0_0).bind fun t301 => (impl_IsSemigroup.j0 k l0_0 (t301 != 1))) else (impl_IsSemigroup.j0 k l0_0 true))) else (impl_IsSemigroup.j0 k l0_0 true))) else (impl_IsSemigroup.j0 k l0_0 true)) = some r := H
  have A5 := Aside0.mk A50
  clear A50
  by_cases c6 : t298 = true
  · subst c6
    have H1 : ((impl_allWithin.f k l0_0 1 60).bind fun t299 => (if t299 = true then ((impl_IsAscending.f k l0_0).bind fun t300 => (if t300 = true then ((impl_GcdOfList.f k l0_0).bind fun t301 => (impl_IsSemigroup.j0 k l0_0 (t301 != 1))) else (impl_IsSemigroup.j0 k l0_0 true))) else (impl_IsSemigroup.j0 k l0_0 true))) = some r := by rw [if_pos rfl] at H; exact H
    clear H
    have H := H1
    clear H1
    replace H := Option.bind_eq_some_iff.mp H
    obtain ⟨t299, A70, H⟩ := H
    replace H : (if t299 = true then ((impl_IsAscending.f k l0_0).bind fun t300 => (if t300 = true then ((impl_GcdOfList.f k l0_0).bind fun t301 => (impl_IsSemigroup.j0 k l0_0 (t301 != 1))) else (impl_IsSemigroup.j0 k l0_0 true))) else (impl_IsSemigroup.j0 k l0_0 true)) = some r := H
    have A7 := Aside0.mk A70
    clear A70
    by_cases c8 : t299 = true
    · subst c8
      have H1 : ((impl_IsAscending.f k l0_0).bind fun t300 => (if t300 = true then ((impl_GcdOfList.f k l0_0).bind fun t301 => (impl_IsSemigroup.j0 k l0_0 (t301 != 1))) else (impl_IsSemigroup.j0 k l0_0 true))) = some r := by rw [if_pos rfl] at H; exact H
      clear H
      have H := H1
      clear H1
      replace H := Option.bind_eq_some_iff.mp H
      obtain ⟨t300, A90, H⟩ := H
      replace H : (if t300 = true then ((impl_GcdOfList.f k l0_0).bind fun t301 => (impl_IsSemigroup.j0 k l0_0 (t301 != 1))) else (impl_IsSemigroup.j0 k l0_0 true)) = some r := H
      have A9 := Aside0.mk A90
      clear A90
      by_cases c10 : t300 = true
      · subst c10
        have H1 : ((impl_GcdOfList.f k l0_0).bind fun t301 => (impl_IsSemigroup.j0 k l0_0 (t301 != 1))) = some r := by rw [if_pos rfl] at H; exact H
        clear H
        have H := H1
        clear H1
        replace H := Option.bind_eq_some_iff.mp H
        obtain ⟨t301, A110, H⟩ := H
        replace H : (impl_IsSemigroup.j0 k l0_0 (t301 != 1)) = some r := H
        have A11 := Aside0.mk A110
        clear A110
        as_aux_lemma =>
         have H' := Aside0.mk H
         clear H
         go_wp2_with (first | ((with_reducible refine gate_callee (f := 39) rfl ?_); refine goesL_ (some 11) rfl rfl Try.func39 (by kernel_rfl) rfl #[.int .i64 (l0_0.length : Int), .int .i64 1, .int .i64 12] rfl (by (try simp only [List.map_toArray, List.map_cons, List.map_nil]); first | done | rfl | (simp only [List.length_drop, List.length_take]; rfl)) ?_; (with_reducible refine (impl_within.calls (l0_0.length : Int) 1 12 true _ A5.out).mono ?_); rintro e w' ⟨rfl, ⟨nd, rfl⟩⟩; refine ⟨_, rfl, ?_⟩) | (go_at_call 50; (with_reducible refine (impl_allWithin.calls k _ _ l0_0 1 60 true _ ?side1 ?side2 A7.out).mono ?_); (case side1 => repeat (first | exact (Kd.C_below HR0_0.out (by repeat (first | (with_reducible first | exact HB.out | apply below_alloc | apply pw_below_drewN | apply below_drew1 | refine below_set ?_ GE297.out) | exact HB.out))) | (with_reducible refine Kd.C_alloc ?_ _) | (with_reducible refine Kd.C_drewN ?_ _) | (with_reducible refine Kd.C_drew ?_))); (case side2 => exact HC0_0.out); rintro e w' ⟨rfl, ⟨nd, rfl⟩⟩) | (go_at_call 51; (with_reducible refine (impl_IsAscending.calls k _ _ l0_0 true _ ?side1 ?side2 A9.out).mono ?_); (case side1 => repeat (first | exact (Kd.C_below HR0_0.out (by repeat (first | (with_reducible first | exact HB.out | apply below_alloc | apply pw_below_drewN | apply below_drew1 | refine below_set ?_ GE297.out) | exact HB.out))) | (with_reducible refine Kd.C_alloc ?_ _) | (with_reducible refine Kd.C_drewN ?_ _) | (with_reducible refine Kd.C_drew ?_))); (case side2 => exact HC0_0.out); rintro e w' ⟨rfl, ⟨nd, rfl⟩⟩) | (go_at_call 77; (with_reducible refine (impl_GcdOfList.calls k _ _ l0_0 t301 _ ?side1 ?side2 A11.out).mono ?_); (case side1 => repeat (first | exact (Kd.C_below HR0_0.out (by repeat (first | (with_reducible first | exact HB.out | apply below_alloc | apply pw_below_drewN | apply below_drew1 | refine below_set ?_ GE297.out) | exact HB.out))) | (with_reducible refine Kd.C_alloc ?_ _) | (with_reducible refine Kd.C_drewN ?_ _) | (with_reducible refine Kd.C_drew ?_))); (case side2 => exact HC0_0.out); rintro e w12 ⟨rfl, hb⟩; have n0_ := Aside0.mk (blk_below (g := gb297) (o := .cells #[.slice A0_0 l0_0.length c0_0] 44 (0, 0)) (be_ BK297.out) hb); have n1_ := Aside0.mk (below_step (by repeat (first | (with_reducible first | exact HB.out | apply below_alloc | apply pw_below_drewN | apply below_drew1 | refine below_set ?_ GE297.out) | exact HB.out)) hb); clear BK297; clear HB; have BK297 := n0_; have HB := n1_; clear n0_ n1_; (try clear hb); (try clear hb2); (try clear hk); (try clear hi)))
         go_meet
         case rel => exact ⟨_, ((t301 != 1)), (by first | rfl | (simp; done) | (simp [*]; done)), H', ⟨by first | omega | exact Nat.le_refl _⟩, ⟨be_ BK297.out⟩, ⟨by repeat (first | (with_reducible first | exact HB.out | apply below_alloc | apply pw_below_drewN | apply below_drew1 | refine below_set ?_ GE297.out) | exact HB.out)⟩⟩
      · replace c10 := Bool.eq_false_iff.mpr c10
        subst c10
        have H1 : (impl_IsSemigroup.j0 k l0_0 true) = some r := by rw [if_neg (show ¬ (false = true) by decide)] at H; exact H
        clear H
        have H := H1
        clear H1
        as_aux_lemma =>
         have H' := Aside0.mk H
         clear H
         go_wp2_with (first | ((with_reducible refine gate_callee (f := 39) rfl ?_); refine goesL_ (some 11) rfl rfl Try.func39 (by kernel_rfl) rfl #[.int .i64 (l0_0.length : Int), .int .i64 1, .int .i64 12] rfl (by (try simp only [List.map_toArray, List.map_cons, List.map_nil]); first | done | rfl | (simp only [List.length_drop, List.length_take]; rfl)) ?_; (with_reducible refine (impl_within.calls (l0_0.length : Int) 1 12 true _ A5.out).mono ?_); rintro e w' ⟨rfl, ⟨nd, rfl⟩⟩; refine ⟨_, rfl, ?_⟩) | (go_at_call 50; (with_reducible refine (impl_allWithin.calls k _ _ l0_0 1 60 true _ ?side1 ?side2 A7.out).mono ?_); (case side1 => repeat (first | exact (Kd.C_below HR0_0.out (by repeat (first | (with_reducible first | exact HB.out | apply below_alloc | apply pw_below_drewN | apply below_drew1 | refine below_set ?_ GE297.out) | exact HB.out))) | (with_reducible refine Kd.C_alloc ?_ _) | (with_reducible refine Kd.C_drewN ?_ _) | (with_reducible refine Kd.C_drew ?_))); (case side2 => exact HC0_0.out); rintro e w' ⟨rfl, ⟨nd, rfl⟩⟩) | (go_at_call 51; (with_reducible refine (impl_IsAscending.calls k _ _ l0_0 false _ ?side1 ?side2 A9.out).mono ?_); (case side1 => repeat (first | exact (Kd.C_below HR0_0.out (by repeat (first | (with_reducible first | exact HB.out | apply below_alloc | apply pw_below_drewN | apply below_drew1 | refine below_set ?_ GE297.out) | exact HB.out))) | (with_reducible refine Kd.C_alloc ?_ _) | (with_reducible refine Kd.C_drewN ?_ _) | (with_reducible refine Kd.C_drew ?_))); (case side2 => exact HC0_0.out); rintro e w' ⟨rfl, ⟨nd, rfl⟩⟩))
         go_meet
         case rel => exact ⟨_, (true), (by first | rfl | (simp; done) | (simp [*]; done)), H', ⟨by first | omega | exact Nat.le_refl _⟩, ⟨be_ BK297.out⟩, ⟨by repeat (first | (with_reducible first | exact HB.out | apply below_alloc | apply pw_below_drewN | apply below_drew1 | refine below_set ?_ GE297.out) | exact HB.out)⟩⟩
    · replace c8 := Bool.eq_false_iff.mpr c8
      subst c8
      have H1 : (impl_IsSemigroup.j0 k l0_0 true) = some r := by rw [if_neg (show ¬ (false = true) by decide)] at H; exact H
      clear H
      have H := H1
      clear H1
      as_aux_lemma =>
       have H' := Aside0.mk H
       clear H
       go_wp2_with (first | ((with_reducible refine gate_callee (f := 39) rfl ?_); refine goesL_ (some 11) rfl rfl Try.func39 (by kernel_rfl) rfl #[.int .i64 (l0_0.length : Int), .int .i64 1, .int .i64 12] rfl (by (try simp only [List.map_toArray, List.map_cons, List.map_nil]); first | done | rfl | (simp only [List.length_drop, List.length_take]; rfl)) ?_; (with_reducible refine (impl_within.calls (l0_0.length : Int) 1 12 true _ A5.out).mono ?_); rintro e w' ⟨rfl, ⟨nd, rfl⟩⟩; refine ⟨_, rfl, ?_⟩) | (go_at_call 50; (with_reducible refine (impl_allWithin.calls k _ _ l0_0 1 60 false _ ?side1 ?side2 A7.out).mono ?_); (case side1 => repeat (first | exact (Kd.C_below HR0_0.out (by repeat (first | (with_reducible first | exact HB.out | apply below_alloc | apply pw_below_drewN | apply below_drew1 | refine below_set ?_ GE297.out) | exact HB.out))) | (with_reducible refine Kd.C_alloc ?_ _) | (with_reducible refine Kd.C_drewN ?_ _) | (with_reducible refine Kd.C_drew ?_))); (case side2 => exact HC0_0.out); rintro e w' ⟨rfl, ⟨nd, rfl⟩⟩))
       go_meet
       case rel => exact ⟨_, (true), (by first | rfl | (simp; done) | (simp [*]; done)), H', ⟨by first | omega | exact Nat.le_refl _⟩, ⟨be_ BK297.out⟩, ⟨by repeat (first | (with_reducible first | exact HB.out | apply below_alloc | apply pw_below_drewN | apply below_drew1 | refine below_set ?_ GE297.out) | exact HB.out)⟩⟩
  · replace c6 := Bool.eq_false_iff.mpr c6
    subst c6
    have H1 : (impl_IsSemigroup.j0 k l0_0 true) = some r := by rw [if_neg (show ¬ (false = true) by decide)] at H; exact H
    clear H
    have H := H1
    clear H1
    as_aux_lemma =>
     have H' := Aside0.mk H
     clear H
     go_wp2_with (first | ((with_reducible refine gate_callee (f := 39) rfl ?_); refine goesL_ (some 11) rfl rfl Try.func39 (by kernel_rfl) rfl #[.int .i64 (l0_0.length : Int), .int .i64 1, .int .i64 12] rfl (by (try simp only [List.map_toArray, List.map_cons, List.map_nil]); first | done | rfl | (simp only [List.length_drop, List.length_take]; rfl)) ?_; (with_reducible refine (impl_within.calls (l0_0.length : Int) 1 12 false _ A5.out).mono ?_); rintro e w' ⟨rfl, ⟨nd, rfl⟩⟩; refine ⟨_, rfl, ?_⟩))
     go_meet
     case rel => exact ⟨_, (true), (by first | rfl | (simp; done) | (simp [*]; done)), H', ⟨by first | omega | exact Nat.le_refl _⟩, ⟨be_ BK297.out⟩, ⟨by repeat (first | (with_reducible first | exact HB.out | apply below_alloc | apply pw_below_drewN | apply below_drew1 | refine below_set ?_ GE297.out) | exact HB.out)⟩⟩
 case rest =>
  clear HC2
  try clear c1
  try clear p2
  try clear c3
  try clear c5
  try clear c6
  try clear c8
  try clear c10
  try clear hcz4_0
  try clear hfz4_0
  obtain ⟨kq, x27_1, rfl, HA, HJ1, BK297, HB⟩ := hcut
  cases kq with
  | zero => exact absurd HA.out (by simp [impl_IsSemigroup.j0])
  | succ kj1 =>
   have H := HA.out
   clear HA
   simp only [impl_IsSemigroup.j0] at H
   by_cases c13 : x27_1 = true
   · subst c13
     have H1 : (some false) = some r := by rw [if_pos rfl] at H; exact H
     clear H
     have H := H1
     clear H1
     as_aux_lemma =>
      obtain rfl := Option.some.inj H
      go_wp2
      go_ret
      exact ⟨by first | rfl | (simp [errW_none, errW_some] <;> rfl) | (simp [*, errW_none, errW_some] <;> rfl), by repeat (first | (with_reducible first | exact HB.out | apply below_alloc | apply pw_below_drewN | apply below_drew1 | refine below_set ?_ GE297.out) | exact HB.out)⟩
   · replace c13 := Bool.eq_false_iff.mpr c13
     subst c13
     have H1 : (impl_IsSemigroup.l0 kj1 l0_0 1) = some r := by rw [if_neg (show ¬ (false = true) by decide)] at H; exact H
     clear H
     have H := H1
     clear H1
     have H' := Aside0.mk H
     clear H
     go_wp2
     go_loopg [4] kj1 (fun kq v4 w' => ∃ (x4_2 : Int), v4 = .int .i64 x4_2 ∧ Aside0 (impl_IsSemigroup.l0 kq l0_0 x4_2 = some r) ∧ Aside0 (kq ≤ kj1) ∧ Aside0 (w'.heap[gb297]? = some (.cells #[(.slice A0_0 l0_0.length c0_0)] 44 (0, 0))) ∧ Aside0 (Below w.heap.size w w'))
     case atStart => exact ⟨(1), (by first | rfl | (simp; done) | (simp [*]; done)), H', ⟨Nat.le_refl _⟩, ⟨be_ BK297.out⟩, ⟨by repeat (first | (with_reducible first | exact HB.out | apply below_alloc | apply pw_below_drewN | apply below_drew1 | refine below_set ?_ GE297.out) | exact HB.out)⟩⟩
     case round =>
      clear H'
      try clear c1
      try clear p2
      try clear c3
      try clear c5
      try clear c6
      try clear c8
      try clear c10
      try clear c13
      try clear hcz4_0
      try clear hfz4_0
      try clear p2
      obtain ⟨x4_2, rfl, HA, HK2, BK297, HB⟩ := hrel
      cases gk with
      | zero => exact absurd HA.out (by simp [impl_IsSemigroup.l0])
      | succ k2 =>
       have H := HA.out
       clear HA
       simp only [impl_IsSemigroup.l0] at H
       by_cases c14 : x4_2 < (l0_0.length : Int)
       · rw [if_pos c14] at H
         have c14b0 : decide (x4_2 < (l0_0.length : Int)) = true := decide_eq_true c14
         clear c14
         by_cases c15 : 0 ≤ x4_2
         · rw [if_pos c15] at H
           have c15b0 := eq_true c15
           have c15b1 : decide (0 ≤ x4_2) = true := decide_eq_true c15
           clear c15
           by_cases c16 : x4_2 ≤ (l0_0.length : Int)
           · rw [if_pos c16] at H
             have c16b0 := eq_true c16
             have c16b1 : decide (x4_2 ≤ (l0_0.length : Int)) = true := decide_eq_true c16
             clear c16
             replace H := Option.bind_eq_some_iff.mp H
             obtain ⟨t304, A170, H⟩ := H
             replace H : (if t304 = true then (some false) else (impl_IsSemigroup.l0 k2 l0_0 (wrap64 (x4_2 + 1)))) = some r := H
             have A17 := Aside0.mk A170
             clear A170
             by_cases c18 : t304 = true
             · subst c18
               have H1 : (some false) = some r := by rw [if_pos rfl] at H; exact H
               clear H
               have H := H1
               clear H1
               as_aux_lemma =>
                obtain rfl := Option.some.inj H
                try go_wp2
                have n0_ := Aside0.mk (blk_drew BK297.out)
                have n1_ := Aside0.mk (below_drew1 HB.out)
                clear BK297
                clear HB
                have BK297 := n0_
                have HB := n1_
                clear n0_ n1_
                obtain ⟨i020, hi020, _, hsz20, _⟩ := info_parts info3
                obtain ⟨hcut20, hA20, hC20⟩ := print_take_of (P := Try.prog) (Value.int .i64) 0 22 3 .i64 Try.underlying22 hi020 hsz20 A0_0 c0_0 l0_0 x4_2 (of_decide_eq_true (by first | (with_reducible assumption) | assumption)) (of_decide_eq_true (by first | (with_reducible assumption) | assumption)) HC0_0.out
                have HR302 := Aside0.mk (Kd.C_of_reads (h1 := fun _ => rfl) (hA20 _ (Kd.reads_of_C HR0_0.out)))
                have HC302 := Aside0.mk hC20
                clear hA20 hC20 hi020 hsz20
                have p303 : 0 ≤ (x4_2 : Int) := of_decide_eq_true (by first | (with_reducible assumption) | assumption)
                have q303 : x4_2 < (l0_0.length : Int) := of_decide_eq_true (by first | (with_reducible assumption) | assumption)
                obtain ⟨ad303, e303, hx303_0⟩ := Kd.at_int HR0_0.out x4_2 p303 q303
                have hw303_0 := hx303_0
                cases e303
                (try replace hx303_0 := (HB.out.cell (World.block_lt_of_cell? w _ hx303_0)).trans hx303_0)
                replace p303 := eq_true p303
                replace q303 := eq_true q303
                refine start_ (n := 8) (S := fun w' => w'.cell? (ad303.add (x4_2).toNat) = some (.int .i64 (rd l0_0 x4_2))) (ds := []) (B_ 0 8) (by kernel_rfl) rfl rfl (by first | exact hw303_0 | exact (HB.out.cell (World.block_lt_of_cell? w _ hw303_0)).trans hw303_0 | (obtain ⟨_, e_, h_⟩ := Kd.at_int HR0_0.out x4_2 (of_eq_true p303) (of_eq_true q303); cases e_; exact h_)) (fun hHeld => ?_); refine with_tabW impl_IsSemigroup.tab7 impl_IsSemigroup.bits7 (fun HT_ HW_ => ?_)
                generalize wr.drew = w19 at BK297 HB HR302 hx303_0 hHeld ⊢
                refine pu_ HT_ 0 34 (B_ 1 8) ?_
                refine pu_ HT_ 1 35 (B_ 3 8) ?_
                refine pu_ HT_ 2 36 (B_ 7 8) ?_
                refine pu_ HT_ 3 37 (B_ 15 8) ?_
                refine pu_ HT_ 4 38 (B_ 31 8) ?_
                refine pu_ HT_ 5 39 (B_ 63 8) ?_
                refine tk1_ HT_ HW_ hHeld 6 40 (B_ 127 8) ?_
                refine one_ (i := 7) (N := some 41) (B_ 255 8) rfl rfl (one_of HT_.out (by kernel_rfl)) (by decide) (fun K hK => ?_)
                refine goes_ Try.func78 (by kernel_rfl) rfl #[.slice (some ad303) (l0_0.take (x4_2 : Int).toNat).length c0_0, .int .i64 (rd l0_0 x4_2)] (by rfl) rfl rfl (by (try simp only [List.map_toArray, List.map_cons, List.map_nil]); first | done | (rw [show (l0_0.take (x4_2 : Int).toNat).length = x4_2.toNat from (by rw [List.length_take]; have h_ : (x4_2 : Int) ≤ (l0_0.length : Int) := of_decide_eq_true (by first | (with_reducible assumption) | assumption); omega)] <;> rfl) | rfl | (simp only [List.length_drop, List.length_take]; rfl)) ?_
                with_reducible refine (impl_Generates.calls k2 _ _ (l0_0.take (x4_2 : Int).toNat) (rd l0_0 x4_2) true _ ?side1 ?side2 A17.out).mono ?_
                (case side1 => exact ce_ ((Kd.C_below HR302.out HB.out)))
                (case side2 => exact HC302.out)
                rintro e w21 ⟨rfl, hb⟩
                refine ⟨_, rfl, ?_⟩
                have n0_ := Aside0.mk (blk_below (g := gb297) (o := .cells #[.slice (some ad303) l0_0.length c0_0] 44 (0, 0)) (be_ BK297.out) hb)
                have n1_ := Aside0.mk (below_step (by repeat (first | (with_reducible first | exact HB.out | apply below_alloc | apply pw_below_drewN | apply below_drew1 | refine below_set ?_ GE297.out) | exact HB.out)) hb)
                clear BK297
                clear HB
                have BK297 := n0_
                have HB := n1_
                clear n0_ n1_
                (try clear hb)
                (try clear hb2)
                (try clear hk)
                (try clear hi)
                refine hK.out _ _ (by first | exact hw303_0 | exact (HB.out.cell (World.block_lt_of_cell? w _ hw303_0)).trans hw303_0 | (obtain ⟨_, e_, h_⟩ := Kd.at_int HR0_0.out x4_2 (of_eq_true p303) (of_eq_true q303); cases e_; exact h_)) (fun hHeld => ?_)
                clear hK K
                refine norm_ (a' := ?_) ?_ ?_
                rotate_left
                · show Act.put _ (some 41) _ = _
                  simp only [Act.put, z1_, z2_, z3_, i64_w, i32_w]
                  rfl
                refine done_ (done_of HT_.out (by kernel_rfl)) ?_
                try go_wp2
                go_ret
                exact ⟨by first | rfl | (simp [errW_none, errW_some] <;> rfl) | (simp [*, errW_none, errW_some] <;> rfl), by repeat (first | (with_reducible first | exact HB.out | apply below_alloc | apply pw_below_drewN | apply below_drew1 | refine below_set ?_ GE297.out) | exact HB.out)⟩
             · replace c18 := Bool.eq_false_iff.mpr c18
               subst c18
               have H1 : (impl_IsSemigroup.l0 k2 l0_0 (wrap64 (x4_2 + 1))) = some r := by rw [if_neg (show ¬ (false = true) by decide)] at H; exact H
               clear H
               have H := H1
               clear H1
               as_aux_lemma =>
                have H' := Aside0.mk H
                clear H
                try go_wp2
                have n0_ := Aside0.mk (blk_drew BK297.out)
                have n1_ := Aside0.mk (below_drew1 HB.out)
                clear BK297
                clear HB
                have BK297 := n0_
                have HB := n1_
                clear n0_ n1_
                obtain ⟨i023, hi023, _, hsz23, _⟩ := info_parts info3
                obtain ⟨hcut23, hA23, hC23⟩ := print_take_of (P := Try.prog) (Value.int .i64) 0 22 3 .i64 Try.underlying22 hi023 hsz23 A0_0 c0_0 l0_0 x4_2 (of_decide_eq_true (by first | (with_reducible assumption) | assumption)) (of_decide_eq_true (by first | (with_reducible assumption) | assumption)) HC0_0.out
                have HR302 := Aside0.mk (Kd.C_of_reads (h1 := fun _ => rfl) (hA23 _ (Kd.reads_of_C HR0_0.out)))
                have HC302 := Aside0.mk hC23
                clear hA23 hC23 hi023 hsz23
                have p303 : 0 ≤ (x4_2 : Int) := of_decide_eq_true (by first | (with_reducible assumption) | assumption)
                have q303 : x4_2 < (l0_0.length : Int) := of_decide_eq_true (by first | (with_reducible assumption) | assumption)
                obtain ⟨ad303, e303, hx303_0⟩ := Kd.at_int HR0_0.out x4_2 p303 q303
                have hw303_0 := hx303_0
                cases e303
                (try replace hx303_0 := (HB.out.cell (World.block_lt_of_cell? w _ hx303_0)).trans hx303_0)
                replace p303 := eq_true p303
                replace q303 := eq_true q303
                refine start_ (n := 8) (S := fun w' => w'.cell? (ad303.add (x4_2).toNat) = some (.int .i64 (rd l0_0 x4_2))) (ds := []) (B_ 0 8) (by kernel_rfl) rfl rfl (by first | exact hw303_0 | exact (HB.out.cell (World.block_lt_of_cell? w _ hw303_0)).trans hw303_0 | (obtain ⟨_, e_, h_⟩ := Kd.at_int HR0_0.out x4_2 (of_eq_true p303) (of_eq_true q303); cases e_; exact h_)) (fun hHeld => ?_); refine with_tabW impl_IsSemigroup.tab7 impl_IsSemigroup.bits7 (fun HT_ HW_ => ?_)
                generalize wr.drew = w22 at BK297 HB HR302 hx303_0 hHeld ⊢
                refine pu_ HT_ 0 34 (B_ 1 8) ?_
                refine pu_ HT_ 1 35 (B_ 3 8) ?_
                refine pu_ HT_ 2 36 (B_ 7 8) ?_
                refine pu_ HT_ 3 37 (B_ 15 8) ?_
                refine pu_ HT_ 4 38 (B_ 31 8) ?_
                refine pu_ HT_ 5 39 (B_ 63 8) ?_
                refine tk1_ HT_ HW_ hHeld 6 40 (B_ 127 8) ?_
                refine one_ (i := 7) (N := some 41) (B_ 255 8) rfl rfl (one_of HT_.out (by kernel_rfl)) (by decide) (fun K hK => ?_)
                refine goes_ Try.func78 (by kernel_rfl) rfl #[.slice (some ad303) (l0_0.take (x4_2 : Int).toNat).length c0_0, .int .i64 (rd l0_0 x4_2)] (by rfl) rfl rfl (by (try simp only [List.map_toArray, List.map_cons, List.map_nil]); first | done | (rw [show (l0_0.take (x4_2 : Int).toNat).length = x4_2.toNat from (by rw [List.length_take]; have h_ : (x4_2 : Int) ≤ (l0_0.length : Int) := of_decide_eq_true (by first | (with_reducible assumption) | assumption); omega)] <;> rfl) | rfl | (simp only [List.length_drop, List.length_take]; rfl)) ?_
                with_reducible refine (impl_Generates.calls k2 _ _ (l0_0.take (x4_2 : Int).toNat) (rd l0_0 x4_2) false _ ?side1 ?side2 A17.out).mono ?_
                (case side1 => exact ce_ ((Kd.C_below HR302.out HB.out)))
                (case side2 => exact HC302.out)
                rintro e w24 ⟨rfl, hb⟩
                refine ⟨_, rfl, ?_⟩
                have n0_ := Aside0.mk (blk_below (g := gb297) (o := .cells #[.slice (some ad303) l0_0.length c0_0] 44 (0, 0)) (be_ BK297.out) hb)
                have n1_ := Aside0.mk (below_step (by repeat (first | (with_reducible first | exact HB.out | apply below_alloc | apply pw_below_drewN | apply below_drew1 | refine below_set ?_ GE297.out) | exact HB.out)) hb)
                clear BK297
                clear HB
                have BK297 := n0_
                have HB := n1_
                clear n0_ n1_
                (try clear hb)
                (try clear hb2)
                (try clear hk)
                (try clear hi)
                refine hK.out _ _ (by first | exact hw303_0 | exact (HB.out.cell (World.block_lt_of_cell? w _ hw303_0)).trans hw303_0 | (obtain ⟨_, e_, h_⟩ := Kd.at_int HR0_0.out x4_2 (of_eq_true p303) (of_eq_true q303); cases e_; exact h_)) (fun hHeld => ?_)
                clear hK K
                refine norm_ (a' := ?_) ?_ ?_
                rotate_left
                · show Act.put _ (some 41) _ = _
                  simp only [Act.put, z1_, z2_, z3_, i64_w, i32_w]
                  rfl
                refine done_ (done_of HT_.out (by kernel_rfl)) ?_
                try go_wp2
                go_roundg k2
                case measure => have := HJ1.out; have := HK2.out; omega
                case rel => exact ⟨(wrap64 (x4_2 + 1)), (by first | rfl | (simp; done) | (simp [*]; done)), H', ⟨by have := HJ1.out; have := HK2.out; omega⟩, ⟨be_ BK297.out⟩, ⟨by repeat (first | (with_reducible first | exact HB.out | apply below_alloc | apply pw_below_drewN | apply below_drew1 | refine below_set ?_ GE297.out) | exact HB.out)⟩⟩
           · rw [if_neg c16] at H
             exact absurd H (by simp)
         · rw [if_neg c15] at H
           exact absurd H (by simp)
       · rw [if_neg c14] at H
         have c14b0 : decide (x4_2 < (l0_0.length : Int)) = false := decide_eq_false c14
         clear c14
         by_cases c25 : 0 < (l0_0.length : Int)
         · rw [if_pos c25] at H
           have c25b0 : decide (0 < (l0_0.length : Int)) = true := decide_eq_true c25
           have c25b1 : decide (0 < l0_0.length) = true := decide_eq_true (by omega)
           clear c25
           replace H := Option.bind_eq_some_iff.mp H
           obtain ⟨t306, A260, H⟩ := H
           replace H : (impl_IsSemigroup.l1 k2 l0_0 t306 (t306.length : Int) 0) = some r := H
           have A26 := Aside0.mk A260
           clear A260
           have H' := Aside0.mk H
           clear H
           have p305 : 0 ≤ (0 : Int) := (by omega)
           have q305 : 0 < (l0_0.length : Int) := of_decide_eq_true (by first | (with_reducible assumption) | assumption)
           obtain ⟨ad305, e305, hx305_0⟩ := Kd.at_int HR0_0.out 0 p305 q305
           cases e305
           have qi305 : (0 < l0_0.length) = True := eq_true (by omega)
           (try rw [show ((0 : Int)).toNat = 0 from rfl] at hx305_0)
           (try rw [Addr.add_zero'] at hx305_0)
           (try replace hx305_0 := (HB.out.cell (World.block_lt_of_cell? w _ hx305_0)).trans hx305_0)
           replace p305 := eq_true p305
           replace q305 := eq_true q305
           go_wp2_with (first | ((with_reducible refine gate_callee (f := 79) rfl ?_); refine goesL_ (some 46) rfl rfl Try.func79 (by kernel_rfl) rfl #[.slice (some ad305) l0_0.length c0_0, .int .i64 (rd l0_0 0)] rfl (by (try simp only [List.map_toArray, List.map_cons, List.map_nil]); first | done | rfl | (simp only [List.length_drop, List.length_take]; rfl)) ?_; (with_reducible refine (impl_leasts.calls k2 _ _ l0_0 (rd l0_0 0) t306 _ ?side1 ?side2 A26.out).mono ?_); (case side1 => exact ce_ ((Kd.C_below HR0_0.out HB.out))); (case side2 => exact HC0_0.out); rintro e w27 ⟨v307, rfl, ho0, hb⟩; refine ⟨_, rfl, ?_⟩; have n0_ := Aside0.mk (Kd.R_lower ho0 (below_size (by repeat (first | (with_reducible first | exact HB.out | apply below_alloc | apply pw_below_drewN | apply below_drew1 | refine below_set ?_ GE297.out) | exact HB.out)))); have n1_ := Aside0.mk (blk_below (g := gb297) (o := .cells #[.slice (some ad305) l0_0.length c0_0] 44 (0, 0)) (be_ BK297.out) hb); have n2_ := Aside0.mk (below_step (by repeat (first | (with_reducible first | exact HB.out | apply below_alloc | apply pw_below_drewN | apply below_drew1 | refine below_set ?_ GE297.out) | exact HB.out)) hb); clear BK297; clear HB; have HO308 := n0_; have BK297 := n1_; have HB := n2_; clear n0_ n1_ n2_; (try clear hb); (try clear hb2); (try clear hk); (try clear hi); (try clear ho0); obtain ⟨Ao28, co28, eo28⟩ := Kd.R_slice HO308.out; subst eo28))
           go_loopg [48] k2 (fun kq v48 w' => ∃ (x48_3 : Int), v48 = .int .i64 x48_3 ∧ Aside0 (impl_IsSemigroup.l1 kq l0_0 t306 (t306.length : Int) x48_3 = some r) ∧ Aside0 (kq ≤ k2) ∧ Aside0 (Kd.R (Kd.int .i64) 3 w' w.heap.size (fun _ => True) (.slice Ao28 t306.length co28) t306) ∧ Aside0 (w'.heap[gb297]? = some (.cells #[(.slice (some ad305) l0_0.length c0_0)] 44 (0, 0))) ∧ Aside0 (Below w.heap.size w w'))
           case atStart => exact ⟨(0), (by first | rfl | (simp; done) | (simp [*]; done)), H', ⟨Nat.le_refl _⟩, ⟨re_ HO308.out⟩, ⟨be_ BK297.out⟩, ⟨by repeat (first | (with_reducible first | exact HB.out | apply below_alloc | apply pw_below_drewN | apply below_drew1 | refine below_set ?_ GE297.out) | exact HB.out)⟩⟩
           case round =>
            clear H'
            try clear c1
            try clear c2
            try clear p2
            try clear c3
            try clear p3
            try clear q3
            try clear hx3
            try clear qi3
            try clear c5
            try clear c6
            try clear p6
            try clear c7
            try clear c8
            try clear c10
            try clear c13
            try clear c14
            try clear c14b0
            try clear c15
            try clear c15b0
            try clear c15b1
            try clear c16
            try clear c16b0
            try clear c16b1
            try clear c18
            try clear c25
            try clear c25b0
            try clear c25b1
            try clear hcz4_0
            try clear hfz4_0
            try clear hx303_0
            try clear hx305_0
            try clear p2
            try clear p303
            try clear p305
            try clear q303
            try clear q305
            obtain ⟨x48_3, rfl, HA, HK3, HO_46, BK297, HB⟩ := hrel
            cases gk with
            | zero => exact absurd HA.out (by simp [impl_IsSemigroup.l1])
            | succ k3 =>
             have H := HA.out
             clear HA
             simp only [impl_IsSemigroup.l1] at H
             by_cases c29 : x48_3 < (t306.length : Int)
             · rw [if_pos c29] at H
               have c29b0 : decide (x48_3 < (t306.length : Int)) = true := decide_eq_true c29
               clear c29
               by_cases c30 : 0 ≤ x48_3
               · rw [if_pos c30] at H
                 have c30b0 : decide (0 ≤ x48_3) = true := decide_eq_true c30
                 clear c30
                 by_cases c31 : x48_3 < (t306.length : Int)
                 · rw [if_pos c31] at H
                   have c31b0 : decide (x48_3 < (t306.length : Int)) = true := decide_eq_true c31
                   clear c31
                   by_cases c32 : 0 < (l0_0.length : Int)
                   · rw [if_pos c32] at H
                     have c32b0 : decide (0 < (l0_0.length : Int)) = true := decide_eq_true c32
                     have c32b1 : decide (0 < l0_0.length) = true := decide_eq_true (by omega)
                     clear c32
                     by_cases c33 : (wrap64 ((rd t306 x48_3) - (rd l0_0 0))) ≥ 200
                     · rw [if_pos c33] at H
                       have c33b0 : decide (200 ≤ (wrap64 ((rd t306 x48_3) - (rd l0_0 0)))) = true := decide_eq_true c33
                       clear c33
                       as_aux_lemma =>
                        obtain rfl := Option.some.inj H
                        have p309 : 0 ≤ (x48_3 : Int) := of_decide_eq_true (by first | (with_reducible assumption) | assumption)
                        have q309 : x48_3 < (t306.length : Int) := of_decide_eq_true (by first | (with_reducible assumption) | assumption)
                        obtain ⟨ad309, e309, hx309_0⟩ := Kd.at_int (Kd.R_reads' HO_46.out).2.2 x48_3 p309 q309
                        cases e309
                        replace p309 := eq_true p309
                        replace q309 := eq_true q309
                        have p310 : 0 ≤ (0 : Int) := (by omega)
                        have q310 : 0 < (l0_0.length : Int) := of_decide_eq_true (by first | (with_reducible assumption) | assumption)
                        obtain ⟨ad310, e310, hx310_0⟩ := Kd.at_int HR0_0.out 0 p310 q310
                        obtain rfl : ad305 = ad310 := (by injection e310)
                        have qi310 : (0 < l0_0.length) = True := eq_true (by omega)
                        (try rw [show ((0 : Int)).toNat = 0 from rfl] at hx310_0)
                        (try rw [Addr.add_zero'] at hx310_0)
                        (try replace hx310_0 := (HB.out.cell (World.block_lt_of_cell? w _ hx310_0)).trans hx310_0)
                        replace p310 := eq_true p310
                        replace q310 := eq_true q310
                        go_wp2
                        go_ret
                        exact ⟨by first | rfl | (simp [errW_none, errW_some] <;> rfl) | (simp [*, errW_none, errW_some] <;> rfl), by repeat (first | (with_reducible first | exact HB.out | apply below_alloc | apply pw_below_drewN | apply below_drew1 | refine below_set ?_ GE297.out) | exact HB.out)⟩
                     · rw [if_neg c33] at H
                       have c33b0 : decide (200 ≤ (wrap64 ((rd t306 x48_3) - (rd l0_0 0)))) = false := decide_eq_false c33
                       clear c33
                       as_aux_lemma =>
                        have H' := Aside0.mk H
                        clear H
                        have p309 : 0 ≤ (x48_3 : Int) := of_decide_eq_true (by first | (with_reducible assumption) | assumption)
                        have q309 : x48_3 < (t306.length : Int) := of_decide_eq_true (by first | (with_reducible assumption) | assumption)
                        obtain ⟨ad309, e309, hx309_0⟩ := Kd.at_int (Kd.R_reads' HO_46.out).2.2 x48_3 p309 q309
                        cases e309
                        replace p309 := eq_true p309
                        replace q309 := eq_true q309
                        have p310 : 0 ≤ (0 : Int) := (by omega)
                        have q310 : 0 < (l0_0.length : Int) := of_decide_eq_true (by first | (with_reducible assumption) | assumption)
                        obtain ⟨ad310, e310, hx310_0⟩ := Kd.at_int HR0_0.out 0 p310 q310
                        obtain rfl : ad305 = ad310 := (by injection e310)
                        have qi310 : (0 < l0_0.length) = True := eq_true (by omega)
                        (try rw [show ((0 : Int)).toNat = 0 from rfl] at hx310_0)
                        (try rw [Addr.add_zero'] at hx310_0)
                        (try replace hx310_0 := (HB.out.cell (World.block_lt_of_cell? w _ hx310_0)).trans hx310_0)
                        replace p310 := eq_true p310
                        replace q310 := eq_true q310
                        go_wp2
                        go_roundg k3
                        case measure => have := HJ1.out; have := HK2.out; have := HK3.out; omega
                        case rel => exact ⟨(wrap64 (x48_3 + 1)), (by first | rfl | (simp; done) | (simp [*]; done)), H', ⟨by have := HJ1.out; have := HK2.out; have := HK3.out; omega⟩, ⟨re_ HO_46.out⟩, ⟨be_ BK297.out⟩, ⟨by repeat (first | (with_reducible first | exact HB.out | apply below_alloc | apply pw_below_drewN | apply below_drew1 | refine below_set ?_ GE297.out) | exact HB.out)⟩⟩
                   · rw [if_neg c32] at H
                     exact absurd H (by simp)
                 · rw [if_neg c31] at H
                   exact absurd H (by simp)
               · rw [if_neg c30] at H
                 exact absurd H (by simp)
             · rw [if_neg c29] at H
               have c29b0 : decide (x48_3 < (t306.length : Int)) = false := decide_eq_false c29
               clear c29
               as_aux_lemma =>
                obtain rfl := Option.some.inj H
                go_wp2
                go_ret
                exact ⟨by first | rfl | (simp [errW_none, errW_some] <;> rfl) | (simp [*, errW_none, errW_some] <;> rfl), by repeat (first | (with_reducible first | exact HB.out | apply below_alloc | apply pw_below_drewN | apply below_drew1 | refine below_set ?_ GE297.out) | exact HB.out)⟩
         · rw [if_neg c25] at H
           exact absurd H (by simp)
end Go.Proofs.Ythkhpejggdnkfaa.PA
end
