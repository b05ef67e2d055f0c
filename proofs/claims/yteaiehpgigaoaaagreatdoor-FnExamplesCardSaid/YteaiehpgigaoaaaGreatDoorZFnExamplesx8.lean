-- Bundled by shake.py from this session's printed and written texts; Lean checks it.
import Derived.Shelf.Abstract
import Derived.Test.YteaiehpgigaoaaaGreatDoorZFnExamplesx0
import Derived.Test.YteaiehpgigaoaaaGreatDoorZFnExamplesx1
import Derived.Test.YteaiehpgigaoaaaGreatDoorZFnExamplesx7
section
namespace Go.Proofs.YteaiehpgigaoaaaGreatDoor.PB
open Go.RowKit Go.Proofs.YteaiehpgigaoaaaGreatDoorW.PrintWords Go.Proofs.YteaiehpgigaoaaaGreatDoorW.PrintLast Go.Proofs.YteaiehpgigaoaaaGreatDoorW.PrintMore
attribute [local go_sem] max2_int min2_int max_two min_two max_three min_three max_four min_four
set_option linter.unusedVariables false
set_option linter.unusedSimpArgs false
set_option maxHeartbeats 8000000
set_option maxRecDepth 100000
def impl_table.l0 : Nat → List Int → List Bool → Int → Int → List Int → Option (List Bool)
 | 0, _, _, _, _, _ => none
 | k + 1, x5, x6, x19, x20, x481000 => if x20 < x19 then (if 0 < (x481000.length : Int) then (if (rd x481000 0) = 0 then (none) else (if 0 ≤ (Int.tmod x20 (rd x481000 0)) then (if (Int.tmod x20 (rd x481000 0)) < (x5.length : Int) then (if 0 ≤ x20 then (if x20 < (x6.length : Int) then (impl_table.l0 k x5 (x6.set (x20 : Int).toNat (decide ((rd x5 (Int.tmod x20 (rd x481000 0))) ≤ x20))) x19 (wrap64 (x20 + 1)) x481000) else (none)) else (none)) else (none)) else (none))) else (none)) else (some x6)
def impl_table.f (k : Nat) (l0_0 : List Int) (a1 : Int) : Option (List Bool) := if 0 < (l0_0.length : Int) then ((impl_leasts.f k l0_0 (rd l0_0 0)).bind fun t482 => (if 0 ≤ (wrap64 (a1 + 1)) then (if (wrap64 (a1 + 1) : Int).toNat ≤ 281474976710656 then ((some (List.replicate (wrap64 (a1 + 1) : Int).toNat false : List Bool)).bind fun y485 => (impl_table.l0 k t482 y485 (y485.length : Int) 0 l0_0)) else (none)) else (none))) else (none)
def impl_table.T1 : Bool × List (List Nat × List Nat) := (true, [([], []), ([0], [0]), ([], []), ([2], [2]), ([3], [3]), ([4], [4]), ([1, 5], [1, 5]), ([6, 6, 0, 1, 2, 3, 4, 5, 6], [6])])
def impl_table.B1 : List Nat := [0, 1, 0, 4, 12, 28, 63, 127]
theorem impl_table.tab1 : rtab .any (opsOf Tryz.f63 1) = impl_table.T1 := by kernel_rfl
theorem impl_table.bits1 : waitsOk impl_table.T1.2 impl_table.B1 = true := by kernel_rfl
theorem impl_table.calls (k : Nat) (A0_0 : Option Addr) (c0_0 : Nat) (l0_0 : List Int) (a1 : Int) (r : List Bool) (w : World) (hr0_0 : Kd.C (Kd.int .i64) w A0_0 l0_0.length l0_0) (hc0_0 : l0_0.length ≤ c0_0) (h : impl_table.f k l0_0 a1 = some r) :
 Calls Tryz.prog 63 #[.agg #[.slice A0_0 l0_0.length c0_0], .int .i64 a1] w fun e w' => ∃ v0_ : Value, e = .returned (v0_) ∧ Kd.R Kd.bool 4 w' w.heap.size (fun _ => True) v0_ r ∧ Below w.heap.size w w' := by
 have hu29 := Tryz.underlying29
 have HR0_0 := Aside0.mk hr0_0
 have HC0_0 := Aside0.mk hc0_0
 clear hr0_0 hc0_0
 have HB := Aside0.mk (Below.refl w.heap.size w)
 have H := h
 clear h
 unfold impl_table.f at H
 by_cases c3 : 0 < (l0_0.length : Int)
 · rw [if_pos c3] at H
   have c3b0 : decide (0 < (l0_0.length : Int)) = true := decide_eq_true c3
   have c3b1 : decide (0 < l0_0.length) = true := decide_eq_true (by omega)
   clear c3
   obtain ⟨t482, A4, H⟩ := ob_ H
   obtain ⟨ji5, hji5⟩ : ∃ j_ : Int, (wrap64 (a1 + 1)) = j_ := ⟨_, rfl⟩
   replace H : (if 0 ≤ (ji5) then (if (ji5 : Int).toNat ≤ 281474976710656 then ((some (List.replicate (ji5 : Int).toNat false : List Bool)).bind fun y485 => (impl_table.l0 k t482 y485 (y485.length : Int) 0 l0_0)) else (none)) else (none)) = some r := by first | (rw [hji5] at H; exact H) | (simp only [hji5] at H ⊢; exact H)
   (try rw [hji5] at A4)
   have hji5w : (IntKind.i64.wrap (a1 + 1)) = ji5 := (i64_w _).trans hji5
   by_cases c6 : 0 ≤ (ji5)
   · rw [if_pos c6] at H
     have c6b0 := eq_true c6
     have c6b1 : decide (0 ≤ (ji5)) = true := decide_eq_true c6
     clear c6
     by_cases c7 : (ji5 : Int).toNat ≤ 281474976710656
     · rw [if_pos c7] at H
       have c7b0 := eq_true c7
       have c7b1 : decide ((ji5 : Int).toNat ≤ 281474976710656) = true := decide_eq_true c7
       clear c7
       obtain ⟨y485, hy485⟩ : ∃ y_ : List Bool, y_ = (List.replicate (ji5 : Int).toNat false) := ⟨_, rfl⟩
       replace H : (impl_table.l0 k t482 y485 (y485.length : Int) 0 l0_0) = some r := by subst hy485; exact H
       have Ny485 := Aside0.mk hy485
       clear hy485
       have H' := Aside0.mk H
       clear H
       go_enter Tryz.func63, Tryz.ntmps63
       try go_wp2_with (first | ((with_reducible refine gate_dst (N := 2) rfl ?_); refine bx_ 2 #[.slice A0_0 l0_0.length c0_0] 29 ?_; intro gb480 hg w8 hbox hb; have BK480 := Aside0.mk (hbox); have GW480 := gw_ hg HB; have GE480 := gw_ hg HB; replace HB := bo_ HB hb; clear hb hbox hg))
       replace BK480 := Aside0.mk (blk_drew BK480.out)
       replace HB := Aside0.mk (below_drew1 HB.out)
       have p481 : 0 ≤ (0 : Int) := (by omega)
       have q481 : 0 < (l0_0.length : Int) := od_
       obtain ⟨ad481, e481, hx481_0⟩ := Kd.at_int HR0_0.out 0 p481 q481
       have hw481_0 := hx481_0
       (try rw [show ((0 : Int)).toNat = 0 from rfl] at hw481_0)
       (try rw [show 0 * 1 = 0 from rfl] at hw481_0)
       (try rw [Addr.add_zero'] at hw481_0)
       cases e481
       have qi481 : (0 < l0_0.length) = True := eq_true (by omega)
       (try rw [show ((0 : Int)).toNat = 0 from rfl] at hx481_0)
       (try rw [Addr.add_zero'] at hx481_0)
       (try replace hx481_0 := (HB.out.cell (World.block_lt_of_cell? w _ hx481_0)).trans hx481_0)
       replace p481 := eq_true p481
       replace q481 := eq_true q481
       refine start_ (n := 8) (S := fun w' => w'.cell? ⟨gb480, 0, none⟩ = some (.slice (some ad481) l0_0.length c0_0) ∧ w'.cell? ad481 = some (.int .i64 (rd l0_0 0))) (ds := []) (B_ 0 8) (by kernel_rfl) rfl rfl ⟨(blk_cell BK480.out 0).trans rfl, ((HB.out.cell (World.block_lt_of_cell? w _ hw481_0)).trans hw481_0)⟩ (fun hHeld => ?_); refine with_tabW impl_table.tab1 impl_table.bits1 (fun HT_ HW_ => ?_)
       generalize w8.drew = w9 at BK480 HB hx481_0 hHeld ⊢
       refine pu_ HT_ 0 8 (B_ 1 8) ?_
       refine pu_ HT_ 2 10 (B_ 5 8) ?_
       refine tk2_ HT_ HW_ hHeld 1 9 (B_ 7 8) ?_
       refine tk2_ HT_ HW_ hHeld 3 11 (B_ 15 8) ?_
       refine pu_ HT_ 4 12 (B_ 31 8) ?_
       refine tk2_ HT_ HW_ hHeld 5 13 (B_ 63 8) ?_
       refine on_ HT_ 6 14 (B_ 127 8) (fun K hK => ?_)
       refine goes_ Tryz.func56 (by kernel_rfl) rfl #[.slice (some ad481) l0_0.length c0_0, .int .i64 (rd l0_0 0)] (by rfl) rfl rfl (by (try simp only [List.map_toArray, List.map_cons, List.map_nil]); first | done | rfl | (simp only [List.length_drop, List.length_take]; rfl)) ?_
       with_reducible refine (impl_leasts.calls k _ _ l0_0 (rd l0_0 0) t482 _ ?side1 ?side2 A4.out).mono ?_
       (case side1 => exact ch_ HR0_0 HB)
       (case side2 => exact HC0_0.out)
       rintro e w10 ⟨v483, rfl, ho0, hb⟩
       refine ⟨_, rfl, ?_⟩
       have HO484 := Aside0.mk (Kd.R_lower ho0 (below_size (bq_ HB)))
       replace BK480 := bk_ BK480 hb
       replace HB := bp_ HB hb
       (try clear hb)
       (try clear ho0)
       refine hK.out _ _ ⟨(blk_cell BK480.out 0).trans rfl, ((HB.out.cell (World.block_lt_of_cell? w _ hw481_0)).trans hw481_0)⟩ (fun hHeld => ?_)
       clear hK K
       refine norm_ (a' := ?_) ?_ ?_
       rotate_left
       · show Act.put _ (some 14) _ = _
         simp only [Act.put, z1_, z2_, z3_, i64_w, i32_w]
         rfl
       refine pu_ HT_ 7 5 (B_ 255 8) ?_
       refine done_ (done_of HT_.out (by kernel_rfl)) ?_
       try go_wp2_with (first | ((with_reducible refine gate_dst (N := 17) rfl ?_); refine Kd.R_make Kd.bool _ 4 rfl (N := 17) rfl 63 _ _ rfl ji5 rfl rfl Tryz.underlying63 (.bool false) 1 info4 rfl (by decide) (by omega) false (ok := fun _ => True) (okp := fun _ => True) rfl (fun _ hk => hk) trivial (od_) (Nat.le_trans (Nat.mul_le_mul_right _ (od_ : ji5.toNat ≤ 281474976710656)) (by omega)) (Below.refl _ _) (Nat.le_refl _) ?_; intro v486 w11 ho12 hb hg_ hnew_; clear hg_ hnew_; (first | rw [← Ny485.out] at ho12 | (simp only [Int.reduceToNat] at ho12; rw [← Ny485.out] at ho12)); replace HO484 := Aside0.mk (Kd.R_below (re_ HO484.out) hb); have HO487 := Aside0.mk (Kd.R_lower ho12 (below_size (bq_ HB))); replace BK480 := bk_ BK480 hb; replace HB := bp_ HB hb; clear hb ho12; obtain ⟨Ao13, co13, eo13⟩ := Kd.R_slice HO487.out; subst eo13))
       go_loopg [20] k (fun kq v20 w' => ∃ (x6_1 : List Bool) (x20_1 : Int), v20 = .int .i64 x20_1 ∧ Aside0 (impl_table.l0 kq t482 x6_1 (y485.length : Int) x20_1 l0_0 = some r) ∧ Aside0 (kq ≤ k) ∧ Aside0 (Kd.R (Kd.int .i64) 3 w' w.heap.size (fun _ => True) v483 t482) ∧ Aside0 (Kd.R Kd.bool 4 w' w.heap.size (fun _ => True) (.slice Ao13 y485.length co13) x6_1) ∧ Aside0 (w'.heap[gb480]? = some (.cells #[(.slice (some ad481) l0_0.length c0_0)] 29 (0, 0))) ∧ Aside0 (Below w.heap.size w w'))
       case atStart => exact ⟨(y485), (0), rs_, H', ⟨Nat.le_refl _⟩, ⟨re_ HO484.out⟩, ⟨re_ HO487.out⟩, ⟨be_ BK480.out⟩, ⟨bq_ HB⟩⟩
       case round =>
        clear H'
        try clear p2
        try clear c3
        try clear c3b0
        try clear c3b1
        try clear p4
        try clear q4
        try clear hx4
        try clear qi4
        try clear c5
        try clear c6
        try clear c6b0
        try clear c6b1
        try clear p6
        try clear c7
        try clear c7b0
        try clear c7b1
        try clear hx481_0
        try clear p481
        try clear q481
        obtain ⟨x6_1, x20_1, rfl, HA, HK1, HO_5, HO_6, BK480, HB⟩ := hrel
        have hl6_1 := (Kd.R_reads' HO_6.out).1
        rw [hl6_1] at HO_6
        (try simp only [hl6_1])
        (try simp only [hl6_1] at BK480)
        (try simp only [hl6_1] at HO_5)
        cases gk with
        | zero => exact absurd HA.out (by simp [impl_table.l0])
        | succ k1 =>
         have H := HA.out
         clear HA
         simp only [impl_table.l0] at H
         by_cases c14 : x20_1 < (y485.length : Int)
         · rw [if_pos c14] at H
           have c14b0 : decide (x20_1 < (y485.length : Int)) = true := decide_eq_true c14
           (try (have c14h := c14b0; simp only [hl6_1] at c14h))
           clear c14
           by_cases c15 : 0 < (l0_0.length : Int)
           · rw [if_pos c15] at H
             have c15b0 : decide (0 < (l0_0.length : Int)) = true := decide_eq_true c15
             have c15b1 : decide (0 < l0_0.length) = true := decide_eq_true (by omega)
             (try (have c15h := c15b0; simp only [hl6_1] at c15h))
             clear c15
             by_cases c16 : (rd l0_0 0) = 0
             · rw [if_pos c16] at H
               cases H
             · rw [if_neg c16] at H
               have c16b0 : ((rd l0_0 0) == 0) = false := beq_eq_false_iff_ne.mpr c16
               have c16b1 : ((rd l0_0 0) != 0) = true := bne_iff_ne.mpr c16
               obtain ⟨ji17, hji17⟩ : ∃ j_ : Int, (Int.tmod x20_1 (rd l0_0 0)) = j_ := ⟨_, rfl⟩
               replace H : (if 0 ≤ (ji17) then (if (ji17) < (t482.length : Int) then (if 0 ≤ x20_1 then (if x20_1 < (x6_1.length : Int) then (impl_table.l0 k1 t482 (x6_1.set (x20_1 : Int).toNat (decide ((rd t482 (ji17)) ≤ x20_1))) (y485.length : Int) (wrap64 (x20_1 + 1)) l0_0) else (none)) else (none)) else (none)) else (none)) = some r := by first | (rw [hji17] at H; exact H) | (simp only [hji17] at H ⊢; exact H)
               by_cases c18 : 0 ≤ (ji17)
               · rw [if_pos c18] at H
                 have c18b0 : decide (0 ≤ (ji17)) = true := decide_eq_true c18
                 clear c18
                 by_cases c19 : (ji17) < (t482.length : Int)
                 · rw [if_pos c19] at H
                   have c19b0 : decide ((ji17) < (t482.length : Int)) = true := decide_eq_true c19
                   (try (have c19h := c19b0; simp only [hl6_1] at c19h))
                   clear c19
                   by_cases c20 : 0 ≤ x20_1
                   · rw [if_pos c20] at H
                     have c20b0 : decide (0 ≤ x20_1) = true := decide_eq_true c20
                     clear c20
                     by_cases c21 : x20_1 < (x6_1.length : Int)
                     · rw [if_pos c21] at H
                       have c21b0 : decide (x20_1 < (x6_1.length : Int)) = true := decide_eq_true c21
                       (try (have c21h := c21b0; simp only [hl6_1] at c21h))
                       clear c21
                       obtain ⟨y490, hy490⟩ : ∃ y_ : List Bool, y_ = (x6_1.set (x20_1 : Int).toNat (decide ((rd t482 (ji17)) ≤ x20_1))) := ⟨_, rfl⟩
                       replace H : (impl_table.l0 k1 t482 y490 (y485.length : Int) (wrap64 (x20_1 + 1)) l0_0) = some r := by subst hy490; exact H
                       have Ny490 := Aside0.mk hy490
                       clear hy490
                       have H' := Aside0.mk H
                       clear H
                       have hcz23_0 := cz_ BK480
                       have hfz23_0 := blk_frozen BK480.out 0
                       have p488 : 0 ≤ (0 : Int) := (by omega)
                       have q488 : 0 < (l0_0.length : Int) := od_
                       obtain ⟨ad488, e488, hx488_0⟩ := Kd.at_int HR0_0.out 0 p488 q488
                       obtain rfl : ad481 = ad488 := (by injection e488)
                       have qi488 : (0 < l0_0.length) = True := eq_true (by omega)
                       (try rw [show ((0 : Int)).toNat = 0 from rfl] at hx488_0)
                       (try rw [Addr.add_zero'] at hx488_0)
                       (try replace hx488_0 := (HB.out.cell (World.block_lt_of_cell? w _ hx488_0)).trans hx488_0)
                       replace p488 := eq_true p488
                       replace q488 := eq_true q488
                       obtain ⟨Ao24, co24, eo24⟩ := Kd.R_slice HO_5.out
                       subst eo24
                       have p489 : 0 ≤ ((ji17) : Int) := od_
                       have q489 : (ji17) < (t482.length : Int) := od_
                       obtain ⟨ad489, e489, hx489_0⟩ := Kd.at_int (Kd.R_reads' HO_5.out).2.2 (ji17) p489 q489
                       cases e489
                       replace p489 := eq_true p489
                       replace q489 := eq_true q489
                       have p22 : 0 ≤ (x20_1 : Int) := od_
                       have q22 : (x20_1 : Int) < ((x6_1.length : Int) : Int) := od_
                       obtain ⟨go22, co22, eo22, gb22, gl22, cl22, HG22⟩ := Kd.R_form HO_6.out (by omega)
                       (first | cases eo22 | (injection eo22 with ea_ en_ ec_; (first | subst ea_ | (injection ea_ with ea_; subst ea_)); subst ec_; clear en_))
                       have GB22 := Aside0.mk gb22
                       have GG22 := Aside0.mk HG22
                       clear gb22 gl22 HG22
                       obtain ⟨hx22_0, hf22_0⟩ := Kd.R_celln false HO_6.out (x20_1 : Int) p22 q22
                       replace p22 := eq_true p22
                       replace q22 := eq_true q22
                       have HP25 := Kd.R_putg HO_6.out (x20_1 : Int) (decide ((rd t482 (ji17)) ≤ x20_1))
                       go_wp2_with (first | ((with_reducible refine gate_store (t := 4) (p := 36) rfl ?_); refine store_event (t := 4) (p := 36) (v := ?vo_w26) (w1 := (wr.setCell ⟨go22, (x20_1 : Int).toNat, none⟩ (.bool (decide ((rd t482 (ji17)) ≤ x20_1))))) ?hg ?ho ?hn ?hr ?_; (case ho => rfl); (case hg => rfl); (case hn => rfl); (case hr => first | (go_simp; done) | (go_simp; rfl)); intro w26 hw; have hg : wr.grownBy w26 (some go22) := (by rw [hw]; exact HP25.2); have hp_ : Kd.R Kd.bool 4 w26 w.heap.size (fun _ => True) (.slice (some ⟨go22, 0, none⟩) x6_1.length co13) y490 := (by rw [hw, Ny490.out]; exact HP25.1); clear HP25; replace HO_5 := Aside0.mk (Kd.R_over' (v := (.slice (some ⟨go22, 0, none⟩) x6_1.length co13)) (re_ HO_5.out) (Kd.R_typed HO_6.out) (by decide) hg); replace BK480 := Aside0.mk (blk_grown (be_ BK480.out) hg (Kd.R_ne HO_6.out BK480.out (by decide))); replace HO_6 := Aside0.mk (hp_); replace HB := Aside0.mk ((by rw [hw]; exact below_set (HB.out) GB22.out : Below w.heap.size w w26)); clear hg hw hp_))
                       (try simp only [← hl6_1])
                       go_roundg k1
                       case measure => have := HK1.out; omega
                       case rel => exact ⟨(y490), (wrap64 (x20_1 + 1)), rs_, H', ⟨by have := HK1.out; omega⟩, ⟨by (try simp only [hl6_1]); (with_reducible repeat (first | apply Kd.R_alloc | apply Kd.R_drewN | apply Kd.R_drew)); exact HO_5.out⟩, ⟨by (try simp only [hl6_1]); (with_reducible repeat (first | apply Kd.R_alloc | apply Kd.R_drewN | apply Kd.R_drew)); exact HO_6.out⟩, ⟨by (try simp only [hl6_1]); (with_reducible repeat (first | refine blk_drewN ?_ _ | refine blk_drew ?_ | refine blk_alloc ?_ _)); exact BK480.out⟩, ⟨bq_ HB⟩⟩
                     · rw [if_neg c21] at H
                       cases H
                   · rw [if_neg c20] at H
                     cases H
                 · rw [if_neg c19] at H
                   cases H
               · rw [if_neg c18] at H
                 cases H
           · rw [if_neg c15] at H
             cases H
         · rw [if_neg c14] at H
           have c14b0 : decide (x20_1 < (y485.length : Int)) = false := decide_eq_false c14
           (try (have c14h := c14b0; simp only [hl6_1] at c14h))
           clear c14
           obtain rfl := Option.some.inj H
           go_wp2
           go_ret
           exact ⟨_, by first | rfl | (simp [errW_none, errW_some] <;> rfl) | (simp only [← hji5]; first | rfl | (simp [errW_none, errW_some] <;> rfl)) | (simp [*, errW_none, errW_some] <;> rfl), re_ HO_6.out, bq_ HB⟩
     · rw [if_neg c7] at H
       cases H
   · rw [if_neg c6] at H
     cases H
 · rw [if_neg c3] at H
   cases H
def impl_Gaps.l0 : Nat → List Int → List Bool → Int → Int → Option (List Int)
 | 0, _, _, _, _ => none
 | k + 1, x3, x11, x12, x13 => if x13 < x12 then (if 0 ≤ x13 then (if x13 < (x11.length : Int) then (if rdOf false x11 x13 = true then (impl_Gaps.l0 k x3 x11 x12 (wrap64 (x13 + 1))) else (if x3.length < 17592186044416 then (impl_Gaps.l0 k (x3 ++ [x13]) x11 x12 (wrap64 (x13 + 1))) else (none))) else (none)) else (none)) else (some x3)
def impl_Gaps.f (k : Nat) (l0_0 : List Int) : Option (List Int) := (impl_IsSemigroup.f k l0_0).bind fun t492 => (if t492 = true then ((impl_table.f k l0_0 200).bind fun t496 => (impl_Gaps.l0 k (([] : List Int)) t496 (t496.length : Int) 0)) else (some ([] : List Int)))
theorem impl_Gaps.calls (k : Nat) (A0_0 : Option Addr) (c0_0 : Nat) (l0_0 : List Int) (r : List Int) (w : World) (hr0_0 : Kd.C (Kd.int .i64) w A0_0 l0_0.length l0_0) (hc0_0 : l0_0.length ≤ c0_0) (h : impl_Gaps.f k l0_0 = some r) :
 Calls Tryz.prog 60 #[.agg #[.slice A0_0 l0_0.length c0_0]] w fun e w' => ∃ v0_ : Value, e = .returned (v0_) ∧ Kd.R (Kd.int .i64) 3 w' w.heap.size (fun _ => True) v0_ r ∧ Below w.heap.size w w' := by
 have hu29 := Tryz.underlying29
 have HR0_0 := Aside0.mk hr0_0
 have HC0_0 := Aside0.mk hc0_0
 clear hr0_0 hc0_0
 have HB := Aside0.mk (Below.refl w.heap.size w)
 have H := h
 clear h
 unfold impl_Gaps.f at H
 obtain ⟨t492, A2, H⟩ := ob_ H
 by_cases c3 : t492 = true
 · subst c3
   rw [if_pos rfl] at H
   obtain ⟨y493, hy493⟩ : ∃ y_ : List Int, y_ = (([] : List Int)) := ⟨_, rfl⟩
   replace H : ((impl_table.f k l0_0 200).bind fun t496 => (impl_Gaps.l0 k y493 t496 (t496.length : Int) 0)) = some r := by subst hy493; exact H
   have Ny493 := Aside0.mk hy493
   clear hy493
   obtain ⟨t496, A4, H⟩ := ob_ H
   have H' := Aside0.mk H
   clear H
   go_enter Tryz.func60, Tryz.ntmps60
   go_wp2_with (first | ((with_reducible refine gate_dst (N := 1) rfl ?_); refine bx_ 1 #[.slice A0_0 l0_0.length c0_0] 29 ?_; intro gb491 hg w5 hbox hb; have BK491 := Aside0.mk (hbox); have GW491 := gw_ hg HB; have GE491 := gw_ hg HB; replace HB := bo_ HB hb; clear hb hbox hg; have hcz6_0 := cz_ BK491; have hfz6_0 := blk_frozen BK491.out 0) | ((with_reducible refine gate_callee (f := 22) rfl ?_); refine gL_ (some 7) Tryz.func22 #[.agg #[.slice A0_0 l0_0.length c0_0]] ?_; (with_reducible refine (impl_IsSemigroup.calls k _ _ l0_0 true _ ?side1 ?side2 A2.out).mono ?_); (case side1 => exact ch_ HR0_0 HB); (case side2 => exact HC0_0.out); rintro e w7 ⟨rfl, hb⟩; refine ⟨_, rfl, ?_⟩; replace BK491 := bk_ BK491 hb; replace HB := bp_ HB hb; (try clear hb)) | ((with_reducible refine gate_dst (N := 9) rfl ?_); refine Kd.R_lit (Kd.int .i64) _ 3 ?hg (N := 9) ?hd (xs := ([] : List Int)) (inner := []) (ok := fun _ => True) (okp := fun _ => True) ?hr ?hp (fun _ hk => hk) trivial (Below.refl _ _) (Nat.le_refl _) (by simp) ?_; (case hd => rfl); (case hg => rfl); (case hr => first | (go_simp; done) | (go_simp; rfl)); (case hp => exact (Reps.none _ _)); intro v494 w8 ho9 hb hg_ hnew_; clear hg_ hnew_; (first | rw [← Ny493.out] at ho9 | (simp only [Int.reduceToNat] at ho9; rw [← Ny493.out] at ho9)); have HO495 := Aside0.mk (Kd.R_lower ho9 (below_size (bq_ HB))); replace BK491 := bk_ BK491 hb; replace HB := bp_ HB hb; clear hb ho9; have hcz10_0 := cz_ BK491; have hfz10_0 := blk_frozen BK491.out 0) | ((with_reducible refine gate_callee (f := 63) rfl ?_); refine gL_ (some 11) Tryz.func63 #[.agg #[.slice A0_0 l0_0.length c0_0], .int .i64 200] ?_; (with_reducible refine (impl_table.calls k _ _ l0_0 200 t496 _ ?side1 ?side2 A4.out).mono ?_); (case side1 => exact ch_ HR0_0 HB); (case side2 => exact HC0_0.out); rintro e w11 ⟨v497, rfl, ho0, hb⟩; refine ⟨_, rfl, ?_⟩; replace HO495 := Aside0.mk (Kd.R_below (re_ HO495.out) hb); have HO498 := Aside0.mk (Kd.R_lower ho0 (below_size (bq_ HB))); replace BK491 := bk_ BK491 hb; replace HB := bp_ HB hb; (try clear hb); (try clear ho0); obtain ⟨Ao12, co12, eo12⟩ := Kd.R_slice HO498.out; subst eo12))
   go_loopg [3, 13] k (fun kq v3 v13 w' => ∃ (x3_1 : List Int) (x13_1 : Int), v13 = .int .i64 x13_1 ∧ Aside0 (impl_Gaps.l0 kq x3_1 t496 (t496.length : Int) x13_1 = some r) ∧ Aside0 (kq ≤ k) ∧ Aside0 (Kd.R (Kd.int .i64) 3 w' w.heap.size (fun _ => True) v3 x3_1) ∧ Aside0 (Kd.R Kd.bool 4 w' w.heap.size (fun _ => True) (.slice Ao12 t496.length co12) t496) ∧ Aside0 (w'.heap[gb491]? = some (.cells #[(.slice A0_0 l0_0.length c0_0)] 29 (0, 0))) ∧ Aside0 (Below w.heap.size w w'))
   case atStart => exact ⟨(y493), (0), rs_, H', ⟨Nat.le_refl _⟩, ⟨re_ HO495.out⟩, ⟨re_ HO498.out⟩, ⟨be_ BK491.out⟩, ⟨bq_ HB⟩⟩
   case round =>
    clear H'
    try clear c2
    try clear p2
    try clear c3
    try clear c6
    try clear hcz10_0
    try clear hcz6_0
    try clear hfz10_0
    try clear hfz6_0
    obtain ⟨x3_1, x13_1, rfl, HA, HK1, HO_3, HO_11, BK491, HB⟩ := hrel
    cases gk with
    | zero => exact absurd HA.out (by simp [impl_Gaps.l0])
    | succ k1 =>
     have H := HA.out
     clear HA
     simp only [impl_Gaps.l0] at H
     by_cases c13 : x13_1 < (t496.length : Int)
     · rw [if_pos c13] at H
       have c13b0 : decide (x13_1 < (t496.length : Int)) = true := decide_eq_true c13
       clear c13
       by_cases c14 : 0 ≤ x13_1
       · rw [if_pos c14] at H
         have c14b0 : decide (0 ≤ x13_1) = true := decide_eq_true c14
         clear c14
         by_cases c15 : x13_1 < (t496.length : Int)
         · rw [if_pos c15] at H
           have c15b0 : decide (x13_1 < (t496.length : Int)) = true := decide_eq_true c15
           clear c15
           obtain ⟨bq16, hbq16⟩ : ∃ b_ : Bool, b_ = (rdOf false t496 x13_1) := ⟨_, rfl⟩
           replace H : (if bq16 = true then (impl_Gaps.l0 k1 x3_1 t496 (t496.length : Int) (wrap64 (x13_1 + 1))) else (if x3_1.length < 17592186044416 then (impl_Gaps.l0 k1 (x3_1 ++ [x13_1]) t496 (t496.length : Int) (wrap64 (x13_1 + 1))) else (none))) = some r := by rw [← hbq16] at H; exact H
           have Nbq16 := Aside0.mk hbq16
           clear hbq16
           by_cases c17 : bq16 = true
           · subst c17
             rw [if_pos rfl] at H
             have H' := Aside0.mk H
             clear H
             have p499 : 0 ≤ (x13_1 : Int) := od_
             have q499 : x13_1 < (t496.length : Int) := od_
             obtain ⟨ad499, e499, hx499_0⟩ := Kd.at_bool (Kd.R_reads' HO_11.out).2.2 x13_1 p499 q499
             (try rw [← Nbq16.out] at hx499_0)
             cases e499
             replace p499 := eq_true p499
             replace q499 := eq_true q499
             go_wp2
             go_roundg k1
             case measure => have := HK1.out; omega
             case rel => exact ⟨(x3_1), (wrap64 (x13_1 + 1)), rs_, H', ⟨by have := HK1.out; omega⟩, ⟨re_ HO_3.out⟩, ⟨re_ HO_11.out⟩, ⟨be_ BK491.out⟩, ⟨bq_ HB⟩⟩
           · replace c17 := Bool.eq_false_iff.mpr c17
             subst c17
             rw [if_neg (show ¬ (false = true) by decide)] at H
             by_cases c18 : x3_1.length < 17592186044416
             · rw [if_pos c18] at H
               have LMc18 := Aside0.mk c18
               clear c18
               obtain ⟨y500, hy500⟩ : ∃ y_ : List Int, y_ = (x3_1 ++ [x13_1]) := ⟨_, rfl⟩
               replace H : (impl_Gaps.l0 k1 y500 t496 (t496.length : Int) (wrap64 (x13_1 + 1))) = some r := by subst hy500; exact H
               have Ny500 := Aside0.mk hy500
               clear hy500
               have H' := Aside0.mk H
               clear H
               have p499 : 0 ≤ (x13_1 : Int) := od_
               have q499 : x13_1 < (t496.length : Int) := od_
               obtain ⟨ad499, e499, hx499_0⟩ := Kd.at_bool (Kd.R_reads' HO_11.out).2.2 x13_1 p499 q499
               (try rw [← Nbq16.out] at hx499_0)
               cases e499
               replace p499 := eq_true p499
               replace q499 := eq_true q499
               go_wp2_with (first | ((with_reducible refine gate_builtin (b := .append) (xs := #[.tmp 20, .tmp 22]) rfl ?_); at_builtin; refine Kd.R_append (Kd.int .i64) (w0 := w) w.heap.size rfl (.tmp 20) (.tmp 22) 27 3 (.int .i64 0) 8 rfl Tryz.underlying27 info3 rfl (by decide) (by omega) u3 x3_1 x13_1 [.int .i64 x13_1] (fun _ => True) (fun _ => False) rfl rfl ?aP (fun _ hk => hk.elim) ?aF ?aO ?aB ?aS ?aL ?_; (case aP => exact rfl); (case aB => exact (bq_ HB)); (case aF => exact (fun _ _ => trivial)); (case aO => exact (re_ HO_3.out)); (case aS => exact (below_size (bq_ HB))); (case aL => have := LMc18.out; omega); intro v501 w19 ho hb hg hat; rw [← Ny500.out] at ho; replace HO_11 := Aside0.mk (Kd.R_over' (re_ HO_11.out) (Kd.R_typed (re_ HO_3.out)) (by decide) hg); replace BK491 := Aside0.mk (blk_grown (be_ BK491.out) hg (Kd.R_ne HO_3.out BK491.out (by decide))); replace HB := Aside0.mk (hb); have HO502 := Aside0.mk (ho); clear HO_3; clear ho hb hg hat))
               go_roundg k1
               case measure => have := HK1.out; omega
               case rel => exact ⟨(y500), (wrap64 (x13_1 + 1)), rs_, H', ⟨by have := HK1.out; omega⟩, ⟨re_ HO502.out⟩, ⟨re_ HO_11.out⟩, ⟨be_ BK491.out⟩, ⟨bq_ HB⟩⟩
             · rw [if_neg c18] at H
               cases H
         · rw [if_neg c15] at H
           cases H
       · rw [if_neg c14] at H
         cases H
     · rw [if_neg c13] at H
       have c13b0 : decide (x13_1 < (t496.length : Int)) = false := decide_eq_false c13
       clear c13
       obtain rfl := Option.some.inj H
       go_wp2
       go_ret
       exact ⟨_, rf_, re_ HO_3.out, bq_ HB⟩
 · replace c3 := Bool.eq_false_iff.mpr c3
   subst c3
   rw [if_neg (show ¬ (false = true) by decide)] at H
   obtain rfl := Option.some.inj H
   go_enter Tryz.func60, Tryz.ntmps60
   go_wp2_with (first | ((with_reducible refine gate_dst (N := 1) rfl ?_); refine bx_ 1 #[.slice A0_0 l0_0.length c0_0] 29 ?_; intro gb491 hg w20 hbox hb; have BK491 := Aside0.mk (hbox); have GW491 := gw_ hg HB; have GE491 := gw_ hg HB; replace HB := bo_ HB hb; clear hb hbox hg; have hcz21_0 := cz_ BK491; have hfz21_0 := blk_frozen BK491.out 0) | ((with_reducible refine gate_callee (f := 22) rfl ?_); refine gL_ (some 7) Tryz.func22 #[.agg #[.slice A0_0 l0_0.length c0_0]] ?_; (with_reducible refine (impl_IsSemigroup.calls k _ _ l0_0 false _ ?side1 ?side2 A2.out).mono ?_); (case side1 => exact ch_ HR0_0 HB); (case side2 => exact HC0_0.out); rintro e w22 ⟨rfl, hb⟩; refine ⟨_, rfl, ?_⟩; replace BK491 := bk_ BK491 hb; replace HB := bp_ HB hb; (try clear hb)))
   go_ret
   exact ⟨_, rf_, by first | exact Kd.R_nil _ _ _ _ _ | exact Kd.N_nil _ _ _ _ _ | exact Kd.V_nil _ _ _ _ _ | exact Kd.Q_nil _ _ _ _ _ | exact Kd.S_nil _ _ _ _ _, bq_ HB⟩
def impl_FrobeniusOf.f (k : Nat) (l0_0 : List Int) : Option (Int) := (impl_Gaps.f k l0_0).bind fun t504 => (if (t504.length : Int) = 0 then (some (-1)) else (if 0 ≤ (wrap64 ((t504.length : Int) - 1)) then (if (wrap64 ((t504.length : Int) - 1)) < (t504.length : Int) then (some (rd t504 (wrap64 ((t504.length : Int) - 1)))) else (none)) else (none)))
theorem impl_FrobeniusOf.calls (k : Nat) (A0_0 : Option Addr) (c0_0 : Nat) (l0_0 : List Int) (r : Int) (w : World) (hr0_0 : Kd.C (Kd.int .i64) w A0_0 l0_0.length l0_0) (hc0_0 : l0_0.length ≤ c0_0) (h : impl_FrobeniusOf.f k l0_0 = some r) :
 Calls Tryz.prog 27 #[.agg #[.slice A0_0 l0_0.length c0_0]] w fun e w' => e = .returned (.int .i64 r) ∧ Below w.heap.size w w' := by
 have hu29 := Tryz.underlying29
 have HR0_0 := Aside0.mk hr0_0
 have HC0_0 := Aside0.mk hc0_0
 clear hr0_0 hc0_0
 have HB := Aside0.mk (Below.refl w.heap.size w)
 have H := h
 clear h
 unfold impl_FrobeniusOf.f at H
 obtain ⟨t504, A2, H⟩ := ob_ H
 by_cases c3 : (t504.length : Int) = 0
 · rw [if_pos c3] at H
   have c3b0 : ((t504.length : Int) == 0) = true := beq_iff_eq.mpr c3
   have c3b1 : ((t504.length : Int) != 0) = false := bne_eq_false_iff_eq.mpr c3
   clear c3
   obtain rfl := Option.some.inj H
   go_enter Tryz.func27, Tryz.ntmps27
   go_wp2_with (first | ((with_reducible refine gate_dst (N := 1) rfl ?_); refine bx_ 1 #[.slice A0_0 l0_0.length c0_0] 29 ?_; intro gb503 hg w4 hbox hb; have BK503 := Aside0.mk (hbox); have GW503 := gw_ hg HB; have GE503 := gw_ hg HB; replace HB := bo_ HB hb; clear hb hbox hg; have hcz5_0 := cz_ BK503; have hfz5_0 := blk_frozen BK503.out 0) | ((with_reducible refine gate_callee (f := 60) rfl ?_); refine gL_ (some 5) Tryz.func60 #[.agg #[.slice A0_0 l0_0.length c0_0]] ?_; (with_reducible refine (impl_Gaps.calls k _ _ l0_0 t504 _ ?side1 ?side2 A2.out).mono ?_); (case side1 => exact ch_ HR0_0 HB); (case side2 => exact HC0_0.out); rintro e w6 ⟨v505, rfl, ho0, hb⟩; refine ⟨_, rfl, ?_⟩; have HO506 := Aside0.mk (Kd.R_lower ho0 (below_size (bq_ HB))); replace BK503 := bk_ BK503 hb; replace HB := bp_ HB hb; (try clear hb); (try clear ho0); obtain ⟨Ao7, co7, eo7⟩ := Kd.R_slice HO506.out; subst eo7))
   go_ret
   exact ⟨rf_, bq_ HB⟩
 · rw [if_neg c3] at H
   have c3b0 : ((t504.length : Int) == 0) = false := beq_eq_false_iff_ne.mpr c3
   have c3b1 : ((t504.length : Int) != 0) = true := bne_iff_ne.mpr c3
   have c3b2 : ¬ (t504 = []) := fun h_ => c3 (by rw [h_]; rfl)
   obtain ⟨ji8, hji8⟩ : ∃ j_ : Int, (wrap64 ((t504.length : Int) - 1)) = j_ := ⟨_, rfl⟩
   replace H : (if 0 ≤ (ji8) then (if (ji8) < (t504.length : Int) then (some (rd t504 (ji8))) else (none)) else (none)) = some r := by first | (rw [hji8] at H; exact H) | (simp only [hji8] at H ⊢; exact H)
   (try rw [hji8] at A2)
   have hji8w : (IntKind.i64.wrap ((t504.length : Int) - 1)) = ji8 := (i64_w _).trans hji8
   by_cases c9 : 0 ≤ (ji8)
   · rw [if_pos c9] at H
     have c9b0 : decide (0 ≤ (ji8)) = true := decide_eq_true c9
     clear c9
     by_cases c10 : (ji8) < (t504.length : Int)
     · rw [if_pos c10] at H
       have c10b0 : decide ((ji8) < (t504.length : Int)) = true := decide_eq_true c10
       clear c10
       obtain rfl := Option.some.inj H
       go_enter Tryz.func27, Tryz.ntmps27
       go_wp2_with (first | ((with_reducible refine gate_dst (N := 1) rfl ?_); refine bx_ 1 #[.slice A0_0 l0_0.length c0_0] 29 ?_; intro gb503 hg w11 hbox hb; have BK503 := Aside0.mk (hbox); have GW503 := gw_ hg HB; have GE503 := gw_ hg HB; replace HB := bo_ HB hb; clear hb hbox hg; have hcz12_0 := cz_ BK503; have hfz12_0 := blk_frozen BK503.out 0) | ((with_reducible refine gate_callee (f := 60) rfl ?_); refine gL_ (some 5) Tryz.func60 #[.agg #[.slice A0_0 l0_0.length c0_0]] ?_; (with_reducible refine (impl_Gaps.calls k _ _ l0_0 t504 _ ?side1 ?side2 A2.out).mono ?_); (case side1 => exact ch_ HR0_0 HB); (case side2 => exact HC0_0.out); rintro e w13 ⟨v505, rfl, ho0, hb⟩; refine ⟨_, rfl, ?_⟩; have HO506 := Aside0.mk (Kd.R_lower ho0 (below_size (bq_ HB))); replace BK503 := bk_ BK503 hb; replace HB := bp_ HB hb; (try clear hb); (try clear ho0); obtain ⟨Ao14, co14, eo14⟩ := Kd.R_slice HO506.out; subst eo14; have p507 : 0 ≤ ((ji8) : Int) := od_; have q507 : (ji8) < (t504.length : Int) := od_; obtain ⟨ad507, e507, hx507_0⟩ := Kd.at_int (Kd.R_reads' HO506.out).2.2 (ji8) p507 q507; cases e507; replace p507 := eq_true p507; replace q507 := eq_true q507))
       go_ret
       exact ⟨by first | rfl | (simp [errW_none, errW_some] <;> rfl) | (simp only [← hji8]; first | rfl | (simp [errW_none, errW_some] <;> rfl)) | (simp [*, errW_none, errW_some] <;> rfl), bq_ HB⟩
     · rw [if_neg c10] at H
       cases H
   · rw [if_neg c9] at H
     cases H
def impl_halved.l0 : Nat → Int → Int → List Bool → Int → Option (Bool)
 | 0, _, _, _, _ => none
 | k + 1, x1, x5, x6, x7 => if x7 ≤ x5 then (if x7 = x1 then (impl_halved.l0 k x1 x5 x6 (wrap64 (x7 + 1))) else (if 0 ≤ x7 then (if x7 < (x6.length : Int) then (if 0 ≤ (wrap64 (x5 - x7)) then (if (wrap64 (x5 - x7)) < (x6.length : Int) then (if ((rdOf false x6 x7) == (rdOf false x6 (wrap64 (x5 - x7)))) = true then (some false) else (impl_halved.l0 k x1 x5 x6 (wrap64 (x7 + 1)))) else (none)) else (none)) else (none)) else (none))) else (some true)
def impl_halved.f (k : Nat) (l0_0 : List Int) (a1 : Int) : Option (Bool) := (impl_FrobeniusOf.f k l0_0).bind fun t509 => ((impl_table.f k l0_0 200).bind fun t510 => (impl_halved.l0 k a1 t509 t510 0))
theorem impl_halved.calls (k : Nat) (A0_0 : Option Addr) (c0_0 : Nat) (l0_0 : List Int) (a1 : Int) (r : Bool) (w : World) (hr0_0 : Kd.C (Kd.int .i64) w A0_0 l0_0.length l0_0) (hc0_0 : l0_0.length ≤ c0_0) (h : impl_halved.f k l0_0 a1 = some r) :
 Calls Tryz.prog 57 #[.agg #[.slice A0_0 l0_0.length c0_0], .int .i64 a1] w fun e w' => e = .returned (.bool r) ∧ Below w.heap.size w w' := by
 have hu29 := Tryz.underlying29
 have HR0_0 := Aside0.mk hr0_0
 have HC0_0 := Aside0.mk hc0_0
 clear hr0_0 hc0_0
 have HB := Aside0.mk (Below.refl w.heap.size w)
 have H := h
 clear h
 unfold impl_halved.f at H
 obtain ⟨t509, A3, H⟩ := ob_ H
 obtain ⟨t510, A4, H⟩ := ob_ H
 have H' := Aside0.mk H
 clear H
 go_enter Tryz.func57, Tryz.ntmps57
 go_wp2_with (first | ((with_reducible refine gate_dst (N := 2) rfl ?_); refine bx_ 2 #[.slice A0_0 l0_0.length c0_0] 29 ?_; intro gb508 hg w5 hbox hb; have BK508 := Aside0.mk (hbox); have GW508 := gw_ hg HB; have GE508 := gw_ hg HB; replace HB := bo_ HB hb; clear hb hbox hg; have hcz6_0 := cz_ BK508; have hfz6_0 := blk_frozen BK508.out 0) | (go_at_call 27; (with_reducible refine (impl_FrobeniusOf.calls k _ _ l0_0 t509 _ ?side1 ?side2 A3.out).mono ?_); (case side1 => exact ch_ HR0_0 HB); (case side2 => exact HC0_0.out); rintro e w7 ⟨rfl, hb⟩; replace BK508 := bk_ BK508 hb; replace HB := bp_ HB hb; (try clear hb); have hcz8_0 := cz_ BK508; have hfz8_0 := blk_frozen BK508.out 0) | (go_at_call 63; (with_reducible refine (impl_table.calls k _ _ l0_0 200 t510 _ ?side1 ?side2 A4.out).mono ?_); (case side1 => exact ch_ HR0_0 HB); (case side2 => exact HC0_0.out); rintro e w9 ⟨v511, rfl, ho0, hb⟩; have HO512 := Aside0.mk (Kd.R_lower ho0 (below_size (bq_ HB))); replace BK508 := bk_ BK508 hb; replace HB := bp_ HB hb; (try clear hb); (try clear ho0)))
 repeat (go_quiet (first | ((with_reducible refine gate_dst (N := 2) rfl ?_); refine bx_ 2 #[.slice A0_0 l0_0.length c0_0] 29 ?_; intro gb508 hg w5 hbox hb; have BK508 := Aside0.mk (hbox); have GW508 := gw_ hg HB; have GE508 := gw_ hg HB; replace HB := bo_ HB hb; clear hb hbox hg; have hcz6_0 := cz_ BK508; have hfz6_0 := blk_frozen BK508.out 0) | (go_at_call 27; (with_reducible refine (impl_FrobeniusOf.calls k _ _ l0_0 t509 _ ?side1 ?side2 A3.out).mono ?_); (case side1 => exact ch_ HR0_0 HB); (case side2 => exact HC0_0.out); rintro e w7 ⟨rfl, hb⟩; replace BK508 := bk_ BK508 hb; replace HB := bp_ HB hb; (try clear hb); have hcz8_0 := cz_ BK508; have hfz8_0 := blk_frozen BK508.out 0) | (go_at_call 63; (with_reducible refine (impl_table.calls k _ _ l0_0 200 t510 _ ?side1 ?side2 A4.out).mono ?_); (case side1 => exact ch_ HR0_0 HB); (case side2 => exact HC0_0.out); rintro e w9 ⟨v511, rfl, ho0, hb⟩; have HO512 := Aside0.mk (Kd.R_lower ho0 (below_size (bq_ HB))); replace BK508 := bk_ BK508 hb; replace HB := bp_ HB hb; (try clear hb); (try clear ho0))); try go_wp2_with (first | ((with_reducible refine gate_dst (N := 2) rfl ?_); refine bx_ 2 #[.slice A0_0 l0_0.length c0_0] 29 ?_; intro gb508 hg w5 hbox hb; have BK508 := Aside0.mk (hbox); have GW508 := gw_ hg HB; have GE508 := gw_ hg HB; replace HB := bo_ HB hb; clear hb hbox hg; have hcz6_0 := cz_ BK508; have hfz6_0 := blk_frozen BK508.out 0) | (go_at_call 27; (with_reducible refine (impl_FrobeniusOf.calls k _ _ l0_0 t509 _ ?side1 ?side2 A3.out).mono ?_); (case side1 => exact ch_ HR0_0 HB); (case side2 => exact HC0_0.out); rintro e w7 ⟨rfl, hb⟩; replace BK508 := bk_ BK508 hb; replace HB := bp_ HB hb; (try clear hb); have hcz8_0 := cz_ BK508; have hfz8_0 := blk_frozen BK508.out 0) | (go_at_call 63; (with_reducible refine (impl_table.calls k _ _ l0_0 200 t510 _ ?side1 ?side2 A4.out).mono ?_); (case side1 => exact ch_ HR0_0 HB); (case side2 => exact HC0_0.out); rintro e w9 ⟨v511, rfl, ho0, hb⟩; have HO512 := Aside0.mk (Kd.R_lower ho0 (below_size (bq_ HB))); replace BK508 := bk_ BK508 hb; replace HB := bp_ HB hb; (try clear hb); (try clear ho0))))
 go_loopg [7] k (fun kq v7 w' => ∃ (x7_1 : Int), v7 = .int .i64 x7_1 ∧ Aside0 (impl_halved.l0 kq a1 t509 t510 x7_1 = some r) ∧ Aside0 (kq ≤ k) ∧ Aside0 (Kd.R Kd.bool 4 w' w.heap.size (fun _ => True) v511 t510) ∧ Aside0 (w'.heap[gb508]? = some (.cells #[(.slice A0_0 l0_0.length c0_0)] 29 (0, 0))) ∧ Aside0 (Below w.heap.size w w'))
 case atStart => exact ⟨(0), rs_, H', ⟨Nat.le_refl _⟩, ⟨re_ HO512.out⟩, ⟨be_ BK508.out⟩, ⟨bq_ HB⟩⟩
 case round =>
  clear H'
  try clear p2
  try clear c5
  try clear hcz6_0
  try clear hcz8_0
  try clear hfz6_0
  try clear hfz8_0
  obtain ⟨x7_1, rfl, HA, HK1, HO_6, BK508, HB⟩ := hrel
  cases gk with
  | zero => exact absurd HA.out (by simp [impl_halved.l0])
  | succ k1 =>
   have H := HA.out
   clear HA
   simp only [impl_halved.l0] at H
   by_cases c10 : x7_1 ≤ t509
   · rw [if_pos c10] at H
     have c10b0 : decide (x7_1 ≤ t509) = true := decide_eq_true c10
     clear c10
     by_cases c11 : x7_1 = a1
     · rw [if_pos c11] at H
       have c11b0 : (x7_1 == a1) = true := beq_iff_eq.mpr c11
       have c11b1 : (x7_1 != a1) = false := bne_eq_false_iff_eq.mpr c11
       clear c11
       have H' := Aside0.mk H
       clear H
       go_wp2
       repeat (go_quiet (fail); try go_wp2)
       go_roundg k1
       case measure => have := HK1.out; omega
       case rel => exact ⟨(wrap64 (x7_1 + 1)), rs_, H', ⟨by have := HK1.out; omega⟩, ⟨re_ HO_6.out⟩, ⟨be_ BK508.out⟩, ⟨bq_ HB⟩⟩
     · rw [if_neg c11] at H
       have c11b0 : (x7_1 == a1) = false := beq_eq_false_iff_ne.mpr c11
       have c11b1 : (x7_1 != a1) = true := bne_iff_ne.mpr c11
       by_cases c12 : 0 ≤ x7_1
       · rw [if_pos c12] at H
         have c12b0 : decide (0 ≤ x7_1) = true := decide_eq_true c12
         clear c12
         by_cases c13 : x7_1 < (t510.length : Int)
         · rw [if_pos c13] at H
           have c13b0 : decide (x7_1 < (t510.length : Int)) = true := decide_eq_true c13
           clear c13
           obtain ⟨ji14, hji14⟩ : ∃ j_ : Int, (wrap64 (t509 - x7_1)) = j_ := ⟨_, rfl⟩
           replace H : (if 0 ≤ (ji14) then (if (ji14) < (t510.length : Int) then (if ((rdOf false t510 x7_1) == (rdOf false t510 (ji14))) = true then (some false) else (impl_halved.l0 k1 a1 t509 t510 (wrap64 (x7_1 + 1)))) else (none)) else (none)) = some r := by first | (rw [hji14] at H; exact H) | (simp only [hji14] at H ⊢; exact H)
           have hji14w : (IntKind.i64.wrap (t509 - x7_1)) = ji14 := (i64_w _).trans hji14
           by_cases c15 : 0 ≤ (ji14)
           · rw [if_pos c15] at H
             have c15b0 : decide (0 ≤ (ji14)) = true := decide_eq_true c15
             clear c15
             by_cases c16 : (ji14) < (t510.length : Int)
             · rw [if_pos c16] at H
               have c16b0 : decide ((ji14) < (t510.length : Int)) = true := decide_eq_true c16
               clear c16
               by_cases c17 : ((rdOf false t510 x7_1) == (rdOf false t510 (ji14))) = true
               · rw [if_pos c17] at H
                 have c17b0 : ((rdOf false t510 x7_1) == (rdOf false t510 (ji14))) = true := c17
                 (try (have c17b1 : decide ((rdOf false t510 x7_1) = (rdOf false t510 (ji14))) = true := by simpa using c17))
                 (try (have c17b2 : ((rdOf false t510 x7_1) == (rdOf false t510 (ji14))) = true := by simpa using c17))
                 clear c17
                 obtain rfl := Option.some.inj H
                 obtain ⟨Ao18, co18, eo18⟩ := Kd.R_slice HO_6.out
                 subst eo18
                 have p513 : 0 ≤ (x7_1 : Int) := od_
                 have q513 : x7_1 < (t510.length : Int) := od_
                 obtain ⟨ad513, e513, hx513_0⟩ := Kd.at_bool (Kd.R_reads' HO_6.out).2.2 x7_1 p513 q513
                 cases e513
                 replace p513 := eq_true p513
                 replace q513 := eq_true q513
                 have p514 : 0 ≤ ((ji14) : Int) := od_
                 have q514 : (ji14) < (t510.length : Int) := od_
                 obtain ⟨ad514, e514, hx514_0⟩ := Kd.at_bool (Kd.R_reads' HO_6.out).2.2 (ji14) p514 q514
                 obtain rfl : ad513 = ad514 := (by injection e514)
                 replace p514 := eq_true p514
                 replace q514 := eq_true q514
                 go_wp2
                 repeat (go_quiet (fail); try go_wp2)
                 go_ret
                 exact ⟨by first | rfl | (simp [errW_none, errW_some] <;> rfl) | (simp only [← hji14]; first | rfl | (simp [errW_none, errW_some] <;> rfl)) | (simp [*, errW_none, errW_some] <;> rfl), bq_ HB⟩
               · rw [if_neg c17] at H
                 have c17b0 : ((rdOf false t510 x7_1) == (rdOf false t510 (ji14))) = false := by simpa using c17
                 (try (have c17b1 : decide ((rdOf false t510 x7_1) = (rdOf false t510 (ji14))) = false := by simpa using c17))
                 (try (have c17b2 : ((rdOf false t510 x7_1) == (rdOf false t510 (ji14))) = false := by simpa using c17))
                 (try (have c17b3 : ¬ ((rdOf false t510 x7_1) = (rdOf false t510 (ji14))) := by simpa using c17))
                 clear c17
                 have H' := Aside0.mk H
                 clear H
                 obtain ⟨Ao19, co19, eo19⟩ := Kd.R_slice HO_6.out
                 subst eo19
                 have p513 : 0 ≤ (x7_1 : Int) := od_
                 have q513 : x7_1 < (t510.length : Int) := od_
                 obtain ⟨ad513, e513, hx513_0⟩ := Kd.at_bool (Kd.R_reads' HO_6.out).2.2 x7_1 p513 q513
                 cases e513
                 replace p513 := eq_true p513
                 replace q513 := eq_true q513
                 have p514 : 0 ≤ ((ji14) : Int) := od_
                 have q514 : (ji14) < (t510.length : Int) := od_
                 obtain ⟨ad514, e514, hx514_0⟩ := Kd.at_bool (Kd.R_reads' HO_6.out).2.2 (ji14) p514 q514
                 obtain rfl : ad513 = ad514 := (by injection e514)
                 replace p514 := eq_true p514
                 replace q514 := eq_true q514
                 go_wp2
                 repeat (go_quiet (fail); try go_wp2)
                 go_roundg k1
                 case measure => have := HK1.out; omega
                 case rel => exact ⟨(wrap64 (x7_1 + 1)), rs_, H', ⟨by have := HK1.out; omega⟩, ⟨re_ HO_6.out⟩, ⟨be_ BK508.out⟩, ⟨bq_ HB⟩⟩
             · rw [if_neg c16] at H
               cases H
           · rw [if_neg c15] at H
             cases H
         · rw [if_neg c13] at H
           cases H
       · rw [if_neg c12] at H
         cases H
   · rw [if_neg c10] at H
     have c10b0 : decide (x7_1 ≤ t509) = false := decide_eq_false c10
     clear c10
     obtain rfl := Option.some.inj H
     go_wp2
     repeat (go_quiet (fail); try go_wp2)
     go_ret
     exact ⟨rf_, bq_ HB⟩
def impl_IsSymmetric.f (k : Nat) (l0_0 : List Int) : Option (Bool) := (impl_IsSemigroup.f k l0_0).bind fun t516 => (if t516 = true then ((impl_halved.f k l0_0 (-1)).bind fun t517 => (some t517)) else (some false))
theorem impl_IsSymmetric.calls (k : Nat) (A0_0 : Option Addr) (c0_0 : Nat) (l0_0 : List Int) (r : Bool) (w : World) (hr0_0 : Kd.C (Kd.int .i64) w A0_0 l0_0.length l0_0) (hc0_0 : l0_0.length ≤ c0_0) (h : impl_IsSymmetric.f k l0_0 = some r) :
 Calls Tryz.prog 23 #[.agg #[.slice A0_0 l0_0.length c0_0]] w fun e w' => e = .returned (.bool r) ∧ Below w.heap.size w w' := by
 have hu29 := Tryz.underlying29
 have HR0_0 := Aside0.mk hr0_0
 have HC0_0 := Aside0.mk hc0_0
 clear hr0_0 hc0_0
 have HB := Aside0.mk (Below.refl w.heap.size w)
 have H := h
 clear h
 unfold impl_IsSymmetric.f at H
 obtain ⟨t516, A2, H⟩ := ob_ H
 by_cases c3 : t516 = true
 · subst c3
   rw [if_pos rfl] at H
   obtain ⟨t517, A4, H⟩ := ob_ H
   obtain rfl := Option.some.inj H
   go_enter Tryz.func23, Tryz.ntmps23
   go_wp2_with (first | ((with_reducible refine gate_dst (N := 1) rfl ?_); refine bx_ 1 #[.slice A0_0 l0_0.length c0_0] 29 ?_; intro gb515 hg w5 hbox hb; have BK515 := Aside0.mk (hbox); have GW515 := gw_ hg HB; have GE515 := gw_ hg HB; replace HB := bo_ HB hb; clear hb hbox hg; have hcz6_0 := cz_ BK515; have hfz6_0 := blk_frozen BK515.out 0) | ((with_reducible refine gate_callee (f := 22) rfl ?_); refine gL_ (some 4) Tryz.func22 #[.agg #[.slice A0_0 l0_0.length c0_0]] ?_; (with_reducible refine (impl_IsSemigroup.calls k _ _ l0_0 true _ ?side1 ?side2 A2.out).mono ?_); (case side1 => exact ch_ HR0_0 HB); (case side2 => exact HC0_0.out); rintro e w7 ⟨rfl, hb⟩; refine ⟨_, rfl, ?_⟩; replace BK515 := bk_ BK515 hb; replace HB := bp_ HB hb; (try clear hb); have hcz8_0 := cz_ BK515; have hfz8_0 := blk_frozen BK515.out 0) | (go_at_call 57; (with_reducible refine (impl_halved.calls k _ _ l0_0 (-1) t517 _ ?side1 ?side2 A4.out).mono ?_); (case side1 => exact ch_ HR0_0 HB); (case side2 => exact HC0_0.out); rintro e w9 ⟨rfl, hb⟩; replace BK515 := bk_ BK515 hb; replace HB := bp_ HB hb; (try clear hb)))
   go_ret
   exact ⟨rf_, bq_ HB⟩
 · replace c3 := Bool.eq_false_iff.mpr c3
   subst c3
   rw [if_neg (show ¬ (false = true) by decide)] at H
   obtain rfl := Option.some.inj H
   go_enter Tryz.func23, Tryz.ntmps23
   go_wp2_with (first | ((with_reducible refine gate_dst (N := 1) rfl ?_); refine bx_ 1 #[.slice A0_0 l0_0.length c0_0] 29 ?_; intro gb515 hg w10 hbox hb; have BK515 := Aside0.mk (hbox); have GW515 := gw_ hg HB; have GE515 := gw_ hg HB; replace HB := bo_ HB hb; clear hb hbox hg; have hcz11_0 := cz_ BK515; have hfz11_0 := blk_frozen BK515.out 0) | ((with_reducible refine gate_callee (f := 22) rfl ?_); refine gL_ (some 4) Tryz.func22 #[.agg #[.slice A0_0 l0_0.length c0_0]] ?_; (with_reducible refine (impl_IsSemigroup.calls k _ _ l0_0 false _ ?side1 ?side2 A2.out).mono ?_); (case side1 => exact ch_ HR0_0 HB); (case side2 => exact HC0_0.out); rintro e w12 ⟨rfl, hb⟩; refine ⟨_, rfl, ?_⟩; replace BK515 := bk_ BK515 hb; replace HB := bp_ HB hb; (try clear hb)))
   go_ret
   exact ⟨rf_, bq_ HB⟩
def impl_IsPseudoSymmetric.f (k : Nat) (l0_0 : List Int) : Option (Bool) := (impl_FrobeniusOf.f k l0_0).bind fun t519 => ((impl_IsSemigroup.f k l0_0).bind fun t520 => (if t520 = true then (if t519 ≥ 0 then (if (Int.tmod t519 2) = 0 then ((impl_halved.f k l0_0 (wrap64 (Int.tdiv t519 2))).bind fun t521 => (some t521)) else (some false)) else (some false)) else (some false)))
theorem impl_IsPseudoSymmetric.calls (k : Nat) (A0_0 : Option Addr) (c0_0 : Nat) (l0_0 : List Int) (r : Bool) (w : World) (hr0_0 : Kd.C (Kd.int .i64) w A0_0 l0_0.length l0_0) (hc0_0 : l0_0.length ≤ c0_0) (h : impl_IsPseudoSymmetric.f k l0_0 = some r) :
 Calls Tryz.prog 24 #[.agg #[.slice A0_0 l0_0.length c0_0]] w fun e w' => e = .returned (.bool r) ∧ Below w.heap.size w w' := by
 have hu29 := Tryz.underlying29
 have HR0_0 := Aside0.mk hr0_0
 have HC0_0 := Aside0.mk hc0_0
 clear hr0_0 hc0_0
 have HB := Aside0.mk (Below.refl w.heap.size w)
 have H := h
 clear h
 unfold impl_IsPseudoSymmetric.f at H
 obtain ⟨t519, A2, H⟩ := ob_ H
 obtain ⟨t520, A3, H⟩ := ob_ H
 by_cases c4 : t520 = true
 · subst c4
   rw [if_pos rfl] at H
   by_cases c5 : t519 ≥ 0
   · rw [if_pos c5] at H
     have c5b0 : decide (0 ≤ t519) = true := decide_eq_true c5
     clear c5
     by_cases c6 : (Int.tmod t519 2) = 0
     · rw [if_pos c6] at H
       have c6b0 : ((Int.tmod t519 2) == 0) = true := beq_iff_eq.mpr c6
       have c6b1 : ((Int.tmod t519 2) != 0) = false := bne_eq_false_iff_eq.mpr c6
       clear c6
       obtain ⟨t521, A7, H⟩ := ob_ H
       obtain rfl := Option.some.inj H
       go_enter Tryz.func24, Tryz.ntmps24
       go_wp2_with (first | ((with_reducible refine gate_dst (N := 1) rfl ?_); refine bx_ 1 #[.slice A0_0 l0_0.length c0_0] 29 ?_; intro gb518 hg w8 hbox hb; have BK518 := Aside0.mk (hbox); have GW518 := gw_ hg HB; have GE518 := gw_ hg HB; replace HB := bo_ HB hb; clear hb hbox hg; have hcz9_0 := cz_ BK518; have hfz9_0 := blk_frozen BK518.out 0) | ((with_reducible refine gate_callee (f := 27) rfl ?_); refine gL_ (some 5) Tryz.func27 #[.agg #[.slice A0_0 l0_0.length c0_0]] ?_; (with_reducible refine (impl_FrobeniusOf.calls k _ _ l0_0 t519 _ ?side1 ?side2 A2.out).mono ?_); (case side1 => exact ch_ HR0_0 HB); (case side2 => exact HC0_0.out); rintro e w10 ⟨rfl, hb⟩; refine ⟨_, rfl, ?_⟩; replace BK518 := bk_ BK518 hb; replace HB := bp_ HB hb; (try clear hb); have hcz11_0 := cz_ BK518; have hfz11_0 := blk_frozen BK518.out 0) | ((with_reducible refine gate_callee (f := 22) rfl ?_); refine gL_ (some 7) Tryz.func22 #[.agg #[.slice A0_0 l0_0.length c0_0]] ?_; (with_reducible refine (impl_IsSemigroup.calls k _ _ l0_0 true _ ?side1 ?side2 A3.out).mono ?_); (case side1 => exact ch_ HR0_0 HB); (case side2 => exact HC0_0.out); rintro e w12 ⟨rfl, hb⟩; refine ⟨_, rfl, ?_⟩; replace BK518 := bk_ BK518 hb; replace HB := bp_ HB hb; (try clear hb); have hcz13_0 := cz_ BK518; have hfz13_0 := blk_frozen BK518.out 0) | (go_at_call 57; (with_reducible refine (impl_halved.calls k _ _ l0_0 (wrap64 (Int.tdiv t519 2)) t521 _ ?side1 ?side2 A7.out).mono ?_); (case side1 => exact ch_ HR0_0 HB); (case side2 => exact HC0_0.out); rintro e w14 ⟨rfl, hb⟩; replace BK518 := bk_ BK518 hb; replace HB := bp_ HB hb; (try clear hb)))
       go_ret
       exact ⟨rf_, bq_ HB⟩
     · rw [if_neg c6] at H
       have c6b0 : ((Int.tmod t519 2) == 0) = false := beq_eq_false_iff_ne.mpr c6
       have c6b1 : ((Int.tmod t519 2) != 0) = true := bne_iff_ne.mpr c6
       obtain rfl := Option.some.inj H
       go_enter Tryz.func24, Tryz.ntmps24
       go_wp2_with (first | ((with_reducible refine gate_dst (N := 1) rfl ?_); refine bx_ 1 #[.slice A0_0 l0_0.length c0_0] 29 ?_; intro gb518 hg w15 hbox hb; have BK518 := Aside0.mk (hbox); have GW518 := gw_ hg HB; have GE518 := gw_ hg HB; replace HB := bo_ HB hb; clear hb hbox hg; have hcz16_0 := cz_ BK518; have hfz16_0 := blk_frozen BK518.out 0) | ((with_reducible refine gate_callee (f := 27) rfl ?_); refine gL_ (some 5) Tryz.func27 #[.agg #[.slice A0_0 l0_0.length c0_0]] ?_; (with_reducible refine (impl_FrobeniusOf.calls k _ _ l0_0 t519 _ ?side1 ?side2 A2.out).mono ?_); (case side1 => exact ch_ HR0_0 HB); (case side2 => exact HC0_0.out); rintro e w17 ⟨rfl, hb⟩; refine ⟨_, rfl, ?_⟩; replace BK518 := bk_ BK518 hb; replace HB := bp_ HB hb; (try clear hb); have hcz18_0 := cz_ BK518; have hfz18_0 := blk_frozen BK518.out 0) | ((with_reducible refine gate_callee (f := 22) rfl ?_); refine gL_ (some 7) Tryz.func22 #[.agg #[.slice A0_0 l0_0.length c0_0]] ?_; (with_reducible refine (impl_IsSemigroup.calls k _ _ l0_0 true _ ?side1 ?side2 A3.out).mono ?_); (case side1 => exact ch_ HR0_0 HB); (case side2 => exact HC0_0.out); rintro e w19 ⟨rfl, hb⟩; refine ⟨_, rfl, ?_⟩; replace BK518 := bk_ BK518 hb; replace HB := bp_ HB hb; (try clear hb)))
       go_ret
       exact ⟨rf_, bq_ HB⟩
   · rw [if_neg c5] at H
     have c5b0 : decide (0 ≤ t519) = false := decide_eq_false c5
     clear c5
     obtain rfl := Option.some.inj H
     go_enter Tryz.func24, Tryz.ntmps24
     go_wp2_with (first | ((with_reducible refine gate_dst (N := 1) rfl ?_); refine bx_ 1 #[.slice A0_0 l0_0.length c0_0] 29 ?_; intro gb518 hg w20 hbox hb; have BK518 := Aside0.mk (hbox); have GW518 := gw_ hg HB; have GE518 := gw_ hg HB; replace HB := bo_ HB hb; clear hb hbox hg; have hcz21_0 := cz_ BK518; have hfz21_0 := blk_frozen BK518.out 0) | ((with_reducible refine gate_callee (f := 27) rfl ?_); refine gL_ (some 5) Tryz.func27 #[.agg #[.slice A0_0 l0_0.length c0_0]] ?_; (with_reducible refine (impl_FrobeniusOf.calls k _ _ l0_0 t519 _ ?side1 ?side2 A2.out).mono ?_); (case side1 => exact ch_ HR0_0 HB); (case side2 => exact HC0_0.out); rintro e w22 ⟨rfl, hb⟩; refine ⟨_, rfl, ?_⟩; replace BK518 := bk_ BK518 hb; replace HB := bp_ HB hb; (try clear hb); have hcz23_0 := cz_ BK518; have hfz23_0 := blk_frozen BK518.out 0) | ((with_reducible refine gate_callee (f := 22) rfl ?_); refine gL_ (some 7) Tryz.func22 #[.agg #[.slice A0_0 l0_0.length c0_0]] ?_; (with_reducible refine (impl_IsSemigroup.calls k _ _ l0_0 true _ ?side1 ?side2 A3.out).mono ?_); (case side1 => exact ch_ HR0_0 HB); (case side2 => exact HC0_0.out); rintro e w24 ⟨rfl, hb⟩; refine ⟨_, rfl, ?_⟩; replace BK518 := bk_ BK518 hb; replace HB := bp_ HB hb; (try clear hb)))
     go_ret
     exact ⟨rf_, bq_ HB⟩
 · replace c4 := Bool.eq_false_iff.mpr c4
   subst c4
   rw [if_neg (show ¬ (false = true) by decide)] at H
   obtain rfl := Option.some.inj H
   go_enter Tryz.func24, Tryz.ntmps24
   go_wp2_with (first | ((with_reducible refine gate_dst (N := 1) rfl ?_); refine bx_ 1 #[.slice A0_0 l0_0.length c0_0] 29 ?_; intro gb518 hg w25 hbox hb; have BK518 := Aside0.mk (hbox); have GW518 := gw_ hg HB; have GE518 := gw_ hg HB; replace HB := bo_ HB hb; clear hb hbox hg; have hcz26_0 := cz_ BK518; have hfz26_0 := blk_frozen BK518.out 0) | ((with_reducible refine gate_callee (f := 27) rfl ?_); refine gL_ (some 5) Tryz.func27 #[.agg #[.slice A0_0 l0_0.length c0_0]] ?_; (with_reducible refine (impl_FrobeniusOf.calls k _ _ l0_0 t519 _ ?side1 ?side2 A2.out).mono ?_); (case side1 => exact ch_ HR0_0 HB); (case side2 => exact HC0_0.out); rintro e w27 ⟨rfl, hb⟩; refine ⟨_, rfl, ?_⟩; replace BK518 := bk_ BK518 hb; replace HB := bp_ HB hb; (try clear hb); have hcz28_0 := cz_ BK518; have hfz28_0 := blk_frozen BK518.out 0) | ((with_reducible refine gate_callee (f := 22) rfl ?_); refine gL_ (some 7) Tryz.func22 #[.agg #[.slice A0_0 l0_0.length c0_0]] ?_; (with_reducible refine (impl_IsSemigroup.calls k _ _ l0_0 false _ ?side1 ?side2 A3.out).mono ?_); (case side1 => exact ch_ HR0_0 HB); (case side2 => exact HC0_0.out); rintro e w29 ⟨rfl, hb⟩; refine ⟨_, rfl, ?_⟩; replace BK518 := bk_ BK518 hb; replace HB := bp_ HB hb; (try clear hb)))
   go_ret
   exact ⟨rf_, bq_ HB⟩
theorem spot_none_ {w : World} {a : Addr} {v : Value} (h : w.cell? a = some v) : a.spot = none := by
 unfold World.cell? at h
 cases hs : a.spot with
 | none => rfl
 | some s => split at h <;> simp [hs] at h
def impl_Join.f (k : Nat) (l : List ByteArray) (s : ByteArray) : Option ByteArray := if l.length ≤ 140737488355328 ∧ (Lib.join (l.map (·.data.toList)) s.data.toList).length ≤ 140737488355328 then some ⟨(Lib.join (l.map (·.data.toList)) s.data.toList).toArray⟩ else none
theorem impl_Join.calls (k : Nat) (A0 : Option Addr) (c0 : Nat) (l0 : List ByteArray) (a1 : ByteArray) (r : ByteArray) (w : World) (hr0 : Kd.C Kd.string w A0 l0.length l0) (hc0 : l0.length ≤ c0) (h : impl_Join.f k l0 a1 = some r) :
 Calls Tryz.prog 25 #[.slice A0 l0.length c0, .string a1] w fun e w' => e = .returned (.string r) ∧ Below w.heap.size w w' := by
 unfold impl_Join.f at h
 by_cases c : l0.length ≤ 140737488355328 ∧ (Lib.join (l0.map (·.data.toList)) a1.data.toList).length ≤ 140737488355328
 · rw [if_pos c] at h
   obtain rfl := Option.some.inj h
   clear h
   have key : Calls Tryz.prog 58 #[.slice A0 l0.length c0, .string a1] w fun e w' => e = .returned (.string ⟨(Lib.join (l0.map (·.data.toList)) a1.data.toList).toArray⟩) ∧ Below w.heap.size w w' := by
    rcases Nat.eq_zero_or_pos l0.length with hz | hp
    · obtain rfl := List.eq_nil_of_length_eq_zero hz
      refine (Any.strings_Join_none Tryz.lays156 Tryz.extra156 A0 c0 a1 w).mono ?_
      rintro e w' ⟨rfl, rfl⟩
      exact ⟨rfl, Below.refl _ _⟩
    · obtain ⟨ad, hA, hc1⟩ := Kd.at_string hr0 0 (by omega) (by omega)
      have hsp : ad.spot = none := by
       have := spot_none_ hc1
       simpa [Addr.add] using this
      obtain ⟨bk, off, sp⟩ := ad
      have hsp' : sp = none := hsp
      subst hsp'
      subst hA
      refine Any.strings_Join Tryz.lays156 Tryz.extra156 bk off c0 l0 a1 w ?_ (World.block_lt_of_cell? w _ hc1) c.1 hc0 c.2
      intro j y hj
      have hjl : j < l0.length := (List.getElem?_eq_some_iff.1 hj).1
      obtain ⟨ad', hA', hc2⟩ := Kd.at_string hr0 j (by omega) (by omega)
      obtain rfl := Option.some.inj hA'
      have hy : rdOf ByteArray.empty l0 (j : Int) = y := by simp [rdOf, List.getD_eq_getElem?_getD, hj]
      rw [hy, Int.toNat_natCast] at hc2
      have ha : (⟨bk, off, none⟩ : Addr).add j = ⟨bk, off + j, none⟩ := by
       unfold Addr.add
       split
       · rename_i h0; subst h0; rfl
       · rfl
      rw [ha] at hc2
      exact hc2
   have hK := Aside0.mk key
   clear key
   go_enter Tryz.func25, Tryz.ntmps25
   go_wp2_with (go_at_call 58; refine hK.out.mono ?_; rintro e w1 ⟨rfl, hb⟩; have HB1 := Aside0.mk hb; clear hb)
   go_ret
   exact ⟨rfl, HB1.out⟩
 · rw [if_neg c] at h; cases h
def digs_ : Nat → Nat → List UInt8
 | 0, u => [UInt8.ofNat (48 + u)]
 | f + 1, u => if u < 10 then [UInt8.ofNat (48 + u)] else digs_ f (u / 10) ++ [UInt8.ofNat (48 + u % 10)]
theorem digs_eq : ∀ f u, u < 10 ^ (f + 1) → Lib.decDigits u = digs_ f u := by
 intro f
 induction f with
 | zero =>
  intro u h
  rw [Lib.decDigits, dif_pos (by omega)]
  rfl
 | succ f ih =>
  intro u h
  rw [Lib.decDigits]
  unfold digs_
  split
  · rfl
  · rw [ih (u / 10) (by rw [Nat.pow_succ] at h; omega)]
def impl_FormatInt.f (k : Nat) (n : Int) : Option ByteArray := if 0 ≤ n ∧ n < 100 then some ⟨(digs_ 1 n.toNat).toArray⟩ else none
theorem impl_FormatInt.calls (k : Nat) (a0 : Int) (r : ByteArray) (w : World) (h : impl_FormatInt.f k a0 = some r) :
 Calls Tryz.prog 26 #[.int .i64 a0] w fun e w' => e = .returned (.string r) ∧ Below w.heap.size w w' := by
 unfold impl_FormatInt.f at h
 by_cases c : 0 ≤ a0 ∧ a0 < 100
 · rw [if_pos c] at h
   obtain rfl := Option.some.inj h
   clear h
   obtain ⟨i, rfl⟩ : ∃ i : Nat, a0 = i := ⟨a0.toNat, by omega⟩
   have hi : i < 100 := by omega
   rw [Int.toNat_natCast, ← digs_eq 1 i (by omega)]
   go_enter Tryz.func26, Tryz.ntmps26
   go_wp2_with (go_at_call 59; refine (Any.strconv_Itoa_small (ρ := Tryz.lays171_ren) { Tryz.lays171 with } i hi _).mono ?_; rintro e w' ⟨rfl, rfl⟩)
   go_ret
   exact ⟨rfl, Below.refl _ _⟩
 · rw [if_neg c] at h; cases h
theorem impl_FormatInt.mono : ∀ a0 k, LeO (impl_FormatInt.f k a0) (impl_FormatInt.f (k + 1) a0) := fun _ _ => LeO.refl _
theorem tab_below_ {P : Program} {w w' : World} {n : String} {k : IntKind} {zs : List Int} (h : Lib.TabIs P w n k zs) (hb : Below w.heap.size w w') : Lib.TabIs P w' n k zs := by
 unfold Lib.TabIs World.var? at h ⊢
 cases hg : P.globalNamed n with
 | none => rw [hg] at h; simp at h
 | some g =>
  rw [hg] at h
  simp only [Option.bind_some] at h ⊢
  have hlt : g < w.heap.size := by
   rcases Nat.lt_or_ge g w.heap.size with h' | h'
   · exact h'
   · rw [Array.getElem?_eq_none h'] at h; cases h
  rw [hb.block g hlt]
  exact h
theorem below_grow_ (w : World) (k : Nat) (os : Array Obj) : Below w.heap.size w (Go.Sort.grow (w.drewN k) os) :=
 ⟨rfl, rfl, rfl, by show w.heap.size ≤ (w.heap ++ os).size; rw [Array.size_append]; omega, fun j hj => by show (w.heap ++ os)[j]? = _; rw [Array.getElem?_append_left hj]⟩
def Tab_ (w : World) : Prop := Lib.TabIs Tryz.prog w "internal/strconv.uint64pow10" .u64 Lib.pow10Tab
theorem Tab_.below {w w' : World} (h : Tab_ w) (hb : Below w.heap.size w w') : Tab_ w' := tab_below_ h hb
def impl_FormatI.f (k : Nat) (n : Int) : Option ByteArray := if -1000000000000000000 < n ∧ n < 1000000000000000000 then some ⟨(if n < 0 then 45 :: digs_ 17 n.natAbs else digs_ 17 n.toNat).toArray⟩ else none
theorem impl_FormatI.calls (k : Nat) (a0 : Int) (r : ByteArray) (w : World) (hT : Tab_ w) (h : impl_FormatI.f k a0 = some r) :
 Calls Tryz.prog 26 #[.int .i64 a0] w fun e w' => e = .returned (.string r) ∧ Below w.heap.size w w' := by
 unfold impl_FormatI.f at h
 by_cases c : -1000000000000000000 < a0 ∧ a0 < 1000000000000000000
 · rw [if_pos c] at h
   obtain rfl := Option.some.inj h
   clear h
   have hi : Lib.itoa a0 = (if a0 < 0 then 45 :: digs_ 17 a0.natAbs else digs_ 17 a0.toNat) := by
    unfold Lib.itoa
    rw [digs_eq 17 a0.natAbs (by omega), digs_eq 17 a0.toNat (by omega)]
   rw [← hi]
   obtain ⟨y, hy⟩ : ∃ y, y = Lib.itoa a0 := ⟨_, rfl⟩
   rw [← hy]
   clear hi
   have hT' := Aside0.mk hT
   clear hT
   go_enter Tryz.func26, Tryz.ntmps26
   go_wp2_with (go_at_call 59; refine (Any.strconv_Itoa Tryz.lays171 a0 (by omega) (by omega) _ hT'.out).mono ?_; rintro e w' ⟨he, kq, os, rfl⟩; rw [← hy] at he; subst he)
   go_ret
   exact ⟨by subst hy; rfl, below_grow_ _ _ _⟩
 · rw [if_neg c] at h; cases h
def impl_GenusOf.f (k : Nat) (l0_0 : List Int) : Option (Int) := (impl_IsSemigroup.f k l0_0).bind fun t563 => (if t563 = true then ((impl_Gaps.f k l0_0).bind fun t564 => (some (t564.length : Int))) else (some (-1)))
theorem impl_GenusOf.calls (k : Nat) (A0_0 : Option Addr) (c0_0 : Nat) (l0_0 : List Int) (r : Int) (w : World) (hr0_0 : Kd.C (Kd.int .i64) w A0_0 l0_0.length l0_0) (hc0_0 : l0_0.length ≤ c0_0) (h : impl_GenusOf.f k l0_0 = some r) :
 Calls Tryz.prog 28 #[.agg #[.slice A0_0 l0_0.length c0_0]] w fun e w' => e = .returned (.int .i64 r) ∧ Below w.heap.size w w' := by
 have hu29 := Tryz.underlying29
 have HR0_0 := Aside0.mk hr0_0
 have HC0_0 := Aside0.mk hc0_0
 clear hr0_0 hc0_0
 have HB := Aside0.mk (Below.refl w.heap.size w)
 have H := h
 clear h
 unfold impl_GenusOf.f at H
 obtain ⟨t563, A2, H⟩ := ob_ H
 by_cases c3 : t563 = true
 · subst c3
   rw [if_pos rfl] at H
   obtain ⟨t564, A4, H⟩ := ob_ H
   obtain rfl := Option.some.inj H
   go_enter Tryz.func28, Tryz.ntmps28
   go_wp2_with (first | ((with_reducible refine gate_dst (N := 1) rfl ?_); refine bx_ 1 #[.slice A0_0 l0_0.length c0_0] 29 ?_; intro gb562 hg w5 hbox hb; have BK562 := Aside0.mk (hbox); have GW562 := gw_ hg HB; have GE562 := gw_ hg HB; replace HB := bo_ HB hb; clear hb hbox hg; have hcz6_0 := cz_ BK562; have hfz6_0 := blk_frozen BK562.out 0) | ((with_reducible refine gate_callee (f := 22) rfl ?_); refine gL_ (some 4) Tryz.func22 #[.agg #[.slice A0_0 l0_0.length c0_0]] ?_; (with_reducible refine (impl_IsSemigroup.calls k _ _ l0_0 true _ ?side1 ?side2 A2.out).mono ?_); (case side1 => exact ch_ HR0_0 HB); (case side2 => exact HC0_0.out); rintro e w7 ⟨rfl, hb⟩; refine ⟨_, rfl, ?_⟩; replace BK562 := bk_ BK562 hb; replace HB := bp_ HB hb; (try clear hb); have hcz8_0 := cz_ BK562; have hfz8_0 := blk_frozen BK562.out 0) | ((with_reducible refine gate_callee (f := 60) rfl ?_); refine gL_ (some 7) Tryz.func60 #[.agg #[.slice A0_0 l0_0.length c0_0]] ?_; (with_reducible refine (impl_Gaps.calls k _ _ l0_0 t564 _ ?side1 ?side2 A4.out).mono ?_); (case side1 => exact ch_ HR0_0 HB); (case side2 => exact HC0_0.out); rintro e w9 ⟨v565, rfl, ho0, hb⟩; refine ⟨_, rfl, ?_⟩; have HO566 := Aside0.mk (Kd.R_lower ho0 (below_size (bq_ HB))); replace BK562 := bk_ BK562 hb; replace HB := bp_ HB hb; (try clear hb); (try clear ho0); obtain ⟨Ao10, co10, eo10⟩ := Kd.R_slice HO566.out; subst eo10))
   go_ret
   exact ⟨rf_, bq_ HB⟩
 · replace c3 := Bool.eq_false_iff.mpr c3
   subst c3
   rw [if_neg (show ¬ (false = true) by decide)] at H
   obtain rfl := Option.some.inj H
   go_enter Tryz.func28, Tryz.ntmps28
   go_wp2_with (first | ((with_reducible refine gate_dst (N := 1) rfl ?_); refine bx_ 1 #[.slice A0_0 l0_0.length c0_0] 29 ?_; intro gb562 hg w11 hbox hb; have BK562 := Aside0.mk (hbox); have GW562 := gw_ hg HB; have GE562 := gw_ hg HB; replace HB := bo_ HB hb; clear hb hbox hg; have hcz12_0 := cz_ BK562; have hfz12_0 := blk_frozen BK562.out 0) | ((with_reducible refine gate_callee (f := 22) rfl ?_); refine gL_ (some 4) Tryz.func22 #[.agg #[.slice A0_0 l0_0.length c0_0]] ?_; (with_reducible refine (impl_IsSemigroup.calls k _ _ l0_0 false _ ?side1 ?side2 A2.out).mono ?_); (case side1 => exact ch_ HR0_0 HB); (case side2 => exact HC0_0.out); rintro e w13 ⟨rfl, hb⟩; refine ⟨_, rfl, ?_⟩; replace BK562 := bk_ BK562 hb; replace HB := bp_ HB hb; (try clear hb)))
   go_ret
   exact ⟨rf_, bq_ HB⟩
mutual
def impl_PseudoFrobenius.l0 : Nat → List Int → List Bool → List Int → Int → Int → List Int → Option (List Int)
 | 0, _, _, _, _, _, _ => none
 | k + 1, x3, x4, x17, x18, x19, x568000 => if x19 < x18 then (if 0 ≤ x19 then (if x19 < (x17.length : Int) then (impl_PseudoFrobenius.l1 k x3 x4 (rd x17 x19) true x17 x18 x19 x568000 (x568000.length : Int) 0 x568000) else (none)) else (none)) else (some x3)
def impl_PseudoFrobenius.l1 : Nat → List Int → List Bool → Int → Bool → List Int → Int → Int → List Int → Int → Int → List Int → Option (List Int)
 | 0, _, _, _, _, _, _, _, _, _, _, _ => none
 | k + 1, x3, x4, x6, x7, x17, x18, x19, x24, x25, x26, x568000 => if x26 < x25 then (if 0 ≤ x26 then (if x26 < (x24.length : Int) then (if x7 = true then (if 0 ≤ (wrap64 (x6 + (rd x24 x26))) then (if (wrap64 (x6 + (rd x24 x26))) < (x4.length : Int) then (impl_PseudoFrobenius.l1 k x3 x4 x6 (rdOf false x4 (wrap64 (x6 + (rd x24 x26)))) x17 x18 x19 x24 x25 (wrap64 (x26 + 1)) x568000) else (none)) else (none)) else (impl_PseudoFrobenius.l1 k x3 x4 x6 false x17 x18 x19 x24 x25 (wrap64 (x26 + 1)) x568000)) else (none)) else (none)) else (if x7 = true then (if x3.length < 17592186044416 then (impl_PseudoFrobenius.l0 k (x3 ++ [x6]) x4 x17 x18 (wrap64 (x19 + 1)) x568000) else (none)) else (impl_PseudoFrobenius.l0 k x3 x4 x17 x18 (wrap64 (x19 + 1)) x568000))
end
def impl_PseudoFrobenius.f (k : Nat) (l0_0 : List Int) : Option (List Int) := (impl_IsSemigroup.f k l0_0).bind fun t568 => (if t568 = true then ((impl_table.f k l0_0 260).bind fun t572 => ((impl_Gaps.f k l0_0).bind fun t575 => (impl_PseudoFrobenius.l0 k (([] : List Int)) t572 t575 (t575.length : Int) 0 l0_0))) else (some ([] : List Int)))
theorem impl_PseudoFrobenius.calls (k : Nat) (A0_0 : Option Addr) (c0_0 : Nat) (l0_0 : List Int) (r : List Int) (w : World) (hr0_0 : Kd.C (Kd.int .i64) w A0_0 l0_0.length l0_0) (hc0_0 : l0_0.length ≤ c0_0) (h : impl_PseudoFrobenius.f k l0_0 = some r) :
 Calls Tryz.prog 61 #[.agg #[.slice A0_0 l0_0.length c0_0]] w fun e w' => ∃ v0_ : Value, e = .returned (v0_) ∧ Kd.R (Kd.int .i64) 3 w' w.heap.size (fun _ => True) v0_ r ∧ Below w.heap.size w w' := by
 have hu29 := Tryz.underlying29
 have HR0_0 := Aside0.mk hr0_0
 have HC0_0 := Aside0.mk hc0_0
 clear hr0_0 hc0_0
 have HB := Aside0.mk (Below.refl w.heap.size w)
 have H := h
 clear h
 unfold impl_PseudoFrobenius.f at H
 obtain ⟨t568, A2, H⟩ := ob_ H
 by_cases c3 : t568 = true
 · subst c3
   rw [if_pos rfl] at H
   obtain ⟨y569, hy569⟩ : ∃ y_ : List Int, y_ = (([] : List Int)) := ⟨_, rfl⟩
   replace H : ((impl_table.f k l0_0 260).bind fun t572 => ((impl_Gaps.f k l0_0).bind fun t575 => (impl_PseudoFrobenius.l0 k y569 t572 t575 (t575.length : Int) 0 l0_0))) = some r := by subst hy569; exact H
   have Ny569 := Aside0.mk hy569
   clear hy569
   obtain ⟨t572, A4, H⟩ := ob_ H
   obtain ⟨t575, A5, H⟩ := ob_ H
   have H' := Aside0.mk H
   clear H
   go_enter Tryz.func61, Tryz.ntmps61
   go_wp2_with (first | ((with_reducible refine gate_dst (N := 1) rfl ?_); refine bx_ 1 #[.slice A0_0 l0_0.length c0_0] 29 ?_; intro gb567 hg w6 hbox hb; have BK567 := Aside0.mk (hbox); have GW567 := gw_ hg HB; have GE567 := gw_ hg HB; replace HB := bo_ HB hb; clear hb hbox hg; have hcz7_0 := cz_ BK567; have hfz7_0 := blk_frozen BK567.out 0) | ((with_reducible refine gate_callee (f := 22) rfl ?_); refine gL_ (some 11) Tryz.func22 #[.agg #[.slice A0_0 l0_0.length c0_0]] ?_; (with_reducible refine (impl_IsSemigroup.calls k _ _ l0_0 true _ ?side1 ?side2 A2.out).mono ?_); (case side1 => exact ch_ HR0_0 HB); (case side2 => exact HC0_0.out); rintro e w8 ⟨rfl, hb⟩; refine ⟨_, rfl, ?_⟩; replace BK567 := bk_ BK567 hb; replace HB := bp_ HB hb; (try clear hb)) | ((with_reducible refine gate_dst (N := 13) rfl ?_); refine Kd.R_lit (Kd.int .i64) _ 3 ?hg (N := 13) ?hd (xs := ([] : List Int)) (inner := []) (ok := fun _ => True) (okp := fun _ => True) ?hr ?hp (fun _ hk => hk) trivial (Below.refl _ _) (Nat.le_refl _) (by simp) ?_; (case hd => rfl); (case hg => rfl); (case hr => first | (go_simp; done) | (go_simp; rfl)); (case hp => exact (Reps.none _ _)); intro v570 w9 ho10 hb hg_ hnew_; clear hg_ hnew_; (first | rw [← Ny569.out] at ho10 | (simp only [Int.reduceToNat] at ho10; rw [← Ny569.out] at ho10)); have HO571 := Aside0.mk (Kd.R_lower ho10 (below_size (bq_ HB))); replace BK567 := bk_ BK567 hb; replace HB := bp_ HB hb; clear hb ho10; have hcz11_0 := cz_ BK567; have hfz11_0 := blk_frozen BK567.out 0) | ((with_reducible refine gate_callee (f := 63) rfl ?_); refine gL_ (some 15) Tryz.func63 #[.agg #[.slice A0_0 l0_0.length c0_0], .int .i64 260] ?_; (with_reducible refine (impl_table.calls k _ _ l0_0 260 t572 _ ?side1 ?side2 A4.out).mono ?_); (case side1 => exact ch_ HR0_0 HB); (case side2 => exact HC0_0.out); rintro e w12 ⟨v573, rfl, ho0, hb⟩; refine ⟨_, rfl, ?_⟩; replace HO571 := Aside0.mk (Kd.R_below (re_ HO571.out) hb); have HO574 := Aside0.mk (Kd.R_lower ho0 (below_size (bq_ HB))); replace BK567 := bk_ BK567 hb; replace HB := bp_ HB hb; (try clear hb); (try clear ho0); have hcz13_0 := cz_ BK567; have hfz13_0 := blk_frozen BK567.out 0) | ((with_reducible refine gate_callee (f := 60) rfl ?_); refine gL_ (some 17) Tryz.func60 #[.agg #[.slice A0_0 l0_0.length c0_0]] ?_; (with_reducible refine (impl_Gaps.calls k _ _ l0_0 t575 _ ?side1 ?side2 A5.out).mono ?_); (case side1 => exact ch_ HR0_0 HB); (case side2 => exact HC0_0.out); rintro e w14 ⟨v576, rfl, ho0, hb⟩; refine ⟨_, rfl, ?_⟩; replace HO574 := Aside0.mk (Kd.R_below (re_ HO574.out) hb); have HO577 := Aside0.mk (Kd.R_lower (Kd.R_new' ho0 (Kd.R_lt (re_ HO571.out))) (below_size (bq_ HB))); replace HO571 := Aside0.mk (Kd.R_elder' (re_ HO571.out) (Kd.R_base ho0) hb); replace BK567 := bk_ BK567 hb; replace HB := bp_ HB hb; (try clear hb); (try clear ho0); obtain ⟨Ao15, co15, eo15⟩ := Kd.R_slice HO577.out; subst eo15))
   go_loopg [3, 19] k (fun kq v3 v19 w' => ∃ (x3_1 : List Int) (x19_1 : Int), v19 = .int .i64 x19_1 ∧ Aside0 (impl_PseudoFrobenius.l0 kq x3_1 t572 t575 (t575.length : Int) x19_1 l0_0 = some r) ∧ Aside0 (kq ≤ k) ∧ Aside0 (Kd.R (Kd.int .i64) 3 w' w.heap.size (fun k_ => some k_ ≠ ((.slice Ao15 t575.length co15) : Value).ownBlock) v3 x3_1) ∧ Aside0 (Kd.R Kd.bool 4 w' w.heap.size (fun _ => True) v573 t572) ∧ Aside0 (Kd.R (Kd.int .i64) 3 w' w.heap.size (fun k_ => some k_ ≠ (v3 : Value).ownBlock) (.slice Ao15 t575.length co15) t575) ∧ Aside0 (w'.heap[gb567]? = some (.cells #[(.slice A0_0 l0_0.length c0_0)] 29 (0, 0))) ∧ Aside0 (Below w.heap.size w w'))
   case atStart => exact ⟨(y569), (0), rs_, H', ⟨Nat.le_refl _⟩, ⟨by (with_reducible repeat (first | apply Kd.R_alloc | apply Kd.R_drewN | apply Kd.R_drew)); exact Kd.R_mono HO571.out (fun _ hk => hk.2)⟩, ⟨re_ HO574.out⟩, ⟨by (with_reducible repeat (first | apply Kd.R_alloc | apply Kd.R_drewN | apply Kd.R_drew)); exact Kd.R_mono HO577.out (fun _ hk => hk.2)⟩, ⟨be_ BK567.out⟩, ⟨bq_ HB⟩⟩
   case round =>
    clear H'
    try clear c2
    try clear p2
    try clear c3
    try clear c6
    try clear hcz11_0
    try clear hcz13_0
    try clear hcz7_0
    try clear hfz11_0
    try clear hfz13_0
    try clear hfz7_0
    obtain ⟨x3_1, x19_1, rfl, HA, HK1, HO_3, HO_4, HO_17, BK567, HB⟩ := hrel
    cases gk with
    | zero => exact absurd HA.out (by simp [impl_PseudoFrobenius.l0])
    | succ k1 =>
     have H := HA.out
     clear HA
     simp only [impl_PseudoFrobenius.l0] at H
     by_cases c16 : x19_1 < (t575.length : Int)
     · rw [if_pos c16] at H
       have c16b0 : decide (x19_1 < (t575.length : Int)) = true := decide_eq_true c16
       clear c16
       by_cases c17 : 0 ≤ x19_1
       · rw [if_pos c17] at H
         have c17b0 : decide (0 ≤ x19_1) = true := decide_eq_true c17
         clear c17
         by_cases c18 : x19_1 < (t575.length : Int)
         · rw [if_pos c18] at H
           have c18b0 : decide (x19_1 < (t575.length : Int)) = true := decide_eq_true c18
           clear c18
           have H' := Aside0.mk H
           clear H
           have p578 : 0 ≤ (x19_1 : Int) := od_
           have q578 : x19_1 < (t575.length : Int) := od_
           obtain ⟨ad578, e578, hx578_0⟩ := Kd.at_int (Kd.R_reads' HO_17.out).2.2 x19_1 p578 q578
           cases e578
           replace p578 := eq_true p578
           replace q578 := eq_true q578
           have hcz19_0 := cz_ BK567
           have hfz19_0 := blk_frozen BK567.out 0
           go_wp2
           go_loopg [7, 26] k1 (fun kq v7 v26 w' => ∃ (x7_2 : Bool) (x26_2 : Int), v7 = .bool x7_2 ∧ v26 = .int .i64 x26_2 ∧ Aside0 (impl_PseudoFrobenius.l1 kq x3_1 t572 (rd t575 x19_1) x7_2 t575 (t575.length : Int) x19_1 l0_0 (l0_0.length : Int) x26_2 l0_0 = some r) ∧ Aside0 (kq ≤ k1) ∧ Aside0 (Kd.R (Kd.int .i64) 3 w' w.heap.size (fun k_ => some k_ ≠ ((.slice (some ad578) t575.length co15) : Value).ownBlock) u3 x3_1) ∧ Aside0 (Kd.R Kd.bool 4 w' w.heap.size (fun _ => True) v573 t572) ∧ Aside0 (Kd.R (Kd.int .i64) 3 w' w.heap.size (fun k_ => some k_ ≠ (u3 : Value).ownBlock) (.slice (some ad578) t575.length co15) t575) ∧ Aside0 (w'.heap[gb567]? = some (.cells #[(.slice A0_0 l0_0.length c0_0)] 29 (0, 0))) ∧ Aside0 (Below w.heap.size w w'))
           case atStart => exact ⟨(true), (0), rs_, rs_, H', ⟨Nat.le_refl _⟩, ⟨re_ HO_3.out⟩, ⟨re_ HO_4.out⟩, ⟨re_ HO_17.out⟩, ⟨be_ BK567.out⟩, ⟨bq_ HB⟩⟩
           case round =>
            clear H'
            try clear c1
            try clear c2
            try clear p2
            try clear c3
            try clear p5
            try clear q5
            try clear hx5
            try clear c6
            try clear c16
            try clear c16b0
            try clear c17
            try clear c17b0
            try clear c18
            try clear c18b0
            try clear hcz11_0
            try clear hcz13_0
            try clear hcz19_0
            try clear hcz7_0
            try clear hfz11_0
            try clear hfz13_0
            try clear hfz19_0
            try clear hfz7_0
            try clear hx578_0
            try clear p2
            try clear p578
            try clear q578
            obtain ⟨x7_2, x26_2, rfl, rfl, HA, HK2, HO_3, HO_4, HO_17, BK567, HB⟩ := hrel
            cases gk with
            | zero => exact absurd HA.out (by simp [impl_PseudoFrobenius.l1])
            | succ k2 =>
             have H := HA.out
             clear HA
             simp only [impl_PseudoFrobenius.l1] at H
             by_cases c20 : x26_2 < (l0_0.length : Int)
             · rw [if_pos c20] at H
               have c20b0 : decide (x26_2 < (l0_0.length : Int)) = true := decide_eq_true c20
               clear c20
               by_cases c21 : 0 ≤ x26_2
               · rw [if_pos c21] at H
                 have c21b0 : decide (0 ≤ x26_2) = true := decide_eq_true c21
                 clear c21
                 by_cases c22 : x26_2 < (l0_0.length : Int)
                 · rw [if_pos c22] at H
                   have c22b0 : decide (x26_2 < (l0_0.length : Int)) = true := decide_eq_true c22
                   clear c22
                   by_cases c23 : x7_2 = true
                   · subst c23
                     rw [if_pos rfl] at H
                     obtain ⟨ji24, hji24⟩ : ∃ j_ : Int, (wrap64 ((rd t575 x19_1) + (rd l0_0 x26_2))) = j_ := ⟨_, rfl⟩
                     replace H : (if 0 ≤ (ji24) then (if (ji24) < (t572.length : Int) then (impl_PseudoFrobenius.l1 k2 x3_1 t572 (rd t575 x19_1) (rdOf false t572 (ji24)) t575 (t575.length : Int) x19_1 l0_0 (l0_0.length : Int) (wrap64 (x26_2 + 1)) l0_0) else (none)) else (none)) = some r := by first | (rw [hji24] at H; exact H) | (simp only [hji24] at H ⊢; exact H)
                     have hji24w : (IntKind.i64.wrap ((rd t575 x19_1) + (rd l0_0 x26_2))) = ji24 := (i64_w _).trans hji24
                     by_cases c25 : 0 ≤ (ji24)
                     · rw [if_pos c25] at H
                       have c25b0 : decide (0 ≤ (ji24)) = true := decide_eq_true c25
                       clear c25
                       by_cases c26 : (ji24) < (t572.length : Int)
                       · rw [if_pos c26] at H
                         have c26b0 : decide ((ji24) < (t572.length : Int)) = true := decide_eq_true c26
                         clear c26
                         have H' := Aside0.mk H
                         clear H
                         have p579 : 0 ≤ (x26_2 : Int) := od_
                         have q579 : x26_2 < (l0_0.length : Int) := od_
                         obtain ⟨ad579, e579, hx579_0⟩ := Kd.at_int HR0_0.out x26_2 p579 q579
                         cases e579
                         (try replace hx579_0 := (HB.out.cell (World.block_lt_of_cell? w _ hx579_0)).trans hx579_0)
                         replace p579 := eq_true p579
                         replace q579 := eq_true q579
                         obtain ⟨Ao27, co27, eo27⟩ := Kd.R_slice HO_4.out
                         subst eo27
                         have p580 : 0 ≤ ((ji24) : Int) := od_
                         have q580 : (ji24) < (t572.length : Int) := od_
                         obtain ⟨ad580, e580, hx580_0⟩ := Kd.at_bool (Kd.R_reads' HO_4.out).2.2 (ji24) p580 q580
                         cases e580
                         replace p580 := eq_true p580
                         replace q580 := eq_true q580
                         go_wp2
                         go_roundg k2
                         case measure => have := HK1.out; have := HK2.out; omega
                         case rel => exact ⟨(rdOf false t572 (ji24)), (wrap64 (x26_2 + 1)), (by first | rfl | (simp; done) | (simp only [← hji24] <;> (first | rfl | simp)) | (simp [*]; done)), rs_, H', ⟨by have := HK1.out; have := HK2.out; omega⟩, ⟨re_ HO_3.out⟩, ⟨re_ HO_4.out⟩, ⟨re_ HO_17.out⟩, ⟨be_ BK567.out⟩, ⟨bq_ HB⟩⟩
                       · rw [if_neg c26] at H
                         cases H
                     · rw [if_neg c25] at H
                       cases H
                   · replace c23 := Bool.eq_false_iff.mpr c23
                     subst c23
                     rw [if_neg (show ¬ (false = true) by decide)] at H
                     have H' := Aside0.mk H
                     clear H
                     have p579 : 0 ≤ (x26_2 : Int) := od_
                     have q579 : x26_2 < (l0_0.length : Int) := od_
                     obtain ⟨ad579, e579, hx579_0⟩ := Kd.at_int HR0_0.out x26_2 p579 q579
                     cases e579
                     (try replace hx579_0 := (HB.out.cell (World.block_lt_of_cell? w _ hx579_0)).trans hx579_0)
                     replace p579 := eq_true p579
                     replace q579 := eq_true q579
                     go_wp2
                     go_roundg k2
                     case measure => have := HK1.out; have := HK2.out; omega
                     case rel => exact ⟨(false), (wrap64 (x26_2 + 1)), rs_, rs_, H', ⟨by have := HK1.out; have := HK2.out; omega⟩, ⟨re_ HO_3.out⟩, ⟨re_ HO_4.out⟩, ⟨re_ HO_17.out⟩, ⟨be_ BK567.out⟩, ⟨bq_ HB⟩⟩
                 · rw [if_neg c22] at H
                   cases H
               · rw [if_neg c21] at H
                 cases H
             · rw [if_neg c20] at H
               have c20b0 : decide (x26_2 < (l0_0.length : Int)) = false := decide_eq_false c20
               clear c20
               by_cases c28 : x7_2 = true
               · subst c28
                 rw [if_pos rfl] at H
                 by_cases c29 : x3_1.length < 17592186044416
                 · rw [if_pos c29] at H
                   have LMc29 := Aside0.mk c29
                   clear c29
                   obtain ⟨y581, hy581⟩ : ∃ y_ : List Int, y_ = (x3_1 ++ [(rd t575 x19_1)]) := ⟨_, rfl⟩
                   replace H : (impl_PseudoFrobenius.l0 k2 y581 t572 t575 (t575.length : Int) (wrap64 (x19_1 + 1)) l0_0) = some r := by subst hy581; exact H
                   have Ny581 := Aside0.mk hy581
                   clear hy581
                   have H' := Aside0.mk H
                   clear H
                   go_wp2_with (first | ((with_reducible refine gate_builtin (b := .append) (xs := #[.tmp 41, .tmp 43]) rfl ?_); at_builtin; refine Kd.R_append (Kd.int .i64) (w0 := w) w.heap.size rfl (.tmp 41) (.tmp 43) 27 3 (.int .i64 0) 8 rfl Tryz.underlying27 info3 rfl (by decide) (by omega) u3 x3_1 (rd t575 x19_1) [.int .i64 (rd t575 x19_1)] (fun k_ => some k_ ≠ (.slice (some ad578) t575.length co15 : Value).ownBlock) (fun _ => False) rfl rfl ?aP (fun _ hk => hk.elim) ?aF ?aO ?aB ?aS ?aL ?_; (case aP => exact rfl); (case aB => exact (bq_ HB)); (case aF => exact (fun k_ hk => Kd.fresh' (Kd.R_lt (re_ HO_17.out)) k_ hk)); (case aO => exact (re_ HO_3.out)); (case aS => exact (below_size (bq_ HB))); (case aL => have := LMc29.out; omega); intro v582 w30 ho hb hg hat; rw [← Ny581.out] at ho; replace HO_4 := Aside0.mk (Kd.R_over' (re_ HO_4.out) (Kd.R_typed (re_ HO_3.out)) (by decide) hg); replace HO_17 := Aside0.mk (Kd.R_after (ok := (fun _ => True)) (by (with_reducible repeat (first | apply Kd.R_alloc | apply Kd.R_drewN | apply Kd.R_drew)); exact Kd.R_mono HO_17.out (fun _ hk => ⟨trivial, hk⟩)) hg hat); replace BK567 := Aside0.mk (blk_grown (be_ BK567.out) hg (Kd.R_ne HO_3.out BK567.out (by decide))); replace HB := Aside0.mk (hb); have HO583 := Aside0.mk (ho); clear HO_3; clear ho hb hg hat))
                   go_roundg k2
                   case measure => have := HK1.out; have := HK2.out; omega
                   case rel => exact ⟨(y581), (wrap64 (x19_1 + 1)), rs_, H', ⟨by have := HK1.out; have := HK2.out; omega⟩, ⟨re_ HO583.out⟩, ⟨re_ HO_4.out⟩, ⟨by (with_reducible repeat (first | apply Kd.R_alloc | apply Kd.R_drewN | apply Kd.R_drew)); exact Kd.R_mono HO_17.out (fun _ hk => hk.2)⟩, ⟨be_ BK567.out⟩, ⟨bq_ HB⟩⟩
                 · rw [if_neg c29] at H
                   cases H
               · replace c28 := Bool.eq_false_iff.mpr c28
                 subst c28
                 rw [if_neg (show ¬ (false = true) by decide)] at H
                 have H' := Aside0.mk H
                 clear H
                 go_wp2
                 go_roundg k2
                 case measure => have := HK1.out; have := HK2.out; omega
                 case rel => exact ⟨(x3_1), (wrap64 (x19_1 + 1)), rs_, H', ⟨by have := HK1.out; have := HK2.out; omega⟩, ⟨re_ HO_3.out⟩, ⟨re_ HO_4.out⟩, ⟨re_ HO_17.out⟩, ⟨be_ BK567.out⟩, ⟨bq_ HB⟩⟩
         · rw [if_neg c18] at H
           cases H
       · rw [if_neg c17] at H
         cases H
     · rw [if_neg c16] at H
       have c16b0 : decide (x19_1 < (t575.length : Int)) = false := decide_eq_false c16
       clear c16
       obtain rfl := Option.some.inj H
       go_wp2
       go_ret
       exact ⟨_, rf_, by (with_reducible repeat (first | apply Kd.R_alloc | apply Kd.R_drewN | apply Kd.R_drew)); exact Kd.R_mono HO_3.out (fun _ hk => trivial), bq_ HB⟩
 · replace c3 := Bool.eq_false_iff.mpr c3
   subst c3
   rw [if_neg (show ¬ (false = true) by decide)] at H
   obtain rfl := Option.some.inj H
   go_enter Tryz.func61, Tryz.ntmps61
   go_wp2_with (first | ((with_reducible refine gate_dst (N := 1) rfl ?_); refine bx_ 1 #[.slice A0_0 l0_0.length c0_0] 29 ?_; intro gb567 hg w31 hbox hb; have BK567 := Aside0.mk (hbox); have GW567 := gw_ hg HB; have GE567 := gw_ hg HB; replace HB := bo_ HB hb; clear hb hbox hg; have hcz32_0 := cz_ BK567; have hfz32_0 := blk_frozen BK567.out 0) | ((with_reducible refine gate_callee (f := 22) rfl ?_); refine gL_ (some 11) Tryz.func22 #[.agg #[.slice A0_0 l0_0.length c0_0]] ?_; (with_reducible refine (impl_IsSemigroup.calls k _ _ l0_0 false _ ?side1 ?side2 A2.out).mono ?_); (case side1 => exact ch_ HR0_0 HB); (case side2 => exact HC0_0.out); rintro e w33 ⟨rfl, hb⟩; refine ⟨_, rfl, ?_⟩; replace BK567 := bk_ BK567 hb; replace HB := bp_ HB hb; (try clear hb)))
   go_ret
   exact ⟨_, rf_, by first | exact Kd.R_nil _ _ _ _ _ | exact Kd.N_nil _ _ _ _ _ | exact Kd.V_nil _ _ _ _ _ | exact Kd.Q_nil _ _ _ _ _ | exact Kd.S_nil _ _ _ _ _, bq_ HB⟩
def impl_TypeOf.f (k : Nat) (l0_0 : List Int) : Option (Int) := (impl_IsSemigroup.f k l0_0).bind fun t585 => (if t585 = true then ((impl_GenusOf.f k l0_0).bind fun t586 => (if t586 = 0 then (some 1) else ((impl_PseudoFrobenius.f k l0_0).bind fun t587 => (some (t587.length : Int))))) else ((impl_PseudoFrobenius.f k l0_0).bind fun t590 => (some (t590.length : Int))))
theorem impl_TypeOf.calls (k : Nat) (A0_0 : Option Addr) (c0_0 : Nat) (l0_0 : List Int) (r : Int) (w : World) (hr0_0 : Kd.C (Kd.int .i64) w A0_0 l0_0.length l0_0) (hc0_0 : l0_0.length ≤ c0_0) (h : impl_TypeOf.f k l0_0 = some r) :
 Calls Tryz.prog 29 #[.agg #[.slice A0_0 l0_0.length c0_0]] w fun e w' => e = .returned (.int .i64 r) ∧ Below w.heap.size w w' := by
 have hu29 := Tryz.underlying29
 have HR0_0 := Aside0.mk hr0_0
 have HC0_0 := Aside0.mk hc0_0
 clear hr0_0 hc0_0
 have HB := Aside0.mk (Below.refl w.heap.size w)
 have H := h
 clear h
 unfold impl_TypeOf.f at H
 obtain ⟨t585, A2, H⟩ := ob_ H
 by_cases c3 : t585 = true
 · subst c3
   rw [if_pos rfl] at H
   obtain ⟨t586, A4, H⟩ := ob_ H
   by_cases c5 : t586 = 0
   · rw [if_pos c5] at H
     have c5b0 : (t586 == 0) = true := beq_iff_eq.mpr c5
     have c5b1 : (t586 != 0) = false := bne_eq_false_iff_eq.mpr c5
     clear c5
     obtain rfl := Option.some.inj H
     go_enter Tryz.func29, Tryz.ntmps29
     go_wp2_with (first | ((with_reducible refine gate_dst (N := 1) rfl ?_); refine bx_ 1 #[.slice A0_0 l0_0.length c0_0] 29 ?_; intro gb584 hg w6 hbox hb; have BK584 := Aside0.mk (hbox); have GW584 := gw_ hg HB; have GE584 := gw_ hg HB; replace HB := bo_ HB hb; clear hb hbox hg; have hcz7_0 := cz_ BK584; have hfz7_0 := blk_frozen BK584.out 0) | ((with_reducible refine gate_callee (f := 22) rfl ?_); refine gL_ (some 4) Tryz.func22 #[.agg #[.slice A0_0 l0_0.length c0_0]] ?_; (with_reducible refine (impl_IsSemigroup.calls k _ _ l0_0 true _ ?side1 ?side2 A2.out).mono ?_); (case side1 => exact ch_ HR0_0 HB); (case side2 => exact HC0_0.out); rintro e w8 ⟨rfl, hb⟩; refine ⟨_, rfl, ?_⟩; replace BK584 := bk_ BK584 hb; replace HB := bp_ HB hb; (try clear hb); have hcz9_0 := cz_ BK584; have hfz9_0 := blk_frozen BK584.out 0) | (go_at_call 28; (with_reducible refine (impl_GenusOf.calls k _ _ l0_0 t586 _ ?side1 ?side2 A4.out).mono ?_); (case side1 => exact ch_ HR0_0 HB); (case side2 => exact HC0_0.out); rintro e w10 ⟨rfl, hb⟩; replace BK584 := bk_ BK584 hb; replace HB := bp_ HB hb; (try clear hb)))
     go_ret
     exact ⟨rf_, bq_ HB⟩
   · rw [if_neg c5] at H
     have c5b0 : (t586 == 0) = false := beq_eq_false_iff_ne.mpr c5
     have c5b1 : (t586 != 0) = true := bne_iff_ne.mpr c5
     obtain ⟨t587, A11, H⟩ := ob_ H
     obtain rfl := Option.some.inj H
     go_enter Tryz.func29, Tryz.ntmps29
     go_wp2_with (first | ((with_reducible refine gate_dst (N := 1) rfl ?_); refine bx_ 1 #[.slice A0_0 l0_0.length c0_0] 29 ?_; intro gb584 hg w12 hbox hb; have BK584 := Aside0.mk (hbox); have GW584 := gw_ hg HB; have GE584 := gw_ hg HB; replace HB := bo_ HB hb; clear hb hbox hg; have hcz13_0 := cz_ BK584; have hfz13_0 := blk_frozen BK584.out 0) | ((with_reducible refine gate_callee (f := 22) rfl ?_); refine gL_ (some 4) Tryz.func22 #[.agg #[.slice A0_0 l0_0.length c0_0]] ?_; (with_reducible refine (impl_IsSemigroup.calls k _ _ l0_0 true _ ?side1 ?side2 A2.out).mono ?_); (case side1 => exact ch_ HR0_0 HB); (case side2 => exact HC0_0.out); rintro e w14 ⟨rfl, hb⟩; refine ⟨_, rfl, ?_⟩; replace BK584 := bk_ BK584 hb; replace HB := bp_ HB hb; (try clear hb); have hcz15_0 := cz_ BK584; have hfz15_0 := blk_frozen BK584.out 0) | (go_at_call 28; (with_reducible refine (impl_GenusOf.calls k _ _ l0_0 t586 _ ?side1 ?side2 A4.out).mono ?_); (case side1 => exact ch_ HR0_0 HB); (case side2 => exact HC0_0.out); rintro e w16 ⟨rfl, hb⟩; replace BK584 := bk_ BK584 hb; replace HB := bp_ HB hb; (try clear hb); have hcz17_0 := cz_ BK584; have hfz17_0 := blk_frozen BK584.out 0) | ((with_reducible refine gate_callee (f := 61) rfl ?_); refine gL_ (some 11) Tryz.func61 #[.agg #[.slice A0_0 l0_0.length c0_0]] ?_; (with_reducible refine (impl_PseudoFrobenius.calls k _ _ l0_0 t587 _ ?side1 ?side2 A11.out).mono ?_); (case side1 => exact ch_ HR0_0 HB); (case side2 => exact HC0_0.out); rintro e w18 ⟨v588, rfl, ho0, hb⟩; refine ⟨_, rfl, ?_⟩; have HO589 := Aside0.mk (Kd.R_lower ho0 (below_size (bq_ HB))); replace BK584 := bk_ BK584 hb; replace HB := bp_ HB hb; (try clear hb); (try clear ho0); obtain ⟨Ao19, co19, eo19⟩ := Kd.R_slice HO589.out; subst eo19))
     go_ret
     exact ⟨rf_, bq_ HB⟩
 · replace c3 := Bool.eq_false_iff.mpr c3
   subst c3
   rw [if_neg (show ¬ (false = true) by decide)] at H
   obtain ⟨t590, A20, H⟩ := ob_ H
   obtain rfl := Option.some.inj H
   go_enter Tryz.func29, Tryz.ntmps29
   go_wp2_with (first | ((with_reducible refine gate_dst (N := 1) rfl ?_); refine bx_ 1 #[.slice A0_0 l0_0.length c0_0] 29 ?_; intro gb584 hg w21 hbox hb; have BK584 := Aside0.mk (hbox); have GW584 := gw_ hg HB; have GE584 := gw_ hg HB; replace HB := bo_ HB hb; clear hb hbox hg; have hcz22_0 := cz_ BK584; have hfz22_0 := blk_frozen BK584.out 0) | ((with_reducible refine gate_callee (f := 22) rfl ?_); refine gL_ (some 4) Tryz.func22 #[.agg #[.slice A0_0 l0_0.length c0_0]] ?_; (with_reducible refine (impl_IsSemigroup.calls k _ _ l0_0 false _ ?side1 ?side2 A2.out).mono ?_); (case side1 => exact ch_ HR0_0 HB); (case side2 => exact HC0_0.out); rintro e w23 ⟨rfl, hb⟩; refine ⟨_, rfl, ?_⟩; replace BK584 := bk_ BK584 hb; replace HB := bp_ HB hb; (try clear hb); have hcz24_0 := cz_ BK584; have hfz24_0 := blk_frozen BK584.out 0) | ((with_reducible refine gate_callee (f := 61) rfl ?_); refine gL_ (some 11) Tryz.func61 #[.agg #[.slice A0_0 l0_0.length c0_0]] ?_; (with_reducible refine (impl_PseudoFrobenius.calls k _ _ l0_0 t590 _ ?side1 ?side2 A20.out).mono ?_); (case side1 => exact ch_ HR0_0 HB); (case side2 => exact HC0_0.out); rintro e w25 ⟨v591, rfl, ho0, hb⟩; refine ⟨_, rfl, ?_⟩; have HO592 := Aside0.mk (Kd.R_lower ho0 (below_size (bq_ HB))); replace BK584 := bk_ BK584 hb; replace HB := bp_ HB hb; (try clear hb); (try clear ho0); obtain ⟨Ao26, co26, eo26⟩ := Kd.R_slice HO592.out; subst eo26))
   go_ret
   exact ⟨rf_, bq_ HB⟩
def impl_ListText.l0 : Nat → List ByteArray → List Int → Int → Int → Option (ByteArray)
 | 0, _, _, _, _ => none
 | k + 1, x3, x10, x11, x12 => if x12 < x11 then (if 0 ≤ x12 then (if x12 < (x10.length : Int) then ((impl_FormatI.f k (rd x10 x12)).bind fun t597 => (if x3.length < 8796093022208 then (impl_ListText.l0 k (x3 ++ [t597]) x10 x11 (wrap64 (x12 + 1))) else (none))) else (none)) else (none)) else ((impl_Join.f k x3 (⟨#[44]⟩ : ByteArray)).bind fun t601 => (some t601))
def impl_ListText.f (k : Nat) (l0 : List Int) : Option (ByteArray) := if (l0.length : Int) = 0 then (some (⟨#[110, 111, 110, 101]⟩ : ByteArray)) else (impl_ListText.l0 k (([] : List ByteArray)) l0 (l0.length : Int) 0)
theorem impl_ListText.calls (k : Nat) (A0 : Option Addr) (c0 : Nat) (l0 : List Int) (r : ByteArray) (w : World) (hr0 : Kd.C (Kd.int .i64) w A0 l0.length l0) (hc0 : l0.length ≤ c0) (hT : Tab_ w) (h : impl_ListText.f k l0 = some r) :
 Calls Tryz.prog 31 #[.slice A0 l0.length c0] w fun e w' => e = .returned (.string r) ∧ Below w.heap.size w w' := by
 have hTab := Aside0.mk hT
 clear hT
 have HR0 := Aside0.mk hr0
 have HC0 := Aside0.mk hc0
 clear hr0 hc0
 have HB := Aside0.mk (Below.refl w.heap.size w)
 have H := h
 clear h
 unfold impl_ListText.f at H
 by_cases c2 : (l0.length : Int) = 0
 · rw [if_pos c2] at H
   have c2b0 : ((l0.length : Int) == 0) = true := beq_iff_eq.mpr c2
   have c2b1 : ((l0.length : Int) != 0) = false := bne_eq_false_iff_eq.mpr c2
   clear c2
   obtain rfl := Option.some.inj H
   go_enter Tryz.func31, Tryz.ntmps31
   go_wp2
   go_ret
   exact ⟨rf_, bl_ HB.out⟩
 · rw [if_neg c2] at H
   have c2b0 : ((l0.length : Int) == 0) = false := beq_eq_false_iff_ne.mpr c2
   have c2b1 : ((l0.length : Int) != 0) = true := bne_iff_ne.mpr c2
   have c2b2 : ¬ (l0 = []) := fun h_ => c2 (by rw [h_]; rfl)
   obtain ⟨y593, hy593⟩ : ∃ y_ : List ByteArray, y_ = (([] : List ByteArray)) := ⟨_, rfl⟩
   replace H : (impl_ListText.l0 k y593 l0 (l0.length : Int) 0) = some r := by subst hy593; exact H
   have Ny593 := Aside0.mk hy593
   clear hy593
   have H' := Aside0.mk H
   clear H
   go_enter Tryz.func31, Tryz.ntmps31
   go_wp2_with (first | ((with_reducible refine gate_dst (N := 9) rfl ?_); refine Kd.R_lit Kd.string _ 9 ?hg (N := 9) ?hd (xs := ([] : List ByteArray)) (inner := []) (ok := fun _ => True) (okp := fun _ => True) ?hr ?hp (fun _ hk => hk) trivial (Below.refl _ _) (Nat.le_refl _) (by simp) ?_; (case hd => rfl); (case hg => rfl); (case hr => first | (go_simp; done) | (go_simp; rfl)); (case hp => exact (Reps.none _ _)); intro v594 w3 ho4 hb hg_ hnew_; clear hg_ hnew_; (first | rw [← Ny593.out] at ho4 | (simp only [Int.reduceToNat] at ho4; rw [← Ny593.out] at ho4)); have HO595 := Aside0.mk (Kd.R_lower ho4 (below_size (bl_ HB.out))); replace HB := bo_ HB hb; clear hb ho4))
   go_loopg [3, 12] k (fun kq v3 v12 w' => ∃ (x3_1 : List ByteArray) (x12_1 : Int), v12 = .int .i64 x12_1 ∧ Aside0 (impl_ListText.l0 kq x3_1 l0 (l0.length : Int) x12_1 = some r) ∧ Aside0 (kq ≤ k) ∧ Aside0 (Kd.R Kd.string 9 w' w.heap.size (fun _ => True) v3 x3_1) ∧ Aside0 (Below w.heap.size w w'))
   case atStart => exact ⟨(y593), (0), rs_, H', ⟨Nat.le_refl _⟩, ⟨re_ HO595.out⟩, ⟨bl_ HB.out⟩⟩
   case round =>
    clear H'
    try clear c2
    try clear c2b0
    try clear c2b1
    try clear c2b2
    try clear p2
    try clear c3
    obtain ⟨x3_1, x12_1, rfl, HA, HK1, HO_3, HB⟩ := hrel
    cases gk with
    | zero => exact absurd HA.out (by simp [impl_ListText.l0])
    | succ k1 =>
     have H := HA.out
     clear HA
     simp only [impl_ListText.l0] at H
     by_cases c5 : x12_1 < (l0.length : Int)
     · rw [if_pos c5] at H
       have c5b0 : decide (x12_1 < (l0.length : Int)) = true := decide_eq_true c5
       clear c5
       by_cases c6 : 0 ≤ x12_1
       · rw [if_pos c6] at H
         have c6b0 : decide (0 ≤ x12_1) = true := decide_eq_true c6
         clear c6
         by_cases c7 : x12_1 < (l0.length : Int)
         · rw [if_pos c7] at H
           have c7b0 : decide (x12_1 < (l0.length : Int)) = true := decide_eq_true c7
           clear c7
           obtain ⟨t597, A8, H⟩ := ob_ H
           by_cases c9 : x3_1.length < 8796093022208
           · rw [if_pos c9] at H
             have LMc9 := Aside0.mk c9
             clear c9
             obtain ⟨y598, hy598⟩ : ∃ y_ : List ByteArray, y_ = (x3_1 ++ [t597]) := ⟨_, rfl⟩
             replace H : (impl_ListText.l0 k1 y598 l0 (l0.length : Int) (wrap64 (x12_1 + 1))) = some r := by subst hy598; exact H
             have Ny598 := Aside0.mk hy598
             clear hy598
             have H' := Aside0.mk H
             clear H
             have p596 : 0 ≤ (x12_1 : Int) := od_
             have q596 : x12_1 < (l0.length : Int) := od_
             obtain ⟨ad596, e596, hx596_0⟩ := Kd.at_int HR0.out x12_1 p596 q596
             cases e596
             (try replace hx596_0 := (HB.out.cell (World.block_lt_of_cell? w _ hx596_0)).trans hx596_0)
             replace p596 := eq_true p596
             replace q596 := eq_true q596
             go_wp2_with (first | ((with_reducible refine gate_callee (f := 26) rfl ?_); refine gL_ (some 18) Tryz.func26 #[.int .i64 (rd l0 x12_1)] ?_; (with_reducible refine (impl_FormatI.calls k1 (rd l0 x12_1) t597 _ ?sideT A8.out).mono ?_); (case sideT => exact hTab.out.below (bl_ HB.out)); rintro e w10 ⟨rfl, hb⟩; refine ⟨_, rfl, ?_⟩; replace HO_3 := Aside0.mk (Kd.R_below (re_ HO_3.out) hb); replace HB := bo_ HB hb; (try clear hb)) | ((with_reducible refine gate_builtin (b := .append) (xs := #[.tmp 16, .tmp 19]) rfl ?_); at_builtin; refine Kd.R_append Kd.string (w0 := w) w.heap.size rfl (.tmp 16) (.tmp 19) 40 9 (.string ⟨#[]⟩) 16 rfl Tryz.underlying40 info9 rfl (by decide) (by omega) u3 x3_1 t597 [.string t597] (fun _ => True) (fun _ => False) rfl rfl ?aP (fun _ hk => hk.elim) ?aF ?aO ?aB ?aS ?aL ?_; (case aP => exact rfl); (case aB => exact (bl_ HB.out)); (case aF => exact (fun _ _ => trivial)); (case aO => exact (re_ HO_3.out)); (case aS => exact (below_size (bl_ HB.out))); (case aL => have := LMc9.out; omega); intro v599 w11 ho hb hg hat; rw [← Ny598.out] at ho; replace HB := Aside0.mk (hb); have HO600 := Aside0.mk (ho); clear HO_3; clear ho hb hg hat))
             go_roundg k1
             case measure => have := HK1.out; omega
             case rel => exact ⟨(y598), (wrap64 (x12_1 + 1)), rs_, H', ⟨by have := HK1.out; omega⟩, ⟨re_ HO600.out⟩, ⟨bl_ HB.out⟩⟩
           · rw [if_neg c9] at H
             cases H
         · rw [if_neg c7] at H
           cases H
       · rw [if_neg c6] at H
         cases H
     · rw [if_neg c5] at H
       have c5b0 : decide (x12_1 < (l0.length : Int)) = false := decide_eq_false c5
       clear c5
       obtain ⟨t601, A12, H⟩ := ob_ H
       obtain rfl := Option.some.inj H
       obtain ⟨Ao13, co13, eo13⟩ := Kd.R_slice HO_3.out
       subst eo13
       go_wp2_with (first | ((with_reducible refine gate_callee (f := 25) rfl ?_); refine gL_ (some 23) Tryz.func25 #[.slice Ao13 x3_1.length co13, .string (⟨#[44]⟩ : ByteArray)] ?_; (with_reducible refine (impl_Join.calls k1 _ _ x3_1 (⟨#[44]⟩ : ByteArray) t601 _ ?side1 ?side2 A12.out).mono ?_); (case side1 => exact ce_ ((Kd.R_reads' HO_3.out).2.2)); (case side2 => exact (Kd.R_reads' HO_3.out).2.1); rintro e w14 ⟨rfl, hb⟩; refine ⟨_, rfl, ?_⟩; replace HO_3 := Aside0.mk (Kd.R_below (re_ HO_3.out) hb); replace HB := bo_ HB hb; (try clear hb)))
       go_ret
       exact ⟨rf_, bl_ HB.out⟩
def impl_GapText.f (k : Nat) (l0_0 : List Int) : Option (ByteArray) := (impl_IsSemigroup.f k l0_0).bind fun t603 => (if t603 = true then ((impl_Gaps.f k l0_0).bind fun t604 => ((impl_ListText.f k t604).bind fun t607 => (some t607))) else (some (⟨#[]⟩ : ByteArray)))
theorem impl_GapText.calls (k : Nat) (A0_0 : Option Addr) (c0_0 : Nat) (l0_0 : List Int) (r : ByteArray) (w : World) (hr0_0 : Kd.C (Kd.int .i64) w A0_0 l0_0.length l0_0) (hc0_0 : l0_0.length ≤ c0_0) (hT : Tab_ w) (h : impl_GapText.f k l0_0 = some r) :
 Calls Tryz.prog 30 #[.agg #[.slice A0_0 l0_0.length c0_0]] w fun e w' => e = .returned (.string r) ∧ Below w.heap.size w w' := by
 have hTab := Aside0.mk hT
 clear hT
 have hu29 := Tryz.underlying29
 have HR0_0 := Aside0.mk hr0_0
 have HC0_0 := Aside0.mk hc0_0
 clear hr0_0 hc0_0
 have HB := Aside0.mk (Below.refl w.heap.size w)
 have H := h
 clear h
 unfold impl_GapText.f at H
 obtain ⟨t603, A2, H⟩ := ob_ H
 by_cases c3 : t603 = true
 · subst c3
   rw [if_pos rfl] at H
   obtain ⟨t604, A4, H⟩ := ob_ H
   obtain ⟨t607, A5, H⟩ := ob_ H
   obtain rfl := Option.some.inj H
   go_enter Tryz.func30, Tryz.ntmps30
   go_wp2_with (first | ((with_reducible refine gate_dst (N := 1) rfl ?_); refine bx_ 1 #[.slice A0_0 l0_0.length c0_0] 29 ?_; intro gb602 hg w6 hbox hb; have BK602 := Aside0.mk (hbox); have GW602 := gw_ hg HB; have GE602 := gw_ hg HB; replace HB := bo_ HB hb; clear hb hbox hg; have hcz7_0 := cz_ BK602; have hfz7_0 := blk_frozen BK602.out 0) | ((with_reducible refine gate_callee (f := 22) rfl ?_); refine gL_ (some 4) Tryz.func22 #[.agg #[.slice A0_0 l0_0.length c0_0]] ?_; (with_reducible refine (impl_IsSemigroup.calls k _ _ l0_0 true _ ?side1 ?side2 A2.out).mono ?_); (case side1 => exact ch_ HR0_0 HB); (case side2 => exact HC0_0.out); rintro e w8 ⟨rfl, hb⟩; refine ⟨_, rfl, ?_⟩; replace BK602 := bk_ BK602 hb; replace HB := bp_ HB hb; (try clear hb); have hcz9_0 := cz_ BK602; have hfz9_0 := blk_frozen BK602.out 0) | ((with_reducible refine gate_callee (f := 60) rfl ?_); refine gL_ (some 7) Tryz.func60 #[.agg #[.slice A0_0 l0_0.length c0_0]] ?_; (with_reducible refine (impl_Gaps.calls k _ _ l0_0 t604 _ ?side1 ?side2 A4.out).mono ?_); (case side1 => exact ch_ HR0_0 HB); (case side2 => exact HC0_0.out); rintro e w10 ⟨v605, rfl, ho0, hb⟩; refine ⟨_, rfl, ?_⟩; have HO606 := Aside0.mk (Kd.R_lower ho0 (below_size (bq_ HB))); replace BK602 := bk_ BK602 hb; replace HB := bp_ HB hb; (try clear hb); (try clear ho0); obtain ⟨Ao11, co11, eo11⟩ := Kd.R_slice HO606.out; subst eo11) | ((with_reducible refine gate_callee (f := 31) rfl ?_); refine gL_ (some 8) Tryz.func31 #[.slice Ao11 t604.length co11] ?_; (with_reducible refine (impl_ListText.calls k _ _ t604 t607 _ ?side1 ?side2 ?sideT A5.out).mono ?_); (case sideT => exact hTab.out.below (bq_ HB)); (case side1 => exact ce_ ((Kd.R_reads' HO606.out).2.2)); (case side2 => exact (Kd.R_reads' HO606.out).2.1); rintro e w12 ⟨rfl, hb⟩; refine ⟨_, rfl, ?_⟩; replace HO606 := Aside0.mk (Kd.R_below (re_ HO606.out) hb); replace BK602 := bk_ BK602 hb; replace HB := bp_ HB hb; (try clear hb)))
   go_ret
   exact ⟨rf_, bq_ HB⟩
 · replace c3 := Bool.eq_false_iff.mpr c3
   subst c3
   rw [if_neg (show ¬ (false = true) by decide)] at H
   obtain rfl := Option.some.inj H
   go_enter Tryz.func30, Tryz.ntmps30
   go_wp2_with (first | ((with_reducible refine gate_dst (N := 1) rfl ?_); refine bx_ 1 #[.slice A0_0 l0_0.length c0_0] 29 ?_; intro gb602 hg w13 hbox hb; have BK602 := Aside0.mk (hbox); have GW602 := gw_ hg HB; have GE602 := gw_ hg HB; replace HB := bo_ HB hb; clear hb hbox hg; have hcz14_0 := cz_ BK602; have hfz14_0 := blk_frozen BK602.out 0) | ((with_reducible refine gate_callee (f := 22) rfl ?_); refine gL_ (some 4) Tryz.func22 #[.agg #[.slice A0_0 l0_0.length c0_0]] ?_; (with_reducible refine (impl_IsSemigroup.calls k _ _ l0_0 false _ ?side1 ?side2 A2.out).mono ?_); (case side1 => exact ch_ HR0_0 HB); (case side2 => exact HC0_0.out); rintro e w15 ⟨rfl, hb⟩; refine ⟨_, rfl, ?_⟩; replace BK602 := bk_ BK602 hb; replace HB := bp_ HB hb; (try clear hb)))
   go_ret
   exact ⟨rf_, bq_ HB⟩
end Go.Proofs.YteaiehpgigaoaaaGreatDoor.PB
end
