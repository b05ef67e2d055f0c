-- Bundled by shake.py from this session's printed and written texts; Lean checks it.
import Derived.Test.YthkhpejggdnkfaaZFnExactGlueFrobeniusx1
import Derived.Test.YthkhpejggdnkfaaZFnExactGlueFrobeniusx5
import Derived.Test.YthkhpejggdnkfaaZFnExactGlueFrobeniusx9
section
namespace Go.Proofs.Ythkhpejggdnkfaa.PA
open Go.RowKit Go.Proofs.YthkhpejggdnkfaaW.PrintWords Go.Proofs.YthkhpejggdnkfaaW.PrintLast Go.Proofs.YthkhpejggdnkfaaW.PrintMore
set_option linter.unusedVariables false
set_option linter.unusedSimpArgs false
def impl_table.l0 : Nat → List Int → List Bool → Int → Int → List Int → Option (List Bool)
 | 0, _, _, _, _, _ => none
 | k + 1, x5, x6, x19, x20, x752000 => if x20 < x19 then (if 0 < (x752000.length : Int) then (if (rd x752000 0) = 0 then (none) else (if 0 ≤ (Int.tmod x20 (rd x752000 0)) then (if (Int.tmod x20 (rd x752000 0)) < (x5.length : Int) then (if 0 ≤ x20 then (if x20 < (x6.length : Int) then (impl_table.l0 k x5 (x6.set (x20 : Int).toNat (decide ((rd x5 (Int.tmod x20 (rd x752000 0))) ≤ x20))) x19 (wrap64 (x20 + 1)) x752000) else (none)) else (none)) else (none)) else (none))) else (none)) else (some x6)
def impl_table.f (k : Nat) (l0_0 : List Int) (a1 : Int) : Option (List Bool) := if 0 < (l0_0.length : Int) then ((impl_leasts.f k l0_0 (rd l0_0 0)).bind fun t753 => (if 0 ≤ (wrap64 (a1 + 1)) then (if (wrap64 (a1 + 1) : Int).toNat ≤ 281474976710656 then ((some (List.replicate (wrap64 (a1 + 1) : Int).toNat false : List Bool)).bind fun y756 => (impl_table.l0 k t753 y756 (y756.length : Int) 0 l0_0)) else (none)) else (none))) else (none)
def impl_table.T1 : Bool × List (List Nat × List Nat) := (true, [([], []), ([0], [0]), ([], []), ([2], [2]), ([3], [3]), ([4], [4]), ([1, 5], [1, 5]), ([6, 6, 0, 1, 2, 3, 4, 5, 6], [6])])
def impl_table.B1 : List Nat := [0, 1, 0, 4, 12, 28, 63, 127]
theorem impl_table.tab1 : rtab .any (opsOf Try.f93 1) = impl_table.T1 := by kernel_rfl
theorem impl_table.bits1 : waitsOk impl_table.T1.2 impl_table.B1 = true := by kernel_rfl
set_option maxHeartbeats 8000000 in
set_option maxRecDepth 100000 in
theorem impl_table.calls (k : Nat) (A0_0 : Option Addr) (c0_0 : Nat) (l0_0 : List Int) (a1 : Int) (r : List Bool) (w : World) (hr0_0 : Kd.C (Kd.int .i64) w A0_0 l0_0.length l0_0) (hc0_0 : l0_0.length ≤ c0_0) (h : impl_table.f k l0_0 a1 = some r) :
 Calls Try.prog 93 #[.agg #[.slice A0_0 l0_0.length c0_0], .int .i64 a1] w fun e w' => ∃ v0_ : Value, e = .returned (v0_) ∧ Kd.R Kd.bool 4 w' w.heap.size (fun _ => True) v0_ r ∧ Below w.heap.size w w' := by
 have hu44 := Try.underlying44
 have HR0_0 := Aside0.mk hr0_0
 have HC0_0 := Aside0.mk hc0_0
 clear hr0_0 hc0_0
 have HB := Aside0.mk (Below.refl w.heap.size w)
 have H : (if 0 < (l0_0.length : Int) then ((impl_leasts.f k l0_0 (rd l0_0 0)).bind fun t753 => (if 0 ≤ (wrap64 (a1 + 1)) then (if (wrap64 (a1 + 1) : Int).toNat ≤ 281474976710656 then ((some (List.replicate (wrap64 (a1 + 1) : Int).toNat false : List Bool)).bind fun y756 => (impl_table.l0 k t753 y756 (y756.length : Int) 0 l0_0)) else (none)) else (none))) else (none)) = some r := h
 clear h
 by_cases c3 : 0 < (l0_0.length : Int)
 · rw [if_pos c3] at H
   have c3b0 : decide (0 < (l0_0.length : Int)) = true := decide_eq_true c3
   have c3b1 : decide (0 < l0_0.length) = true := decide_eq_true (by omega)
   clear c3
   replace H := Option.bind_eq_some_iff.mp H
   obtain ⟨t753, A40, H⟩ := H
   replace H : (if 0 ≤ (wrap64 (a1 + 1)) then (if (wrap64 (a1 + 1) : Int).toNat ≤ 281474976710656 then ((some (List.replicate (wrap64 (a1 + 1) : Int).toNat false : List Bool)).bind fun y756 => (impl_table.l0 k t753 y756 (y756.length : Int) 0 l0_0)) else (none)) else (none)) = some r := H
   have A4 := Aside0.mk A40
   clear A40
   obtain ⟨ji5, hji5⟩ : ∃ j_ : Int, (wrap64 (a1 + 1)) = j_ := ⟨_, rfl⟩
   replace H : (if 0 ≤ (ji5) then (if (ji5 : Int).toNat ≤ 281474976710656 then ((some (List.replicate (ji5 : Int).toNat false : List Bool)).bind fun y756 => (impl_table.l0 k t753 y756 (y756.length : Int) 0 l0_0)) else (none)) else (none)) = some r := by first | (rw [hji5] at H; exact H) | (simp only [hji5] at H ⊢; exact H)
   (try rw [hji5] at A4)
   have hji5w : (IntKind.i64.wrap (a1 + 1)) = ji5 := (i64_w _).trans hji5
   by_cases c6 : 0 ≤ (ji5)
   · rw [if_pos c6] at H
     have c6b0 := eq_true c6
     have c6b1 : decide (0 ≤ (ji5)) = true := decide_eq_true c6
     clear c6
     by_cases c7 : (ji5 : Int).toNat ≤ 281474976710656
     · rw [if_pos c7] at H
       have c7b0 := eq_true c7
       have c7b1 : decide ((ji5 : Int).toNat ≤ 281474976710656) = true := decide_eq_true c7
       clear c7
       obtain ⟨y756, hy756⟩ : ∃ y_ : List Bool, y_ = (List.replicate (ji5 : Int).toNat false) := ⟨_, rfl⟩
       replace H : (impl_table.l0 k t753 y756 (y756.length : Int) 0 l0_0) = some r := by first | (rw [hy756]; with_reducible exact H) | (have H2_ := (Option.bind_some _ _).symm.trans H; rw [hy756]; with_reducible exact H2_) | (have H2_ := (Option.bind_some _ _).symm.trans H; with_reducible exact H2_) | with_reducible exact H | (rw [hy756]; exact H) | exact H
       have Ny756 := Aside0.mk hy756
       clear hy756
       have H' := Aside0.mk H
       clear H
       go_enter Try.func93, Try.ntmps93
       try go_wp2_with (first | ((with_reducible refine gate_dst (N := 2) rfl ?_); refine box_event ?hg (N := 2) ?hd (cs := #[.slice A0_0 l0_0.length c0_0]) (t := 44) ?hr ?_; (case hd => rfl); (case hg => rfl); (case hr => first | (go_simp; done) | (go_simp; rfl)); intro gb751 hg w8 hbox hb; have n0_ := Aside0.mk (below_step (bl_ HB.out) hb); have n1_ := Aside0.mk (hbox); have n2_ := Aside0.mk ((by rw [hg]; exact (below_size (bl_ HB.out)) : w.heap.size ≤ gb751)); have n3_ := Aside0.mk ((by rw [hg]; exact (below_size (bl_ HB.out)) : w.heap.size ≤ gb751)); clear HB; have HB := n0_; have BK751 := n1_; have GW751 := n2_; have GE751 := n3_; clear n0_ n1_ n2_ n3_; clear hb hbox hg))
       have n0_ := Aside0.mk (blk_drew BK751.out)
       have n1_ := Aside0.mk (below_drew1 HB.out)
       clear BK751
       clear HB
       have BK751 := n0_
       have HB := n1_
       clear n0_ n1_
       have p752 : 0 ≤ (0 : Int) := (by omega)
       have q752 : 0 < (l0_0.length : Int) := of_decide_eq_true (by first | (with_reducible assumption) | assumption)
       obtain ⟨ad752, e752, hx752_0⟩ := Kd.at_int HR0_0.out 0 p752 q752
       have hw752_0 := hx752_0
       (try rw [show ((0 : Int)).toNat = 0 from rfl] at hw752_0)
       (try rw [show 0 * 1 = 0 from rfl] at hw752_0)
       (try rw [Addr.add_zero'] at hw752_0)
       cases e752
       have qi752 : (0 < l0_0.length) = True := eq_true (by omega)
       (try rw [show ((0 : Int)).toNat = 0 from rfl] at hx752_0)
       (try rw [Addr.add_zero'] at hx752_0)
       (try replace hx752_0 := (HB.out.cell (World.block_lt_of_cell? w _ hx752_0)).trans hx752_0)
       replace p752 := eq_true p752
       replace q752 := eq_true q752
       refine start_ (n := 8) (S := fun w' => w'.cell? ⟨gb751, 0, none⟩ = some (.slice (some ad752) l0_0.length c0_0) ∧ w'.cell? ad752 = some (.int .i64 (rd l0_0 0))) (ds := []) (B_ 0 8) (by kernel_rfl) rfl rfl ⟨(blk_cell BK751.out 0).trans rfl, ((HB.out.cell (World.block_lt_of_cell? w _ hw752_0)).trans hw752_0)⟩ (fun hHeld => ?_); refine with_tabW impl_table.tab1 impl_table.bits1 (fun HT_ HW_ => ?_)
       generalize w8.drew = w9 at BK751 HB hx752_0 hHeld ⊢
       refine pu_ HT_ 0 8 (B_ 1 8) ?_
       refine pu_ HT_ 2 10 (B_ 5 8) ?_
       refine tk2_ HT_ HW_ hHeld 1 9 (B_ 7 8) ?_
       refine tk2_ HT_ HW_ hHeld 3 11 (B_ 15 8) ?_
       refine pu_ HT_ 4 12 (B_ 31 8) ?_
       refine tk2_ HT_ HW_ hHeld 5 13 (B_ 63 8) ?_
       refine one_ (i := 6) (N := some 14) (B_ 127 8) rfl rfl (one_of HT_.out (by kernel_rfl)) (by decide) (fun K hK => ?_)
       refine goes_ Try.func79 (by kernel_rfl) rfl #[.slice (some ad752) l0_0.length c0_0, .int .i64 (rd l0_0 0)] (by rfl) rfl rfl (by (try simp only [List.map_toArray, List.map_cons, List.map_nil]); first | done | rfl | (simp only [List.length_drop, List.length_take]; rfl)) ?_
       with_reducible refine (impl_leasts.calls k _ _ l0_0 (rd l0_0 0) t753 _ ?side1 ?side2 A4.out).mono ?_
       (case side1 => exact ce_ ((Kd.C_below HR0_0.out HB.out)))
       (case side2 => exact HC0_0.out)
       rintro e w10 ⟨v754, rfl, ho0, hb⟩
       refine ⟨_, rfl, ?_⟩
       have n0_ := Aside0.mk (Kd.R_lower ho0 (below_size (by repeat (first | (with_reducible first | exact HB.out | apply below_alloc | apply pw_below_drewN | apply below_drew1 | refine below_set ?_ GE751.out) | exact HB.out))))
       have n1_ := Aside0.mk (blk_below (g := gb751) (o := .cells #[.slice (some ad752) l0_0.length c0_0] 44 (0, 0)) (be_ BK751.out) hb)
       have n2_ := Aside0.mk (below_step (by repeat (first | (with_reducible first | exact HB.out | apply below_alloc | apply pw_below_drewN | apply below_drew1 | refine below_set ?_ GE751.out) | exact HB.out)) hb)
       clear BK751
       clear HB
       have HO755 := n0_
       have BK751 := n1_
       have HB := n2_
       clear n0_ n1_ n2_
       (try clear hb)
       (try clear hb2)
       (try clear hk)
       (try clear hi)
       (try clear ho0)
       refine hK.out _ _ ⟨(blk_cell BK751.out 0).trans rfl, ((HB.out.cell (World.block_lt_of_cell? w _ hw752_0)).trans hw752_0)⟩ (fun hHeld => ?_)
       clear hK K
       refine norm_ (a' := ?_) ?_ ?_
       rotate_left
       · show Act.put _ (some 14) _ = _
         simp only [Act.put, z1_, z2_, z3_, i64_w, i32_w]
         rfl
       refine pu_ HT_ 7 5 (B_ 255 8) ?_
       refine done_ (done_of HT_.out (by kernel_rfl)) ?_
       try go_wp2_with (first | ((with_reducible refine gate_dst (N := 17) rfl ?_); refine Kd.R_make Kd.bool _ 4 rfl (N := 17) rfl 80 _ _ rfl ji5 rfl rfl Try.underlying80 (.bool false) 1 info4 rfl (by decide) (by omega) false (ok := fun _ => True) (okp := fun _ => True) rfl (fun _ hk => hk) trivial (of_decide_eq_true (by first | (with_reducible assumption) | assumption)) (Nat.le_trans (Nat.mul_le_mul_right _ (of_decide_eq_true (by first | (with_reducible assumption) | assumption) : ji5.toNat ≤ 281474976710656)) (by omega)) (Below.refl _ _) (Nat.le_refl _) ?_; intro v757 w11 ho12 hb hg_ hnew_; clear hg_ hnew_; (first | rw [← Ny756.out] at ho12 | (simp only [Int.reduceToNat] at ho12; rw [← Ny756.out] at ho12)); have n0_ := Aside0.mk (Kd.R_below (re_ HO755.out) hb); have n1_ := Aside0.mk (Kd.R_lower ho12 (below_size (by repeat (first | (with_reducible first | exact HB.out | apply below_alloc | apply pw_below_drewN | apply below_drew1 | refine below_set ?_ GE751.out) | exact HB.out)))); have n2_ := Aside0.mk (blk_below (g := gb751) (o := .cells #[.slice (some ad752) l0_0.length c0_0] 44 (0, 0)) (be_ BK751.out) hb); have n3_ := Aside0.mk (below_step (by repeat (first | (with_reducible first | exact HB.out | apply below_alloc | apply pw_below_drewN | apply below_drew1 | refine below_set ?_ GE751.out) | exact HB.out)) hb); clear HO755; clear BK751; clear HB; have HO755 := n0_; have HO758 := n1_; have BK751 := n2_; have HB := n3_; clear n0_ n1_ n2_ n3_; clear hb ho12; obtain ⟨Ao13, co13, eo13⟩ := Kd.R_slice HO758.out; subst eo13))
       go_loopg [20] k (fun kq v20 w' => ∃ (x6_1 : List Bool) (x20_1 : Int), v20 = .int .i64 x20_1 ∧ Aside0 (impl_table.l0 kq t753 x6_1 (y756.length : Int) x20_1 l0_0 = some r) ∧ Aside0 (kq ≤ k) ∧ Aside0 (Kd.R (Kd.int .i64) 3 w' w.heap.size (fun _ => True) v754 t753) ∧ Aside0 (Kd.R Kd.bool 4 w' w.heap.size (fun _ => True) (.slice Ao13 y756.length co13) x6_1) ∧ Aside0 (w'.heap[gb751]? = some (.cells #[(.slice (some ad752) l0_0.length c0_0)] 44 (0, 0))) ∧ Aside0 (Below w.heap.size w w'))
       case atStart => exact ⟨(y756), (0), (by first | rfl | (simp; done) | (simp [*]; done)), H', ⟨Nat.le_refl _⟩, ⟨re_ HO755.out⟩, ⟨re_ HO758.out⟩, ⟨be_ BK751.out⟩, ⟨by repeat (first | (with_reducible first | exact HB.out | apply below_alloc | apply pw_below_drewN | apply below_drew1 | refine below_set ?_ GE751.out) | exact HB.out)⟩⟩
       case round =>
        clear H'
        try clear p2
        try clear c3
        try clear c3b0
        try clear c3b1
        try clear c6
        try clear c6b0
        try clear c6b1
        try clear p6
        try clear c7
        try clear c7b0
        try clear c7b1
        try clear p7
        try clear q7
        try clear hx7
        try clear qi7
        try clear c9
        try clear hx752_0
        try clear p752
        try clear q752
        obtain ⟨x6_1, x20_1, rfl, HA, HK1, HO_5, HO_6, BK751, HB⟩ := hrel
        have hl6_1 := (Kd.R_reads' HO_6.out).1
        rw [hl6_1] at HO_6
        (try simp only [hl6_1])
        (try simp only [hl6_1] at BK751)
        (try simp only [hl6_1] at HO_5)
        cases gk with
        | zero => exact absurd HA.out (by simp [impl_table.l0])
        | succ k1 =>
         have H := HA.out
         clear HA
         simp only [impl_table.l0] at H
         by_cases c14 : x20_1 < (y756.length : Int)
         · rw [if_pos c14] at H
           have c14b0 : decide (x20_1 < (y756.length : Int)) = true := decide_eq_true c14
           (try (have c14h := c14b0; simp only [hl6_1] at c14h))
           clear c14
           by_cases c15 : 0 < (l0_0.length : Int)
           · rw [if_pos c15] at H
             have c15b0 : decide (0 < (l0_0.length : Int)) = true := decide_eq_true c15
             have c15b1 : decide (0 < l0_0.length) = true := decide_eq_true (by omega)
             (try (have c15h := c15b0; simp only [hl6_1] at c15h))
             clear c15
             by_cases c16 : (rd l0_0 0) = 0
             · rw [if_pos c16] at H
               exact absurd H (by simp)
             · rw [if_neg c16] at H
               have c16b0 : ((rd l0_0 0) == 0) = false := beq_eq_false_iff_ne.mpr c16
               have c16b1 : ((rd l0_0 0) != 0) = true := bne_iff_ne.mpr c16
               obtain ⟨ji17, hji17⟩ : ∃ j_ : Int, (Int.tmod x20_1 (rd l0_0 0)) = j_ := ⟨_, rfl⟩
               replace H : (if 0 ≤ (ji17) then (if (ji17) < (t753.length : Int) then (if 0 ≤ x20_1 then (if x20_1 < (x6_1.length : Int) then (impl_table.l0 k1 t753 (x6_1.set (x20_1 : Int).toNat (decide ((rd t753 (ji17)) ≤ x20_1))) (y756.length : Int) (wrap64 (x20_1 + 1)) l0_0) else (none)) else (none)) else (none)) else (none)) = some r := by first | (rw [hji17] at H; exact H) | (simp only [hji17] at H ⊢; exact H)
               by_cases c18 : 0 ≤ (ji17)
               · rw [if_pos c18] at H
                 have c18b0 : decide (0 ≤ (ji17)) = true := decide_eq_true c18
                 clear c18
                 by_cases c19 : (ji17) < (t753.length : Int)
                 · rw [if_pos c19] at H
                   have c19b0 : decide ((ji17) < (t753.length : Int)) = true := decide_eq_true c19
                   (try (have c19h := c19b0; simp only [hl6_1] at c19h))
                   clear c19
                   by_cases c20 : 0 ≤ x20_1
                   · rw [if_pos c20] at H
                     have c20b0 : decide (0 ≤ x20_1) = true := decide_eq_true c20
                     clear c20
                     by_cases c21 : x20_1 < (x6_1.length : Int)
                     · rw [if_pos c21] at H
                       have c21b0 : decide (x20_1 < (x6_1.length : Int)) = true := decide_eq_true c21
                       (try (have c21h := c21b0; simp only [hl6_1] at c21h))
                       clear c21
                       obtain ⟨y761, hy761⟩ : ∃ y_ : List Bool, y_ = (x6_1.set (x20_1 : Int).toNat (decide ((rd t753 (ji17)) ≤ x20_1))) := ⟨_, rfl⟩
                       replace H : (impl_table.l0 k1 t753 y761 (y756.length : Int) (wrap64 (x20_1 + 1)) l0_0) = some r := by first | (rw [hy761]; with_reducible exact H) | (have H2_ := (Option.bind_some _ _).symm.trans H; rw [hy761]; with_reducible exact H2_) | (have H2_ := (Option.bind_some _ _).symm.trans H; with_reducible exact H2_) | with_reducible exact H | (rw [hy761]; exact H) | exact H
                       have Ny761 := Aside0.mk hy761
                       clear hy761
                       as_aux_lemma =>
                        have H' := Aside0.mk H
                        clear H
                        have hcz23_0 : wr.cell? ⟨gb751, 0, none⟩ = some (.slice (some ad752) l0_0.length c0_0) := (blk_cell BK751.out 0).trans rfl
                        have hfz23_0 := blk_frozen BK751.out 0
                        have p759 : 0 ≤ (0 : Int) := (by omega)
                        have q759 : 0 < (l0_0.length : Int) := of_decide_eq_true (by first | (with_reducible assumption) | assumption)
                        obtain ⟨ad759, e759, hx759_0⟩ := Kd.at_int HR0_0.out 0 p759 q759
                        obtain rfl : ad752 = ad759 := (by injection e759)
                        have qi759 : (0 < l0_0.length) = True := eq_true (by omega)
                        (try rw [show ((0 : Int)).toNat = 0 from rfl] at hx759_0)
                        (try rw [Addr.add_zero'] at hx759_0)
                        (try replace hx759_0 := (HB.out.cell (World.block_lt_of_cell? w _ hx759_0)).trans hx759_0)
                        replace p759 := eq_true p759
                        replace q759 := eq_true q759
                        obtain ⟨Ao24, co24, eo24⟩ := Kd.R_slice HO_5.out
                        subst eo24
                        have p760 : 0 ≤ ((ji17) : Int) := of_decide_eq_true (by first | (with_reducible assumption) | assumption)
                        have q760 : (ji17) < (t753.length : Int) := of_decide_eq_true (by first | (with_reducible assumption) | assumption)
                        obtain ⟨ad760, e760, hx760_0⟩ := Kd.at_int (Kd.R_reads' HO_5.out).2.2 (ji17) p760 q760
                        cases e760
                        replace p760 := eq_true p760
                        replace q760 := eq_true q760
                        have p22 : 0 ≤ (x20_1 : Int) := of_decide_eq_true (by first | (with_reducible assumption) | assumption)
                        have q22 : (x20_1 : Int) < ((x6_1.length : Int) : Int) := of_decide_eq_true (by first | (with_reducible assumption) | assumption)
                        obtain ⟨go22, co22, eo22, gb22, gl22, cl22, HG22⟩ := Kd.R_form HO_6.out (by omega)
                        (first | cases eo22 | (injection eo22 with ea_ en_ ec_; (first | subst ea_ | (injection ea_ with ea_; subst ea_)); subst ec_; clear en_))
                        have GB22 := Aside0.mk gb22
                        have GG22 := Aside0.mk HG22
                        clear gb22 gl22 HG22
                        obtain ⟨hx22_0, hf22_0⟩ := Kd.R_celln false HO_6.out (x20_1 : Int) p22 q22
                        replace p22 := eq_true p22
                        replace q22 := eq_true q22
                        have HP25 := Kd.R_putg HO_6.out (x20_1 : Int) (decide ((rd t753 (ji17)) ≤ x20_1))
                        go_wp2_with (first | ((with_reducible refine gate_store (t := 4) (p := 36) rfl ?_); refine store_event (t := 4) (p := 36) (v := ?vo_w26) (w1 := (wr.setCell ⟨go22, (x20_1 : Int).toNat, none⟩ (.bool (decide ((rd t753 (ji17)) ≤ x20_1))))) ?hg ?ho ?hn ?hr ?_; (case ho => rfl); (case hg => rfl); (case hn => rfl); (case hr => first | (go_simp; done) | (go_simp; rfl)); intro w26 hw; have hg : wr.grownBy w26 (some go22) := (by rw [hw]; exact HP25.2); have hp_ : Kd.R Kd.bool 4 w26 w.heap.size (fun _ => True) (.slice (some ⟨go22, 0, none⟩) x6_1.length co13) y761 := (by rw [hw, Ny761.out]; exact HP25.1); clear HP25; have n0_ := Aside0.mk (Kd.R_over' (v := (.slice (some ⟨go22, 0, none⟩) x6_1.length co13)) (re_ HO_5.out) (Kd.R_typed HO_6.out) (by decide) hg); have n1_ := Aside0.mk (hp_); have n2_ := Aside0.mk (blk_grown (g := gb751) (o := .cells #[.slice (some ad752) l0_0.length c0_0] 44 (0, 0)) (be_ BK751.out) hg (Kd.R_ne HO_6.out BK751.out (by decide))); have n3_ := Aside0.mk ((by rw [hw]; exact below_set (HB.out) GB22.out : Below w.heap.size w w26)); clear HO_5; clear HO_6; clear BK751; clear HB; have HO_5 := n0_; have HO_6 := n1_; have BK751 := n2_; have HB := n3_; clear n0_ n1_ n2_ n3_; clear hg hw hp_))
                        (try simp only [← hl6_1])
                        go_roundg k1
                        case measure => have := HK1.out; omega
                        case rel => exact ⟨(y761), (wrap64 (x20_1 + 1)), (by first | rfl | (simp; done) | (simp [*]; done)), H', ⟨by have := HK1.out; omega⟩, ⟨by (try simp only [hl6_1]); (with_reducible repeat (first | apply Kd.R_alloc | apply Kd.R_drewN | apply Kd.R_drew)); exact HO_5.out⟩, ⟨by (try simp only [hl6_1]); (with_reducible repeat (first | apply Kd.R_alloc | apply Kd.R_drewN | apply Kd.R_drew)); exact HO_6.out⟩, ⟨by (try simp only [hl6_1]); (with_reducible repeat (first | refine blk_drewN ?_ _ | refine blk_drew ?_ | refine blk_alloc ?_ _)); exact BK751.out⟩, ⟨by repeat (first | (with_reducible first | exact HB.out | apply below_alloc | apply pw_below_drewN | apply below_drew1 | refine below_set ?_ GE751.out) | exact HB.out)⟩⟩
                     · rw [if_neg c21] at H
                       exact absurd H (by simp)
                   · rw [if_neg c20] at H
                     exact absurd H (by simp)
                 · rw [if_neg c19] at H
                   exact absurd H (by simp)
               · rw [if_neg c18] at H
                 exact absurd H (by simp)
           · rw [if_neg c15] at H
             exact absurd H (by simp)
         · rw [if_neg c14] at H
           have c14b0 : decide (x20_1 < (y756.length : Int)) = false := decide_eq_false c14
           (try (have c14h := c14b0; simp only [hl6_1] at c14h))
           clear c14
           as_aux_lemma =>
            obtain rfl := Option.some.inj H
            go_wp2
            go_ret
            exact ⟨_, by first | rfl | (simp [errW_none, errW_some] <;> rfl) | (simp only [← hji5]; first | rfl | (simp [errW_none, errW_some] <;> rfl)) | (simp [*, errW_none, errW_some] <;> rfl), re_ HO_6.out, by repeat (first | (with_reducible first | exact HB.out | apply below_alloc | apply pw_below_drewN | apply below_drew1 | refine below_set ?_ GE751.out) | exact HB.out)⟩
     · rw [if_neg c7] at H
       exact absurd H (by simp)
   · rw [if_neg c6] at H
     exact absurd H (by simp)
 · rw [if_neg c3] at H
   exact absurd H (by simp)
def impl_Gaps.l0 : Nat → List Int → List Bool → Int → Int → Option (List Int)
 | 0, _, _, _, _ => none
 | k + 1, x3, x11, x12, x13 => if x13 < x12 then (if 0 ≤ x13 then (if x13 < (x11.length : Int) then (if rdOf false x11 x13 = true then (impl_Gaps.l0 k x3 x11 x12 (wrap64 (x13 + 1))) else (if x3.length < 17592186044416 then (impl_Gaps.l0 k (x3 ++ [x13]) x11 x12 (wrap64 (x13 + 1))) else (none))) else (none)) else (none)) else (some x3)
def impl_Gaps.f (k : Nat) (l0_0 : List Int) : Option (List Int) := (impl_IsSemigroup.f k l0_0).bind fun t763 => (if t763 = true then ((impl_table.f k l0_0 200).bind fun t767 => (impl_Gaps.l0 k (([] : List Int)) t767 (t767.length : Int) 0)) else (some ([] : List Int)))
set_option maxHeartbeats 8000000 in
set_option maxRecDepth 100000 in
theorem impl_Gaps.calls (k : Nat) (A0_0 : Option Addr) (c0_0 : Nat) (l0_0 : List Int) (r : List Int) (w : World) (hr0_0 : Kd.C (Kd.int .i64) w A0_0 l0_0.length l0_0) (hc0_0 : l0_0.length ≤ c0_0) (h : impl_Gaps.f k l0_0 = some r) :
 Calls Try.prog 87 #[.agg #[.slice A0_0 l0_0.length c0_0]] w fun e w' => ∃ v0_ : Value, e = .returned (v0_) ∧ Kd.R (Kd.int .i64) 3 w' w.heap.size (fun _ => True) v0_ r ∧ Below w.heap.size w w' := by
 have hu44 := Try.underlying44
 have HR0_0 := Aside0.mk hr0_0
 have HC0_0 := Aside0.mk hc0_0
 clear hr0_0 hc0_0
 have HB := Aside0.mk (Below.refl w.heap.size w)
 have H : ((impl_IsSemigroup.f k l0_0).bind fun t763 => (if t763 = true then ((impl_table.f k l0_0 200).bind fun t767 => (impl_Gaps.l0 k (([] : List Int)) t767 (t767.length : Int) 0)) else (some ([] : List Int)))) = some r := h
 clear h
 replace H := Option.bind_eq_some_iff.mp H
 obtain ⟨t763, A20, H⟩ := H
 replace H : (if t763 = true then ((impl_table.f k l0_0 200).bind fun t767 => (impl_Gaps.l0 k (([] : List Int)) t767 (t767.length : Int) 0)) else (some ([] : List Int))) = some r := H
 have A2 := Aside0.mk A20
 clear A20
 by_cases c3 : t763 = true
 · subst c3
   have H1 : ((impl_table.f k l0_0 200).bind fun t767 => (impl_Gaps.l0 k (([] : List Int)) t767 (t767.length : Int) 0)) = some r := by rw [if_pos rfl] at H; exact H
   clear H
   have H := H1
   clear H1
   obtain ⟨y764, hy764⟩ : ∃ y_ : List Int, y_ = (([] : List Int)) := ⟨_, rfl⟩
   replace H : ((impl_table.f k l0_0 200).bind fun t767 => (impl_Gaps.l0 k y764 t767 (t767.length : Int) 0)) = some r := by first | (rw [hy764]; with_reducible exact H) | (have H2_ := (Option.bind_some _ _).symm.trans H; rw [hy764]; with_reducible exact H2_) | (have H2_ := (Option.bind_some _ _).symm.trans H; with_reducible exact H2_) | with_reducible exact H | (rw [hy764]; exact H) | exact H
   have Ny764 := Aside0.mk hy764
   clear hy764
   replace H := Option.bind_eq_some_iff.mp H
   obtain ⟨t767, A40, H⟩ := H
   replace H : (impl_Gaps.l0 k y764 t767 (t767.length : Int) 0) = some r := H
   have A4 := Aside0.mk A40
   clear A40
   have H' := Aside0.mk H
   clear H
   go_enter Try.func87, Try.ntmps87
   go_wp2_with (first | ((with_reducible refine gate_dst (N := 1) rfl ?_); refine box_event ?hg (N := 1) ?hd (cs := #[.slice A0_0 l0_0.length c0_0]) (t := 44) ?hr ?_; (case hd => rfl); (case hg => rfl); (case hr => first | (go_simp; done) | (go_simp; rfl)); intro gb762 hg w5 hbox hb; have n0_ := Aside0.mk (below_step (bl_ HB.out) hb); have n1_ := Aside0.mk (hbox); have n2_ := Aside0.mk ((by rw [hg]; exact (below_size (bl_ HB.out)) : w.heap.size ≤ gb762)); have n3_ := Aside0.mk ((by rw [hg]; exact (below_size (bl_ HB.out)) : w.heap.size ≤ gb762)); clear HB; have HB := n0_; have BK762 := n1_; have GW762 := n2_; have GE762 := n3_; clear n0_ n1_ n2_ n3_; clear hb hbox hg; have hcz6_0 : w5.cell? ⟨gb762, 0, none⟩ = some (.slice A0_0 l0_0.length c0_0) := (blk_cell BK762.out 0).trans rfl; have hfz6_0 := blk_frozen BK762.out 0) | ((with_reducible refine gate_callee (f := 57) rfl ?_); refine goesL_ (some 7) rfl rfl Try.func57 (by kernel_rfl) rfl #[.agg #[.slice A0_0 l0_0.length c0_0]] rfl (by (try simp only [List.map_toArray, List.map_cons, List.map_nil]); first | done | rfl | (simp only [List.length_drop, List.length_take]; rfl)) ?_; (with_reducible refine (impl_IsSemigroup.calls k _ _ l0_0 true _ ?side1 ?side2 A2.out).mono ?_); (case side1 => exact ce_ ((Kd.C_below HR0_0.out HB.out))); (case side2 => exact HC0_0.out); rintro e w7 ⟨rfl, hb⟩; refine ⟨_, rfl, ?_⟩; have n0_ := Aside0.mk (blk_below (g := gb762) (o := .cells #[.slice A0_0 l0_0.length c0_0] 44 (0, 0)) (be_ BK762.out) hb); have n1_ := Aside0.mk (below_step (by repeat (first | (with_reducible first | exact HB.out | apply below_alloc | apply pw_below_drewN | apply below_drew1 | refine below_set ?_ GE762.out) | exact HB.out)) hb); clear BK762; clear HB; have BK762 := n0_; have HB := n1_; clear n0_ n1_; (try clear hb); (try clear hb2); (try clear hk); (try clear hi)) | ((with_reducible refine gate_dst (N := 9) rfl ?_); refine Kd.R_lit (Kd.int .i64) _ 3 ?hg (N := 9) ?hd (xs := ([] : List Int)) (inner := []) (ok := fun _ => True) (okp := fun _ => True) ?hr ?hp (fun _ hk => hk) trivial (Below.refl _ _) (Nat.le_refl _) (by simp) ?_; (case hd => rfl); (case hg => rfl); (case hr => first | (go_simp; done) | (go_simp; rfl)); (case hp => exact (Reps.none _ _)); intro v765 w8 ho9 hb hg_ hnew_; clear hg_ hnew_; (first | rw [← Ny764.out] at ho9 | (simp only [Int.reduceToNat] at ho9; rw [← Ny764.out] at ho9)); have n0_ := Aside0.mk (Kd.R_lower ho9 (below_size (by repeat (first | (with_reducible first | exact HB.out | apply below_alloc | apply pw_below_drewN | apply below_drew1 | refine below_set ?_ GE762.out) | exact HB.out)))); have n1_ := Aside0.mk (blk_below (g := gb762) (o := .cells #[.slice A0_0 l0_0.length c0_0] 44 (0, 0)) (be_ BK762.out) hb); have n2_ := Aside0.mk (below_step (by repeat (first | (with_reducible first | exact HB.out | apply below_alloc | apply pw_below_drewN | apply below_drew1 | refine below_set ?_ GE762.out) | exact HB.out)) hb); clear BK762; clear HB; have HO766 := n0_; have BK762 := n1_; have HB := n2_; clear n0_ n1_ n2_; clear hb ho9; have hcz10_0 : w8.cell? ⟨gb762, 0, none⟩ = some (.slice A0_0 l0_0.length c0_0) := (blk_cell BK762.out 0).trans rfl; have hfz10_0 := blk_frozen BK762.out 0) | ((with_reducible refine gate_callee (f := 93) rfl ?_); refine goesL_ (some 11) rfl rfl Try.func93 (by kernel_rfl) rfl #[.agg #[.slice A0_0 l0_0.length c0_0], .int .i64 200] rfl (by (try simp only [List.map_toArray, List.map_cons, List.map_nil]); first | done | rfl | (simp only [List.length_drop, List.length_take]; rfl)) ?_; (with_reducible refine (impl_table.calls k _ _ l0_0 200 t767 _ ?side1 ?side2 A4.out).mono ?_); (case side1 => exact ce_ ((Kd.C_below HR0_0.out HB.out))); (case side2 => exact HC0_0.out); rintro e w11 ⟨v768, rfl, ho0, hb⟩; refine ⟨_, rfl, ?_⟩; have n0_ := Aside0.mk (Kd.R_below (re_ HO766.out) hb); have n1_ := Aside0.mk (Kd.R_lower ho0 (below_size (by repeat (first | (with_reducible first | exact HB.out | apply below_alloc | apply pw_below_drewN | apply below_drew1 | refine below_set ?_ GE762.out) | exact HB.out)))); have n2_ := Aside0.mk (blk_below (g := gb762) (o := .cells #[.slice A0_0 l0_0.length c0_0] 44 (0, 0)) (be_ BK762.out) hb); have n3_ := Aside0.mk (below_step (by repeat (first | (with_reducible first | exact HB.out | apply below_alloc | apply pw_below_drewN | apply below_drew1 | refine below_set ?_ GE762.out) | exact HB.out)) hb); clear HO766; clear BK762; clear HB; have HO766 := n0_; have HO769 := n1_; have BK762 := n2_; have HB := n3_; clear n0_ n1_ n2_ n3_; (try clear hb); (try clear hb2); (try clear hk); (try clear hi); (try clear ho0); obtain ⟨Ao12, co12, eo12⟩ := Kd.R_slice HO769.out; subst eo12))
   go_loopg [3, 13] k (fun kq v3 v13 w' => ∃ (x3_1 : List Int) (x13_1 : Int), v13 = .int .i64 x13_1 ∧ Aside0 (impl_Gaps.l0 kq x3_1 t767 (t767.length : Int) x13_1 = some r) ∧ Aside0 (kq ≤ k) ∧ Aside0 (Kd.R (Kd.int .i64) 3 w' w.heap.size (fun _ => True) v3 x3_1) ∧ Aside0 (Kd.R Kd.bool 4 w' w.heap.size (fun _ => True) (.slice Ao12 t767.length co12) t767) ∧ Aside0 (w'.heap[gb762]? = some (.cells #[(.slice A0_0 l0_0.length c0_0)] 44 (0, 0))) ∧ Aside0 (Below w.heap.size w w'))
   case atStart => exact ⟨(y764), (0), (by first | rfl | (simp; done) | (simp [*]; done)), H', ⟨Nat.le_refl _⟩, ⟨re_ HO766.out⟩, ⟨re_ HO769.out⟩, ⟨be_ BK762.out⟩, ⟨by repeat (first | (with_reducible first | exact HB.out | apply below_alloc | apply pw_below_drewN | apply below_drew1 | refine below_set ?_ GE762.out) | exact HB.out)⟩⟩
   case round =>
    clear H'
    try clear p2
    try clear c3
    try clear c5
    try clear c8
    try clear c9
    try clear hcz10_0
    try clear hcz6_0
    try clear hfz10_0
    try clear hfz6_0
    obtain ⟨x3_1, x13_1, rfl, HA, HK1, HO_3, HO_11, BK762, HB⟩ := hrel
    cases gk with
    | zero => exact absurd HA.out (by simp [impl_Gaps.l0])
    | succ k1 =>
     have H := HA.out
     clear HA
     simp only [impl_Gaps.l0] at H
     by_cases c13 : x13_1 < (t767.length : Int)
     · rw [if_pos c13] at H
       have c13b0 : decide (x13_1 < (t767.length : Int)) = true := decide_eq_true c13
       clear c13
       by_cases c14 : 0 ≤ x13_1
       · rw [if_pos c14] at H
         have c14b0 : decide (0 ≤ x13_1) = true := decide_eq_true c14
         clear c14
         by_cases c15 : x13_1 < (t767.length : Int)
         · rw [if_pos c15] at H
           have c15b0 : decide (x13_1 < (t767.length : Int)) = true := decide_eq_true c15
           clear c15
           obtain ⟨bq16, hbq16⟩ : ∃ b_ : Bool, b_ = (rdOf false t767 x13_1) := ⟨_, rfl⟩
           replace H : (if bq16 = true then (impl_Gaps.l0 k1 x3_1 t767 (t767.length : Int) (wrap64 (x13_1 + 1))) else (if x3_1.length < 17592186044416 then (impl_Gaps.l0 k1 (x3_1 ++ [x13_1]) t767 (t767.length : Int) (wrap64 (x13_1 + 1))) else (none))) = some r := by rw [← hbq16] at H; exact H
           have Nbq16 := Aside0.mk hbq16
           clear hbq16
           by_cases c17 : bq16 = true
           · subst c17
             have H1 : (impl_Gaps.l0 k1 x3_1 t767 (t767.length : Int) (wrap64 (x13_1 + 1))) = some r := by rw [if_pos rfl] at H; exact H
             clear H
             have H := H1
             clear H1
             as_aux_lemma =>
              have H' := Aside0.mk H
              clear H
              have p770 : 0 ≤ (x13_1 : Int) := of_decide_eq_true (by first | (with_reducible assumption) | assumption)
              have q770 : x13_1 < (t767.length : Int) := of_decide_eq_true (by first | (with_reducible assumption) | assumption)
              obtain ⟨ad770, e770, hx770_0⟩ := Kd.at_bool (Kd.R_reads' HO_11.out).2.2 x13_1 p770 q770
              (try rw [← Nbq16.out] at hx770_0)
              cases e770
              replace p770 := eq_true p770
              replace q770 := eq_true q770
              go_wp2
              go_roundg k1
              case measure => have := HK1.out; omega
              case rel => exact ⟨(x3_1), (wrap64 (x13_1 + 1)), (by first | rfl | (simp; done) | (simp [*]; done)), H', ⟨by have := HK1.out; omega⟩, ⟨re_ HO_3.out⟩, ⟨re_ HO_11.out⟩, ⟨be_ BK762.out⟩, ⟨by repeat (first | (with_reducible first | exact HB.out | apply below_alloc | apply pw_below_drewN | apply below_drew1 | refine below_set ?_ GE762.out) | exact HB.out)⟩⟩
           · replace c17 := Bool.eq_false_iff.mpr c17
             subst c17
             have H1 : (if x3_1.length < 17592186044416 then (impl_Gaps.l0 k1 (x3_1 ++ [x13_1]) t767 (t767.length : Int) (wrap64 (x13_1 + 1))) else (none)) = some r := by rw [if_neg (show ¬ (false = true) by decide)] at H; exact H
             clear H
             have H := H1
             clear H1
             by_cases c18 : x3_1.length < 17592186044416
             · rw [if_pos c18] at H
               have LMc18 := Aside0.mk c18
               clear c18
               obtain ⟨y771, hy771⟩ : ∃ y_ : List Int, y_ = (x3_1 ++ [x13_1]) := ⟨_, rfl⟩
               replace H : (impl_Gaps.l0 k1 y771 t767 (t767.length : Int) (wrap64 (x13_1 + 1))) = some r := by first | (rw [hy771]; with_reducible exact H) | (have H2_ := (Option.bind_some _ _).symm.trans H; rw [hy771]; with_reducible exact H2_) | (have H2_ := (Option.bind_some _ _).symm.trans H; with_reducible exact H2_) | with_reducible exact H | (rw [hy771]; exact H) | exact H
               have Ny771 := Aside0.mk hy771
               clear hy771
               as_aux_lemma =>
                have H' := Aside0.mk H
                clear H
                have p770 : 0 ≤ (x13_1 : Int) := of_decide_eq_true (by first | (with_reducible assumption) | assumption)
                have q770 : x13_1 < (t767.length : Int) := of_decide_eq_true (by first | (with_reducible assumption) | assumption)
                obtain ⟨ad770, e770, hx770_0⟩ := Kd.at_bool (Kd.R_reads' HO_11.out).2.2 x13_1 p770 q770
                (try rw [← Nbq16.out] at hx770_0)
                cases e770
                replace p770 := eq_true p770
                replace q770 := eq_true q770
                go_wp2_with (first | ((with_reducible refine gate_builtin (b := .append) (xs := #[.tmp 20, .tmp 22]) rfl ?_); at_builtin; refine Kd.R_append (Kd.int .i64) (w0 := w) w.heap.size rfl (.tmp 20) (.tmp 22) 22 3 (.int .i64 0) 8 rfl Try.underlying22 info3 rfl (by decide) (by omega) u3 x3_1 x13_1 [.int .i64 x13_1] (fun _ => True) (fun _ => False) rfl rfl ?aP (fun _ hk => hk.elim) ?aF ?aO ?aB ?aS ?aL ?_; (case aP => exact rfl); (case aB => exact (by repeat (first | (with_reducible first | exact HB.out | apply below_alloc | apply pw_below_drewN | apply below_drew1 | refine below_set ?_ GE762.out) | exact HB.out))); (case aF => exact (fun _ _ => trivial)); (case aO => exact (re_ HO_3.out)); (case aS => exact (below_size (by repeat (first | (with_reducible first | exact HB.out | apply below_alloc | apply pw_below_drewN | apply below_drew1 | refine below_set ?_ GE762.out) | exact HB.out)))); (case aL => have := LMc18.out; omega); intro v772 w19 ho hb hg hat; rw [← Ny771.out] at ho; have n0_ := Aside0.mk (Kd.R_over' (re_ HO_11.out) (Kd.R_typed (re_ HO_3.out)) (by decide) hg); have n1_ := Aside0.mk (blk_grown (g := gb762) (o := .cells #[.slice A0_0 l0_0.length c0_0] 44 (0, 0)) (be_ BK762.out) hg (Kd.R_ne HO_3.out BK762.out (by decide))); have n2_ := Aside0.mk (hb); have n3_ := Aside0.mk (ho); clear HO_11; clear BK762; clear HB; clear HO_3; have HO_11 := n0_; have BK762 := n1_; have HB := n2_; have HO773 := n3_; clear n0_ n1_ n2_ n3_; clear ho hb hg hat))
                go_roundg k1
                case measure => have := HK1.out; omega
                case rel => exact ⟨(y771), (wrap64 (x13_1 + 1)), (by first | rfl | (simp; done) | (simp [*]; done)), H', ⟨by have := HK1.out; omega⟩, ⟨re_ HO773.out⟩, ⟨re_ HO_11.out⟩, ⟨be_ BK762.out⟩, ⟨by repeat (first | (with_reducible first | exact HB.out | apply below_alloc | apply pw_below_drewN | apply below_drew1 | refine below_set ?_ GE762.out) | exact HB.out)⟩⟩
             · rw [if_neg c18] at H
               exact absurd H (by simp)
         · rw [if_neg c15] at H
           exact absurd H (by simp)
       · rw [if_neg c14] at H
         exact absurd H (by simp)
     · rw [if_neg c13] at H
       have c13b0 : decide (x13_1 < (t767.length : Int)) = false := decide_eq_false c13
       clear c13
       as_aux_lemma =>
        obtain rfl := Option.some.inj H
        go_wp2
        go_ret
        exact ⟨_, by first | rfl | (simp [errW_none, errW_some] <;> rfl) | (simp [*, errW_none, errW_some] <;> rfl), re_ HO_3.out, by repeat (first | (with_reducible first | exact HB.out | apply below_alloc | apply pw_below_drewN | apply below_drew1 | refine below_set ?_ GE762.out) | exact HB.out)⟩
 · replace c3 := Bool.eq_false_iff.mpr c3
   subst c3
   have H1 : (some ([] : List Int)) = some r := by rw [if_neg (show ¬ (false = true) by decide)] at H; exact H
   clear H
   have H := H1
   clear H1
   as_aux_lemma =>
    obtain rfl := Option.some.inj H
    go_enter Try.func87, Try.ntmps87
    go_wp2_with (first | ((with_reducible refine gate_dst (N := 1) rfl ?_); refine box_event ?hg (N := 1) ?hd (cs := #[.slice A0_0 l0_0.length c0_0]) (t := 44) ?hr ?_; (case hd => rfl); (case hg => rfl); (case hr => first | (go_simp; done) | (go_simp; rfl)); intro gb762 hg w20 hbox hb; have n0_ := Aside0.mk (below_step (bl_ HB.out) hb); have n1_ := Aside0.mk (hbox); have n2_ := Aside0.mk ((by rw [hg]; exact (below_size (bl_ HB.out)) : w.heap.size ≤ gb762)); have n3_ := Aside0.mk ((by rw [hg]; exact (below_size (bl_ HB.out)) : w.heap.size ≤ gb762)); clear HB; have HB := n0_; have BK762 := n1_; have GW762 := n2_; have GE762 := n3_; clear n0_ n1_ n2_ n3_; clear hb hbox hg; have hcz21_0 : w20.cell? ⟨gb762, 0, none⟩ = some (.slice A0_0 l0_0.length c0_0) := (blk_cell BK762.out 0).trans rfl; have hfz21_0 := blk_frozen BK762.out 0) | ((with_reducible refine gate_callee (f := 57) rfl ?_); refine goesL_ (some 7) rfl rfl Try.func57 (by kernel_rfl) rfl #[.agg #[.slice A0_0 l0_0.length c0_0]] rfl (by (try simp only [List.map_toArray, List.map_cons, List.map_nil]); first | done | rfl | (simp only [List.length_drop, List.length_take]; rfl)) ?_; (with_reducible refine (impl_IsSemigroup.calls k _ _ l0_0 false _ ?side1 ?side2 A2.out).mono ?_); (case side1 => exact ce_ ((Kd.C_below HR0_0.out HB.out))); (case side2 => exact HC0_0.out); rintro e w22 ⟨rfl, hb⟩; refine ⟨_, rfl, ?_⟩; have n0_ := Aside0.mk (blk_below (g := gb762) (o := .cells #[.slice A0_0 l0_0.length c0_0] 44 (0, 0)) (be_ BK762.out) hb); have n1_ := Aside0.mk (below_step (by repeat (first | (with_reducible first | exact HB.out | apply below_alloc | apply pw_below_drewN | apply below_drew1 | refine below_set ?_ GE762.out) | exact HB.out)) hb); clear BK762; clear HB; have BK762 := n0_; have HB := n1_; clear n0_ n1_; (try clear hb); (try clear hb2); (try clear hk); (try clear hi)))
    go_ret
    exact ⟨_, by first | rfl | (simp [errW_none, errW_some] <;> rfl) | (simp [*, errW_none, errW_some] <;> rfl), by first | exact Kd.R_nil _ _ _ _ _ | exact Kd.N_nil _ _ _ _ _ | exact Kd.V_nil _ _ _ _ _ | exact Kd.Q_nil _ _ _ _ _ | exact Kd.S_nil _ _ _ _ _, by repeat (first | (with_reducible first | exact HB.out | apply below_alloc | apply pw_below_drewN | apply below_drew1 | refine below_set ?_ GE762.out) | exact HB.out)⟩
def impl_FrobeniusOf.f (k : Nat) (l0_0 : List Int) : Option (Int) := (impl_Gaps.f k l0_0).bind fun t775 => (if (t775.length : Int) = 0 then (some (-1)) else (if 0 ≤ (wrap64 ((t775.length : Int) - 1)) then (if (wrap64 ((t775.length : Int) - 1)) < (t775.length : Int) then (some (rd t775 (wrap64 ((t775.length : Int) - 1)))) else (none)) else (none)))
set_option maxHeartbeats 8000000 in
set_option maxRecDepth 100000 in
theorem impl_FrobeniusOf.calls (k : Nat) (A0_0 : Option Addr) (c0_0 : Nat) (l0_0 : List Int) (r : Int) (w : World) (hr0_0 : Kd.C (Kd.int .i64) w A0_0 l0_0.length l0_0) (hc0_0 : l0_0.length ≤ c0_0) (h : impl_FrobeniusOf.f k l0_0 = some r) :
 Calls Try.prog 69 #[.agg #[.slice A0_0 l0_0.length c0_0]] w fun e w' => e = .returned (.int .i64 r) ∧ Below w.heap.size w w' := by
 have hu44 := Try.underlying44
 have HR0_0 := Aside0.mk hr0_0
 have HC0_0 := Aside0.mk hc0_0
 clear hr0_0 hc0_0
 have HB := Aside0.mk (Below.refl w.heap.size w)
 have H : ((impl_Gaps.f k l0_0).bind fun t775 => (if (t775.length : Int) = 0 then (some (-1)) else (if 0 ≤ (wrap64 ((t775.length : Int) - 1)) then (if (wrap64 ((t775.length : Int) - 1)) < (t775.length : Int) then (some (rd t775 (wrap64 ((t775.length : Int) - 1)))) else (none)) else (none)))) = some r := h
 clear h
 replace H := Option.bind_eq_some_iff.mp H
 obtain ⟨t775, A20, H⟩ := H
 replace H : (if (t775.length : Int) = 0 then (some (-1)) else (if 0 ≤ (wrap64 ((t775.length : Int) - 1)) then (if (wrap64 ((t775.length : Int) - 1)) < (t775.length : Int) then (some (rd t775 (wrap64 ((t775.length : Int) - 1)))) else (none)) else (none))) = some r := H
 have A2 := Aside0.mk A20
 clear A20
 by_cases c3 : (t775.length : Int) = 0
 · rw [if_pos c3] at H
   have c3b0 : ((t775.length : Int) == 0) = true := beq_iff_eq.mpr c3
   have c3b1 : ((t775.length : Int) != 0) = false := bne_eq_false_iff_eq.mpr c3
   clear c3
   as_aux_lemma =>
    obtain rfl := Option.some.inj H
    go_enter Try.func69, Try.ntmps69
    go_wp2_with (first | ((with_reducible refine gate_dst (N := 1) rfl ?_); refine box_event ?hg (N := 1) ?hd (cs := #[.slice A0_0 l0_0.length c0_0]) (t := 44) ?hr ?_; (case hd => rfl); (case hg => rfl); (case hr => first | (go_simp; done) | (go_simp; rfl)); intro gb774 hg w4 hbox hb; have n0_ := Aside0.mk (below_step (bl_ HB.out) hb); have n1_ := Aside0.mk (hbox); have n2_ := Aside0.mk ((by rw [hg]; exact (below_size (bl_ HB.out)) : w.heap.size ≤ gb774)); have n3_ := Aside0.mk ((by rw [hg]; exact (below_size (bl_ HB.out)) : w.heap.size ≤ gb774)); clear HB; have HB := n0_; have BK774 := n1_; have GW774 := n2_; have GE774 := n3_; clear n0_ n1_ n2_ n3_; clear hb hbox hg; have hcz5_0 : w4.cell? ⟨gb774, 0, none⟩ = some (.slice A0_0 l0_0.length c0_0) := (blk_cell BK774.out 0).trans rfl; have hfz5_0 := blk_frozen BK774.out 0) | ((with_reducible refine gate_callee (f := 87) rfl ?_); refine goesL_ (some 5) rfl rfl Try.func87 (by kernel_rfl) rfl #[.agg #[.slice A0_0 l0_0.length c0_0]] rfl (by (try simp only [List.map_toArray, List.map_cons, List.map_nil]); first | done | rfl | (simp only [List.length_drop, List.length_take]; rfl)) ?_; (with_reducible refine (impl_Gaps.calls k _ _ l0_0 t775 _ ?side1 ?side2 A2.out).mono ?_); (case side1 => exact ce_ ((Kd.C_below HR0_0.out HB.out))); (case side2 => exact HC0_0.out); rintro e w6 ⟨v776, rfl, ho0, hb⟩; refine ⟨_, rfl, ?_⟩; have n0_ := Aside0.mk (Kd.R_lower ho0 (below_size (by repeat (first | (with_reducible first | exact HB.out | apply below_alloc | apply pw_below_drewN | apply below_drew1 | refine below_set ?_ GE774.out) | exact HB.out)))); have n1_ := Aside0.mk (blk_below (g := gb774) (o := .cells #[.slice A0_0 l0_0.length c0_0] 44 (0, 0)) (be_ BK774.out) hb); have n2_ := Aside0.mk (below_step (by repeat (first | (with_reducible first | exact HB.out | apply below_alloc | apply pw_below_drewN | apply below_drew1 | refine below_set ?_ GE774.out) | exact HB.out)) hb); clear BK774; clear HB; have HO777 := n0_; have BK774 := n1_; have HB := n2_; clear n0_ n1_ n2_; (try clear hb); (try clear hb2); (try clear hk); (try clear hi); (try clear ho0); obtain ⟨Ao7, co7, eo7⟩ := Kd.R_slice HO777.out; subst eo7))
    go_ret
    exact ⟨by first | rfl | (simp [errW_none, errW_some] <;> rfl) | (simp [*, errW_none, errW_some] <;> rfl), by repeat (first | (with_reducible first | exact HB.out | apply below_alloc | apply pw_below_drewN | apply below_drew1 | refine below_set ?_ GE774.out) | exact HB.out)⟩
 · rw [if_neg c3] at H
   have c3b0 : ((t775.length : Int) == 0) = false := beq_eq_false_iff_ne.mpr c3
   have c3b1 : ((t775.length : Int) != 0) = true := bne_iff_ne.mpr c3
   have c3b2 : ¬ (t775 = []) := fun h_ => c3 (by rw [h_]; rfl)
   obtain ⟨ji8, hji8⟩ : ∃ j_ : Int, (wrap64 ((t775.length : Int) - 1)) = j_ := ⟨_, rfl⟩
   replace H : (if 0 ≤ (ji8) then (if (ji8) < (t775.length : Int) then (some (rd t775 (ji8))) else (none)) else (none)) = some r := by first | (rw [hji8] at H; exact H) | (simp only [hji8] at H ⊢; exact H)
   (try rw [hji8] at A2)
   have hji8w : (IntKind.i64.wrap ((t775.length : Int) - 1)) = ji8 := (i64_w _).trans hji8
   by_cases c9 : 0 ≤ (ji8)
   · rw [if_pos c9] at H
     have c9b0 : decide (0 ≤ (ji8)) = true := decide_eq_true c9
     clear c9
     by_cases c10 : (ji8) < (t775.length : Int)
     · rw [if_pos c10] at H
       have c10b0 : decide ((ji8) < (t775.length : Int)) = true := decide_eq_true c10
       clear c10
       as_aux_lemma =>
        obtain rfl := Option.some.inj H
        go_enter Try.func69, Try.ntmps69
        go_wp2_with (first | ((with_reducible refine gate_dst (N := 1) rfl ?_); refine box_event ?hg (N := 1) ?hd (cs := #[.slice A0_0 l0_0.length c0_0]) (t := 44) ?hr ?_; (case hd => rfl); (case hg => rfl); (case hr => first | (go_simp; done) | (go_simp; rfl)); intro gb774 hg w11 hbox hb; have n0_ := Aside0.mk (below_step (bl_ HB.out) hb); have n1_ := Aside0.mk (hbox); have n2_ := Aside0.mk ((by rw [hg]; exact (below_size (bl_ HB.out)) : w.heap.size ≤ gb774)); have n3_ := Aside0.mk ((by rw [hg]; exact (below_size (bl_ HB.out)) : w.heap.size ≤ gb774)); clear HB; have HB := n0_; have BK774 := n1_; have GW774 := n2_; have GE774 := n3_; clear n0_ n1_ n2_ n3_; clear hb hbox hg; have hcz12_0 : w11.cell? ⟨gb774, 0, none⟩ = some (.slice A0_0 l0_0.length c0_0) := (blk_cell BK774.out 0).trans rfl; have hfz12_0 := blk_frozen BK774.out 0) | ((with_reducible refine gate_callee (f := 87) rfl ?_); refine goesL_ (some 5) rfl rfl Try.func87 (by kernel_rfl) rfl #[.agg #[.slice A0_0 l0_0.length c0_0]] rfl (by (try simp only [List.map_toArray, List.map_cons, List.map_nil]); first | done | rfl | (simp only [List.length_drop, List.length_take]; rfl)) ?_; (with_reducible refine (impl_Gaps.calls k _ _ l0_0 t775 _ ?side1 ?side2 A2.out).mono ?_); (case side1 => exact ce_ ((Kd.C_below HR0_0.out HB.out))); (case side2 => exact HC0_0.out); rintro e w13 ⟨v776, rfl, ho0, hb⟩; refine ⟨_, rfl, ?_⟩; have n0_ := Aside0.mk (Kd.R_lower ho0 (below_size (by repeat (first | (with_reducible first | exact HB.out | apply below_alloc | apply pw_below_drewN | apply below_drew1 | refine below_set ?_ GE774.out) | exact HB.out)))); have n1_ := Aside0.mk (blk_below (g := gb774) (o := .cells #[.slice A0_0 l0_0.length c0_0] 44 (0, 0)) (be_ BK774.out) hb); have n2_ := Aside0.mk (below_step (by repeat (first | (with_reducible first | exact HB.out | apply below_alloc | apply pw_below_drewN | apply below_drew1 | refine below_set ?_ GE774.out) | exact HB.out)) hb); clear BK774; clear HB; have HO777 := n0_; have BK774 := n1_; have HB := n2_; clear n0_ n1_ n2_; (try clear hb); (try clear hb2); (try clear hk); (try clear hi); (try clear ho0); obtain ⟨Ao14, co14, eo14⟩ := Kd.R_slice HO777.out; subst eo14; have p778 : 0 ≤ ((ji8) : Int) := of_decide_eq_true (by first | (with_reducible assumption) | assumption); have q778 : (ji8) < (t775.length : Int) := of_decide_eq_true (by first | (with_reducible assumption) | assumption); obtain ⟨ad778, e778, hx778_0⟩ := Kd.at_int (Kd.R_reads' HO777.out).2.2 (ji8) p778 q778; cases e778; replace p778 := eq_true p778; replace q778 := eq_true q778))
        go_ret
        exact ⟨by first | rfl | (simp [errW_none, errW_some] <;> rfl) | (simp only [← hji8]; first | rfl | (simp [errW_none, errW_some] <;> rfl)) | (simp [*, errW_none, errW_some] <;> rfl), by repeat (first | (with_reducible first | exact HB.out | apply below_alloc | apply pw_below_drewN | apply below_drew1 | refine below_set ?_ GE774.out) | exact HB.out)⟩
     · rw [if_neg c10] at H
       exact absurd H (by simp)
   · rw [if_neg c9] at H
     exact absurd H (by simp)
def impl_GlueFrobenius.f (k : Nat) (l0_0 : List Int) (l1_0 : List Int) (a2 : Int) (a3 : Int) : Option (Int) := (impl_GlueOf.f k l0_0 l1_0 a2 a3).bind fun bt781 => (if bt781.2 = true then ((impl_FrobeniusOf.f k l0_0).bind fun t786 => ((impl_FrobeniusOf.f k l1_0).bind fun t787 => (some (wrap64 ((wrap64 ((wrap64 (a2 * t786)) + (wrap64 (a3 * t787)))) + (wrap64 (a2 * a3))))))) else (some (-1)))
def impl_GlueFrobenius.T4 : Bool × List (List Nat × List Nat) := (true, [([], []), ([], []), ([1], [1]), ([0, 2], [0, 2]), ([], []), ([], []), ([5, 2], [5]), ([4, 6], [4, 6]), ([3, 7], [3, 7]), ([], []), ([], []), ([9, 10], [9, 10]), ([8, 11], [8, 11]), ([12, 6, 0, 1, 2, 3, 4, 5, 6, 7, 8, 9, 10, 11, 12], [12])])
def impl_GlueFrobenius.B4 : List Nat := [0, 0, 2, 7, 0, 0, 38, 118, 255, 0, 0, 1536, 4095, 8191]
theorem impl_GlueFrobenius.tab4 : rtab .any (opsOf Try.f36 4) = impl_GlueFrobenius.T4 := by kernel_rfl
theorem impl_GlueFrobenius.bits4 : waitsOk impl_GlueFrobenius.T4.2 impl_GlueFrobenius.B4 = true := by kernel_rfl
set_option maxHeartbeats 8000000 in
set_option maxRecDepth 100000 in
theorem impl_GlueFrobenius.calls (k : Nat) (A0_0 : Option Addr) (c0_0 : Nat) (l0_0 : List Int) (A1_0 : Option Addr) (c1_0 : Nat) (l1_0 : List Int) (a2 : Int) (a3 : Int) (r : Int) (w : World) (hr0_0 : Kd.C (Kd.int .i64) w A0_0 l0_0.length l0_0) (hc0_0 : l0_0.length ≤ c0_0) (hr1_0 : Kd.C (Kd.int .i64) w A1_0 l1_0.length l1_0) (hc1_0 : l1_0.length ≤ c1_0) (h : impl_GlueFrobenius.f k l0_0 l1_0 a2 a3 = some r) :
 Calls Try.prog 36 #[.agg #[.slice A0_0 l0_0.length c0_0], .agg #[.slice A1_0 l1_0.length c1_0], .int .i64 a2, .int .i64 a3] w fun e w' => e = .returned (.int .i64 r) ∧ Below w.heap.size w w' := by
 have hu44 := Try.underlying44
 have HR0_0 := Aside0.mk hr0_0
 have HC0_0 := Aside0.mk hc0_0
 clear hr0_0 hc0_0
 have HR1_0 := Aside0.mk hr1_0
 have HC1_0 := Aside0.mk hc1_0
 clear hr1_0 hc1_0
 have HB := Aside0.mk (Below.refl w.heap.size w)
 have H : ((impl_GlueOf.f k l0_0 l1_0 a2 a3).bind fun bt781 => (if bt781.2 = true then ((impl_FrobeniusOf.f k l0_0).bind fun t786 => ((impl_FrobeniusOf.f k l1_0).bind fun t787 => (some (wrap64 ((wrap64 ((wrap64 (a2 * t786)) + (wrap64 (a3 * t787)))) + (wrap64 (a2 * a3))))))) else (some (-1)))) = some r := h
 clear h
 replace H := Option.bind_eq_some_iff.mp H
 obtain ⟨⟨t781, t784⟩, A50, H⟩ := H
 replace H : (if t784 = true then ((impl_FrobeniusOf.f k l0_0).bind fun t786 => ((impl_FrobeniusOf.f k l1_0).bind fun t787 => (some (wrap64 ((wrap64 ((wrap64 (a2 * t786)) + (wrap64 (a3 * t787)))) + (wrap64 (a2 * a3))))))) else (some (-1))) = some r := H
 have A5 := Aside0.mk A50
 clear A50
 by_cases c6 : t784 = true
 · subst c6
   have H1 : ((impl_FrobeniusOf.f k l0_0).bind fun t786 => ((impl_FrobeniusOf.f k l1_0).bind fun t787 => (some (wrap64 ((wrap64 ((wrap64 (a2 * t786)) + (wrap64 (a3 * t787)))) + (wrap64 (a2 * a3))))))) = some r := by rw [if_pos rfl] at H; exact H
   clear H
   have H := H1
   clear H1
   replace H := Option.bind_eq_some_iff.mp H
   obtain ⟨t786, A70, H⟩ := H
   replace H : ((impl_FrobeniusOf.f k l1_0).bind fun t787 => (some (wrap64 ((wrap64 ((wrap64 (a2 * t786)) + (wrap64 (a3 * t787)))) + (wrap64 (a2 * a3)))))) = some r := H
   have A7 := Aside0.mk A70
   clear A70
   replace H := Option.bind_eq_some_iff.mp H
   obtain ⟨t787, A80, H⟩ := H
   replace H : (some (wrap64 ((wrap64 ((wrap64 (a2 * t786)) + (wrap64 (a3 * t787)))) + (wrap64 (a2 * a3))))) = some r := H
   have A8 := Aside0.mk A80
   clear A80
   as_aux_lemma =>
    obtain rfl := Option.some.inj H
    go_enter Try.func36, Try.ntmps36
    try go_wp2_with (first | ((with_reducible refine gate_dst (N := 4) rfl ?_); refine box_event ?hg (N := 4) ?hd (cs := #[.slice A0_0 l0_0.length c0_0]) (t := 44) ?hr ?_; (case hd => rfl); (case hg => rfl); (case hr => first | (go_simp; done) | (go_simp; rfl)); intro gb779 hg w9 hbox hb; have n0_ := Aside0.mk (below_step (bl_ HB.out) hb); have n1_ := Aside0.mk (hbox); have n2_ := Aside0.mk ((by rw [hg]; exact (below_size (bl_ HB.out)) : w.heap.size ≤ gb779)); have n3_ := Aside0.mk ((by rw [hg]; exact (below_size (bl_ HB.out)) : w.heap.size ≤ gb779)); clear HB; have HB := n0_; have BK779 := n1_; have GW779 := n2_; have GE779 := n3_; clear n0_ n1_ n2_ n3_; clear hb hbox hg) | ((with_reducible refine gate_dst (N := 5) rfl ?_); refine box_event ?hg (N := 5) ?hd (cs := #[.slice A1_0 l1_0.length c1_0]) (t := 44) ?hr ?_; (case hd => rfl); (case hg => rfl); (case hr => first | (go_simp; done) | (go_simp; rfl)); intro gb780 hg w10 hbox hb; have n0_ := Aside0.mk (blk_below (g := gb779) (o := .cells #[.slice A0_0 l0_0.length c0_0] 44 (0, 0)) (be_ BK779.out) hb); have n1_ := Aside0.mk (below_step (by repeat (first | (with_reducible first | exact HB.out | apply below_alloc | apply pw_below_drewN | apply below_drew1 | refine below_set ?_ GE779.out) | exact HB.out)) hb); have n2_ := Aside0.mk (hbox); have n3_ := Aside0.mk ((by rw [hg]; exact (below_size (by repeat (first | (with_reducible first | exact HB.out | apply below_alloc | apply pw_below_drewN | apply below_drew1 | refine below_set ?_ GE779.out) | exact HB.out))) : w.heap.size ≤ gb780)); have n4_ := Aside0.mk ((by rw [hg]; exact (below_size (by repeat (first | (with_reducible first | exact HB.out | apply below_alloc | apply pw_below_drewN | apply below_drew1 | refine below_set ?_ GE779.out) | exact HB.out))) : w.heap.size ≤ gb780)); have n5_ := Aside0.mk ((by rw [hg]; exact Nat.ne_of_lt (blk_lt (g := gb779) (o := .cells #[.slice A0_0 l0_0.length c0_0] 44 (0, 0)) (be_ BK779.out)) : gb779 ≠ gb780)); have n6_ := Aside0.mk ((by rw [hg]; exact Nat.ne_of_gt (blk_lt (g := gb779) (o := .cells #[.slice A0_0 l0_0.length c0_0] 44 (0, 0)) (be_ BK779.out)) : gb780 ≠ gb779)); clear BK779; clear HB; have BK779 := n0_; have HB := n1_; have BK780 := n2_; have GW780 := n3_; have GE780 := n4_; have NB779_780 := n5_; have NB780_779 := n6_; clear n0_ n1_ n2_ n3_ n4_ n5_ n6_; clear hb hbox hg; have hnb11 := NB779_780.out; have hnc11 := NB780_779.out; have hcz12_0 : w10.cell? ⟨gb779, 0, none⟩ = some (.slice A0_0 l0_0.length c0_0) := (blk_cell BK779.out 0).trans rfl; have hfz12_0 := blk_frozen BK779.out 0; have hcz13_0 : w10.cell? ⟨gb780, 0, none⟩ = some (.slice A1_0 l1_0.length c1_0) := (blk_cell BK780.out 0).trans rfl; have hfz13_0 := blk_frozen BK780.out 0) | ((with_reducible refine gate_callee (f := 33) rfl ?_); refine goesL_ (some 16) rfl rfl Try.func33 (by kernel_rfl) rfl #[.agg #[.slice A0_0 l0_0.length c0_0], .agg #[.slice A1_0 l1_0.length c1_0], .int .i64 a2, .int .i64 a3] rfl (by (try simp only [List.map_toArray, List.map_cons, List.map_nil]); first | done | rfl | (simp only [List.length_drop, List.length_take]; rfl)) ?_; (with_reducible refine (impl_GlueOf.calls k _ _ l0_0 _ _ l1_0 a2 a3 t781 true _ ?side1 ?side2 ?side3 ?side4 A5.out).mono ?_); (case side1 => exact ce_ ((Kd.C_below HR0_0.out HB.out))); (case side2 => exact HC0_0.out); (case side3 => exact ce_ ((Kd.C_below HR1_0.out HB.out))); (case side4 => exact HC1_0.out); rintro e w14 ⟨v782, rfl, ho0, hb⟩; refine ⟨_, rfl, ?_⟩; have n0_ := Aside0.mk (Kd.R_lower ho0 (below_size (by repeat (first | (with_reducible first | exact HB.out | apply below_alloc | apply pw_below_drewN | apply below_drew1 | refine below_set ?_ GE779.out | refine below_set ?_ GE780.out) | exact HB.out)))); have n1_ := Aside0.mk (blk_below (g := gb779) (o := .cells #[.slice A0_0 l0_0.length c0_0] 44 (0, 0)) (be_ BK779.out) hb); have n2_ := Aside0.mk (blk_below (g := gb780) (o := .cells #[.slice A1_0 l1_0.length c1_0] 44 (0, 0)) (be_ BK780.out) hb); have n3_ := Aside0.mk (below_step (by repeat (first | (with_reducible first | exact HB.out | apply below_alloc | apply pw_below_drewN | apply below_drew1 | refine below_set ?_ GE779.out | refine below_set ?_ GE780.out) | exact HB.out)) hb); clear BK779; clear BK780; clear HB; have HO783 := n0_; have BK779 := n1_; have BK780 := n2_; have HB := n3_; clear n0_ n1_ n2_ n3_; (try clear hb); (try clear hb2); (try clear hk); (try clear hi); (try clear ho0)) | ((with_reducible refine gate_dst (N := 9) rfl ?_); refine box_event ?hg (N := 9) ?hd (cs := #[.slice none 0 0]) (t := 44) ?hr ?_; (case hd => rfl); (case hg => rfl); (case hr => first | (go_simp; done) | (go_simp; rfl)); intro gb785 hg w15 hbox hb; have n0_ := Aside0.mk (Kd.R_below (re_ HO783.out) hb); have n1_ := Aside0.mk (blk_below (g := gb779) (o := .cells #[.slice A0_0 l0_0.length c0_0] 44 (0, 0)) (be_ BK779.out) hb); have n2_ := Aside0.mk (blk_below (g := gb780) (o := .cells #[.slice A1_0 l1_0.length c1_0] 44 (0, 0)) (be_ BK780.out) hb); have n3_ := Aside0.mk (below_step (by repeat (first | (with_reducible first | exact HB.out | apply below_alloc | apply pw_below_drewN | apply below_drew1 | refine below_set ?_ GE779.out | refine below_set ?_ GE780.out) | exact HB.out)) hb); have n4_ := Aside0.mk (hbox); have n5_ := Aside0.mk ((by rw [hg]; exact (below_size (by repeat (first | (with_reducible first | exact HB.out | apply below_alloc | apply pw_below_drewN | apply below_drew1 | refine below_set ?_ GE779.out | refine below_set ?_ GE780.out) | exact HB.out))) : w.heap.size ≤ gb785)); have n6_ := Aside0.mk ((by rw [hg]; exact (below_size (by repeat (first | (with_reducible first | exact HB.out | apply below_alloc | apply pw_below_drewN | apply below_drew1 | refine below_set ?_ GE779.out | refine below_set ?_ GE780.out) | exact HB.out))) : w.heap.size ≤ gb785)); have n7_ := Aside0.mk ((by rw [hg]; exact Nat.ne_of_lt (blk_lt (g := gb779) (o := .cells #[.slice A0_0 l0_0.length c0_0] 44 (0, 0)) (be_ BK779.out)) : gb779 ≠ gb785)); have n8_ := Aside0.mk ((by rw [hg]; exact Nat.ne_of_gt (blk_lt (g := gb779) (o := .cells #[.slice A0_0 l0_0.length c0_0] 44 (0, 0)) (be_ BK779.out)) : gb785 ≠ gb779)); have n9_ := Aside0.mk ((by rw [hg]; exact Nat.ne_of_lt (blk_lt (g := gb780) (o := .cells #[.slice A1_0 l1_0.length c1_0] 44 (0, 0)) (be_ BK780.out)) : gb780 ≠ gb785)); have n10_ := Aside0.mk ((by rw [hg]; exact Nat.ne_of_gt (blk_lt (g := gb780) (o := .cells #[.slice A1_0 l1_0.length c1_0] 44 (0, 0)) (be_ BK780.out)) : gb785 ≠ gb780)); clear HO783; clear BK779; clear BK780; clear HB; have HO783 := n0_; have BK779 := n1_; have BK780 := n2_; have HB := n3_; have BK785 := n4_; have GW785 := n5_; have GE785 := n6_; have NB779_785 := n7_; have NB785_779 := n8_; have NB780_785 := n9_; have NB785_780 := n10_; clear n0_ n1_ n2_ n3_ n4_ n5_ n6_ n7_ n8_ n9_ n10_; clear hb hbox hg; obtain ⟨Ao16, co16, eo16⟩ := Kd.R_slice HO783.out; subst eo16; have hnb17 := NB785_779.out; have hnc17 := NB779_785.out; have hnb18 := NB785_780.out; have hnc18 := NB780_785.out; have hcz19_0 : w15.cell? ⟨gb785, 0, none⟩ = some (.slice none 0 0) := (blk_cell BK785.out 0).trans rfl; have hfz19_0 := blk_frozen BK785.out 0))
    have n0_ : Aside0 (Kd.R (Kd.int .i64) 3 (w15.setCell ⟨gb785, 0, none⟩ (.slice Ao16 t781.length co16)) w.heap.size (fun _ => True) (.slice Ao16 t781.length co16) t781) := ⟨by (with_reducible repeat (first | apply Kd.R_alloc | apply Kd.R_drewN | apply Kd.R_drew)); exact Kd.R_mono (Kd.R_far (p := ⟨gb785, 0, none⟩) (Kd.R_types HO783.out BK785.out (by decide)) (fun _ hk => hk.2) (.slice Ao16 t781.length co16)) (fun _ hk => trivial)⟩
    have n1_ : Aside0 ((w15.setCell ⟨gb785, 0, none⟩ (.slice Ao16 t781.length co16)).heap[gb779]? = some (.cells #[.slice A0_0 l0_0.length c0_0] 44 (0, 0))) := ⟨by (with_reducible repeat (first | refine blk_drewN ?_ _ | refine blk_drew ?_ | refine blk_alloc ?_ _)); refine blk_far ?_ NB779_785.out _; (with_reducible repeat (first | refine blk_drewN ?_ _ | refine blk_drew ?_ | refine blk_alloc ?_ _)); exact BK779.out⟩
    have n2_ : Aside0 ((w15.setCell ⟨gb785, 0, none⟩ (.slice Ao16 t781.length co16)).heap[gb780]? = some (.cells #[.slice A1_0 l1_0.length c1_0] 44 (0, 0))) := ⟨by (with_reducible repeat (first | refine blk_drewN ?_ _ | refine blk_drew ?_ | refine blk_alloc ?_ _)); refine blk_far ?_ NB780_785.out _; (with_reducible repeat (first | refine blk_drewN ?_ _ | refine blk_drew ?_ | refine blk_alloc ?_ _)); exact BK780.out⟩
    have n3_ : Aside0 ((w15.setCell ⟨gb785, 0, none⟩ (.slice Ao16 t781.length co16)).heap[gb785]? = some (.cells #[.slice Ao16 t781.length co16] 44 (0, 0))) := ⟨by (with_reducible repeat (first | refine blk_drewN ?_ _ | refine blk_drew ?_ | refine blk_alloc ?_ _)); refine blk_put (cs := #[.slice none 0 0]) ?_ 0 _ rfl; (with_reducible repeat (first | refine blk_drewN ?_ _ | refine blk_drew ?_ | refine blk_alloc ?_ _)); exact BK785.out⟩
    have n4_ : Aside0 (Below w.heap.size w (w15.setCell ⟨gb785, 0, none⟩ (.slice Ao16 t781.length co16))) := ⟨by repeat (first | (with_reducible first | exact HB.out | apply below_alloc | apply pw_below_drewN | apply below_drew1 | refine below_set ?_ GE779.out | refine below_set ?_ GE780.out | refine below_set ?_ GE785.out) | exact HB.out)⟩
    (try clear HO783)
    (try clear BK779)
    (try clear BK780)
    (try clear BK785)
    (try clear HB)
    generalize (w15.setCell ⟨gb785, 0, none⟩ (.slice Ao16 t781.length co16)) = w20 at n0_ n1_ n2_ n3_ n4_ ⊢
    have HO783 := n0_
    have BK779 := n1_
    have BK780 := n2_
    have BK785 := n3_
    have HB := n4_
    clear n0_ n1_ n2_ n3_ n4_
    have n0_ := Aside0.mk (Kd.R_drew HO783.out)
    have n1_ := Aside0.mk (blk_drew BK779.out)
    have n2_ := Aside0.mk (blk_drew BK780.out)
    have n3_ := Aside0.mk (blk_drew BK785.out)
    have n4_ := Aside0.mk (below_drew1 HB.out)
    clear HO783
    clear BK779
    clear BK780
    clear BK785
    clear HB
    have HO783 := n0_
    have BK779 := n1_
    have BK780 := n2_
    have BK785 := n3_
    have HB := n4_
    clear n0_ n1_ n2_ n3_ n4_
    refine start_ (n := 14) (S := fun w' => w'.cell? ⟨gb779, 0, none⟩ = some (.slice A0_0 l0_0.length c0_0) ∧ w'.cell? ⟨gb780, 0, none⟩ = some (.slice A1_0 l1_0.length c1_0)) (ds := []) (B_ 0 14) (by kernel_rfl) rfl rfl ⟨(blk_cell BK779.out 0).trans rfl, (blk_cell BK780.out 0).trans rfl⟩ (fun hHeld => ?_); refine with_tabW impl_GlueFrobenius.tab4 impl_GlueFrobenius.bits4 (fun HT_ HW_ => ?_)
    generalize w20.drew = w21 at HO783 BK779 BK780 BK785 HB hHeld ⊢
    refine pu_ HT_ 0 21 (B_ 1 14) ?_
    refine pu_ HT_ 4 25 (B_ 17 14) ?_
    refine pu_ HT_ 9 30 (B_ 529 14) ?_
    refine pu_ HT_ 10 31 (B_ 1553 14) ?_
    refine pu_ HT_ 11 32 (B_ 3601 14) ?_
    refine tk2_ HT_ HW_ hHeld 1 22 (B_ 3603 14) ?_
    refine tk2_ HT_ HW_ hHeld 5 26 (B_ 3635 14) ?_
    refine one_ (i := 2) (N := some 23) (B_ 3639 14) rfl rfl (one_of HT_.out (by kernel_rfl)) (by decide) (fun K hK => ?_)
    refine goes_ Try.func69 (by kernel_rfl) rfl #[.agg #[.slice A0_0 l0_0.length c0_0]] (by rfl) rfl rfl (by (try simp only [List.map_toArray, List.map_cons, List.map_nil]); first | done | rfl | (simp only [List.length_drop, List.length_take]; rfl)) ?_
    with_reducible refine (impl_FrobeniusOf.calls k _ _ l0_0 t786 _ ?side1 ?side2 A7.out).mono ?_
    (case side1 => exact ce_ ((Kd.C_below HR0_0.out HB.out)))
    (case side2 => exact HC0_0.out)
    rintro e w22 ⟨rfl, hb⟩
    refine ⟨_, rfl, ?_⟩
    have n0_ := Aside0.mk (Kd.R_below (re_ HO783.out) hb)
    have n1_ := Aside0.mk (blk_below (g := gb779) (o := .cells #[.slice A0_0 l0_0.length c0_0] 44 (0, 0)) (be_ BK779.out) hb)
    have n2_ := Aside0.mk (blk_below (g := gb780) (o := .cells #[.slice A1_0 l1_0.length c1_0] 44 (0, 0)) (be_ BK780.out) hb)
    have n3_ := Aside0.mk (blk_below (g := gb785) (o := .cells #[.slice Ao16 t781.length co16] 44 (0, 0)) (be_ BK785.out) hb)
    have n4_ := Aside0.mk (below_step (by repeat (first | (with_reducible first | exact HB.out | apply below_alloc | apply pw_below_drewN | apply below_drew1 | refine below_set ?_ GE779.out | refine below_set ?_ GE780.out | refine below_set ?_ GE785.out) | exact HB.out)) hb)
    clear HO783
    clear BK779
    clear BK780
    clear BK785
    clear HB
    have HO783 := n0_
    have BK779 := n1_
    have BK780 := n2_
    have BK785 := n3_
    have HB := n4_
    clear n0_ n1_ n2_ n3_ n4_
    (try clear hb)
    (try clear hb2)
    (try clear hk)
    (try clear hi)
    refine hK.out _ _ ⟨(blk_cell BK779.out 0).trans rfl, (blk_cell BK780.out 0).trans rfl⟩ (fun hHeld => ?_)
    clear hK K
    refine norm_ (a' := ?_) ?_ ?_
    rotate_left
    · show Act.put _ (some 23) _ = _
      simp only [Act.put, z1_, z2_, z3_, i64_w, i32_w]
      rfl
    refine pu_ HT_ 3 24 (B_ 3647 14) ?_
    refine one_ (i := 6) (N := some 27) (B_ 3711 14) rfl rfl (one_of HT_.out (by kernel_rfl)) (by decide) (fun K hK => ?_)
    refine goes_ Try.func69 (by kernel_rfl) rfl #[.agg #[.slice A1_0 l1_0.length c1_0]] (by rfl) rfl rfl (by (try simp only [List.map_toArray, List.map_cons, List.map_nil]); first | done | rfl | (simp only [List.length_drop, List.length_take]; rfl)) ?_
    with_reducible refine (impl_FrobeniusOf.calls k _ _ l1_0 t787 _ ?side1 ?side2 A8.out).mono ?_
    (case side1 => exact ce_ ((Kd.C_below HR1_0.out HB.out)))
    (case side2 => exact HC1_0.out)
    rintro e w23 ⟨rfl, hb⟩
    refine ⟨_, rfl, ?_⟩
    have n0_ := Aside0.mk (Kd.R_below (re_ HO783.out) hb)
    have n1_ := Aside0.mk (blk_below (g := gb779) (o := .cells #[.slice A0_0 l0_0.length c0_0] 44 (0, 0)) (be_ BK779.out) hb)
    have n2_ := Aside0.mk (blk_below (g := gb780) (o := .cells #[.slice A1_0 l1_0.length c1_0] 44 (0, 0)) (be_ BK780.out) hb)
    have n3_ := Aside0.mk (blk_below (g := gb785) (o := .cells #[.slice Ao16 t781.length co16] 44 (0, 0)) (be_ BK785.out) hb)
    have n4_ := Aside0.mk (below_step (by repeat (first | (with_reducible first | exact HB.out | apply below_alloc | apply pw_below_drewN | apply below_drew1 | refine below_set ?_ GE779.out | refine below_set ?_ GE780.out | refine below_set ?_ GE785.out) | exact HB.out)) hb)
    clear HO783
    clear BK779
    clear BK780
    clear BK785
    clear HB
    have HO783 := n0_
    have BK779 := n1_
    have BK780 := n2_
    have BK785 := n3_
    have HB := n4_
    clear n0_ n1_ n2_ n3_ n4_
    (try clear hb)
    (try clear hb2)
    (try clear hk)
    (try clear hi)
    refine hK.out _ _ ⟨(blk_cell BK779.out 0).trans rfl, (blk_cell BK780.out 0).trans rfl⟩ (fun hHeld => ?_)
    clear hK K
    refine norm_ (a' := ?_) ?_ ?_
    rotate_left
    · show Act.put _ (some 27) _ = _
      simp only [Act.put, z1_, z2_, z3_, i64_w, i32_w]
      rfl
    refine pu_ HT_ 7 28 (B_ 3839 14) ?_
    refine pu_ HT_ 8 29 (B_ 4095 14) ?_
    refine pu_ HT_ 12 33 (B_ 8191 14) ?_
    refine pu_ HT_ 13 8 (B_ 16383 14) ?_
    refine done_ (done_of HT_.out (by kernel_rfl)) ?_
    try go_wp2
    go_ret
    exact ⟨by first | rfl | (simp [errW_none, errW_some] <;> rfl) | (simp [*, errW_none, errW_some] <;> rfl), by repeat (first | (with_reducible first | exact HB.out | apply below_alloc | apply pw_below_drewN | apply below_drew1 | refine below_set ?_ GE779.out | refine below_set ?_ GE780.out | refine below_set ?_ GE785.out) | exact HB.out)⟩
 · replace c6 := Bool.eq_false_iff.mpr c6
   subst c6
   have H1 : (some (-1)) = some r := by rw [if_neg (show ¬ (false = true) by decide)] at H; exact H
   clear H
   have H := H1
   clear H1
   as_aux_lemma =>
    obtain rfl := Option.some.inj H
    go_enter Try.func36, Try.ntmps36
    go_wp2_with (first | ((with_reducible refine gate_dst (N := 4) rfl ?_); refine box_event ?hg (N := 4) ?hd (cs := #[.slice A0_0 l0_0.length c0_0]) (t := 44) ?hr ?_; (case hd => rfl); (case hg => rfl); (case hr => first | (go_simp; done) | (go_simp; rfl)); intro gb779 hg w24 hbox hb; have n0_ := Aside0.mk (below_step (bl_ HB.out) hb); have n1_ := Aside0.mk (hbox); have n2_ := Aside0.mk ((by rw [hg]; exact (below_size (bl_ HB.out)) : w.heap.size ≤ gb779)); have n3_ := Aside0.mk ((by rw [hg]; exact (below_size (bl_ HB.out)) : w.heap.size ≤ gb779)); clear HB; have HB := n0_; have BK779 := n1_; have GW779 := n2_; have GE779 := n3_; clear n0_ n1_ n2_ n3_; clear hb hbox hg) | ((with_reducible refine gate_dst (N := 5) rfl ?_); refine box_event ?hg (N := 5) ?hd (cs := #[.slice A1_0 l1_0.length c1_0]) (t := 44) ?hr ?_; (case hd => rfl); (case hg => rfl); (case hr => first | (go_simp; done) | (go_simp; rfl)); intro gb780 hg w25 hbox hb; have n0_ := Aside0.mk (blk_below (g := gb779) (o := .cells #[.slice A0_0 l0_0.length c0_0] 44 (0, 0)) (be_ BK779.out) hb); have n1_ := Aside0.mk (below_step (by repeat (first | (with_reducible first | exact HB.out | apply below_alloc | apply pw_below_drewN | apply below_drew1 | refine below_set ?_ GE779.out) | exact HB.out)) hb); have n2_ := Aside0.mk (hbox); have n3_ := Aside0.mk ((by rw [hg]; exact (below_size (by repeat (first | (with_reducible first | exact HB.out | apply below_alloc | apply pw_below_drewN | apply below_drew1 | refine below_set ?_ GE779.out) | exact HB.out))) : w.heap.size ≤ gb780)); have n4_ := Aside0.mk ((by rw [hg]; exact (below_size (by repeat (first | (with_reducible first | exact HB.out | apply below_alloc | apply pw_below_drewN | apply below_drew1 | refine below_set ?_ GE779.out) | exact HB.out))) : w.heap.size ≤ gb780)); have n5_ := Aside0.mk ((by rw [hg]; exact Nat.ne_of_lt (blk_lt (g := gb779) (o := .cells #[.slice A0_0 l0_0.length c0_0] 44 (0, 0)) (be_ BK779.out)) : gb779 ≠ gb780)); have n6_ := Aside0.mk ((by rw [hg]; exact Nat.ne_of_gt (blk_lt (g := gb779) (o := .cells #[.slice A0_0 l0_0.length c0_0] 44 (0, 0)) (be_ BK779.out)) : gb780 ≠ gb779)); clear BK779; clear HB; have BK779 := n0_; have HB := n1_; have BK780 := n2_; have GW780 := n3_; have GE780 := n4_; have NB779_780 := n5_; have NB780_779 := n6_; clear n0_ n1_ n2_ n3_ n4_ n5_ n6_; clear hb hbox hg; have hnb26 := NB779_780.out; have hnc26 := NB780_779.out; have hcz27_0 : w25.cell? ⟨gb779, 0, none⟩ = some (.slice A0_0 l0_0.length c0_0) := (blk_cell BK779.out 0).trans rfl; have hfz27_0 := blk_frozen BK779.out 0; have hcz28_0 : w25.cell? ⟨gb780, 0, none⟩ = some (.slice A1_0 l1_0.length c1_0) := (blk_cell BK780.out 0).trans rfl; have hfz28_0 := blk_frozen BK780.out 0) | ((with_reducible refine gate_callee (f := 33) rfl ?_); refine goesL_ (some 16) rfl rfl Try.func33 (by kernel_rfl) rfl #[.agg #[.slice A0_0 l0_0.length c0_0], .agg #[.slice A1_0 l1_0.length c1_0], .int .i64 a2, .int .i64 a3] rfl (by (try simp only [List.map_toArray, List.map_cons, List.map_nil]); first | done | rfl | (simp only [List.length_drop, List.length_take]; rfl)) ?_; (with_reducible refine (impl_GlueOf.calls k _ _ l0_0 _ _ l1_0 a2 a3 t781 false _ ?side1 ?side2 ?side3 ?side4 A5.out).mono ?_); (case side1 => exact ce_ ((Kd.C_below HR0_0.out HB.out))); (case side2 => exact HC0_0.out); (case side3 => exact ce_ ((Kd.C_below HR1_0.out HB.out))); (case side4 => exact HC1_0.out); rintro e w29 ⟨v782, rfl, ho0, hb⟩; refine ⟨_, rfl, ?_⟩; have n0_ := Aside0.mk (Kd.R_lower ho0 (below_size (by repeat (first | (with_reducible first | exact HB.out | apply below_alloc | apply pw_below_drewN | apply below_drew1 | refine below_set ?_ GE779.out | refine below_set ?_ GE780.out) | exact HB.out)))); have n1_ := Aside0.mk (blk_below (g := gb779) (o := .cells #[.slice A0_0 l0_0.length c0_0] 44 (0, 0)) (be_ BK779.out) hb); have n2_ := Aside0.mk (blk_below (g := gb780) (o := .cells #[.slice A1_0 l1_0.length c1_0] 44 (0, 0)) (be_ BK780.out) hb); have n3_ := Aside0.mk (below_step (by repeat (first | (with_reducible first | exact HB.out | apply below_alloc | apply pw_below_drewN | apply below_drew1 | refine below_set ?_ GE779.out | refine below_set ?_ GE780.out) | exact HB.out)) hb); clear BK779; clear BK780; clear HB; have HO783 := n0_; have BK779 := n1_; have BK780 := n2_; have HB := n3_; clear n0_ n1_ n2_ n3_; (try clear hb); (try clear hb2); (try clear hk); (try clear hi); (try clear ho0)) | ((with_reducible refine gate_dst (N := 9) rfl ?_); refine box_event ?hg (N := 9) ?hd (cs := #[.slice none 0 0]) (t := 44) ?hr ?_; (case hd => rfl); (case hg => rfl); (case hr => first | (go_simp; done) | (go_simp; rfl)); intro gb785 hg w30 hbox hb; have n0_ := Aside0.mk (Kd.R_below (re_ HO783.out) hb); have n1_ := Aside0.mk (blk_below (g := gb779) (o := .cells #[.slice A0_0 l0_0.length c0_0] 44 (0, 0)) (be_ BK779.out) hb); have n2_ := Aside0.mk (blk_below (g := gb780) (o := .cells #[.slice A1_0 l1_0.length c1_0] 44 (0, 0)) (be_ BK780.out) hb); have n3_ := Aside0.mk (below_step (by repeat (first | (with_reducible first | exact HB.out | apply below_alloc | apply pw_below_drewN | apply below_drew1 | refine below_set ?_ GE779.out | refine below_set ?_ GE780.out) | exact HB.out)) hb); have n4_ := Aside0.mk (hbox); have n5_ := Aside0.mk ((by rw [hg]; exact (below_size (by repeat (first | (with_reducible first | exact HB.out | apply below_alloc | apply pw_below_drewN | apply below_drew1 | refine below_set ?_ GE779.out | refine below_set ?_ GE780.out) | exact HB.out))) : w.heap.size ≤ gb785)); have n6_ := Aside0.mk ((by rw [hg]; exact (below_size (by repeat (first | (with_reducible first | exact HB.out | apply below_alloc | apply pw_below_drewN | apply below_drew1 | refine below_set ?_ GE779.out | refine below_set ?_ GE780.out) | exact HB.out))) : w.heap.size ≤ gb785)); have n7_ := Aside0.mk ((by rw [hg]; exact Nat.ne_of_lt (blk_lt (g := gb779) (o := .cells #[.slice A0_0 l0_0.length c0_0] 44 (0, 0)) (be_ BK779.out)) : gb779 ≠ gb785)); have n8_ := Aside0.mk ((by rw [hg]; exact Nat.ne_of_gt (blk_lt (g := gb779) (o := .cells #[.slice A0_0 l0_0.length c0_0] 44 (0, 0)) (be_ BK779.out)) : gb785 ≠ gb779)); have n9_ := Aside0.mk ((by rw [hg]; exact Nat.ne_of_lt (blk_lt (g := gb780) (o := .cells #[.slice A1_0 l1_0.length c1_0] 44 (0, 0)) (be_ BK780.out)) : gb780 ≠ gb785)); have n10_ := Aside0.mk ((by rw [hg]; exact Nat.ne_of_gt (blk_lt (g := gb780) (o := .cells #[.slice A1_0 l1_0.length c1_0] 44 (0, 0)) (be_ BK780.out)) : gb785 ≠ gb780)); clear HO783; clear BK779; clear BK780; clear HB; have HO783 := n0_; have BK779 := n1_; have BK780 := n2_; have HB := n3_; have BK785 := n4_; have GW785 := n5_; have GE785 := n6_; have NB779_785 := n7_; have NB785_779 := n8_; have NB780_785 := n9_; have NB785_780 := n10_; clear n0_ n1_ n2_ n3_ n4_ n5_ n6_ n7_ n8_ n9_ n10_; clear hb hbox hg; obtain ⟨Ao31, co31, eo31⟩ := Kd.R_slice HO783.out; subst eo31; have hnb32 := NB785_779.out; have hnc32 := NB779_785.out; have hnb33 := NB785_780.out; have hnc33 := NB780_785.out; have hcz34_0 : w30.cell? ⟨gb785, 0, none⟩ = some (.slice none 0 0) := (blk_cell BK785.out 0).trans rfl; have hfz34_0 := blk_frozen BK785.out 0))
    go_ret
    exact ⟨by first | rfl | (simp [errW_none, errW_some] <;> rfl) | (simp [*, errW_none, errW_some] <;> rfl), by repeat (first | (with_reducible first | exact HB.out | apply below_alloc | apply pw_below_drewN | apply below_drew1 | refine below_set ?_ GE779.out | refine below_set ?_ GE780.out | refine below_set ?_ GE785.out) | exact HB.out)⟩
end Go.Proofs.Ythkhpejggdnkfaa.PA
end
