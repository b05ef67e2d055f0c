-- Bundled by shake.py from this session's printed and written texts; Lean checks it.
import Derived.Test.YtppkokbhgkeknaaZFnArfx1
import Derived.Test.YtppkokbhgkeknaaZFnArfx6
import Derived.Test.YtppkokbhgkeknaaZFnArfx7
import Derived.Test.YtppkokbhgkeknaaZFnArfx9
section
namespace Go.Proofs.Ytppkokbhgkeknaa.PA
open Go.RowKit Go.Proofs.YtppkokbhgkeknaaW.PrintWords Go.Proofs.YtppkokbhgkeknaaW.PrintLast Go.Proofs.YtppkokbhgkeknaaW.PrintMore
attribute [local go_sem] max2_int min2_int max_two min_two max_three min_three max_four min_four
set_option linter.unusedVariables false
set_option linter.unusedSimpArgs false
set_option maxHeartbeats 8000000
set_option maxRecDepth 100000
def impl_FromGens.l0 : Nat → List Int → Int → Int → List Int → Option (List Int × Bool)
 | 0, _, _, _, _ => none
 | k + 1, x13, x14, x15, x914000 => if x15 < x14 then (if 0 ≤ x15 then (if x15 < (x13.length : Int) then (if (x914000.length : Int) = 0 then (if x914000.length < 17592186044416 then (impl_FromGens.l0 k x13 x14 (wrap64 (x15 + 1)) (x914000 ++ [rd x13 x15])) else (none)) else ((impl_Generates.f k x914000 (rd x13 x15)).bind fun t921 => (if t921 = true then (impl_FromGens.l0 k x13 x14 (wrap64 (x15 + 1)) x914000) else (if x914000.length < 17592186044416 then (impl_FromGens.l0 k x13 x14 (wrap64 (x15 + 1)) (x914000 ++ [rd x13 x15])) else (none))))) else (none)) else (none)) else ((impl_IsSemigroup.f k x914000).bind fun t925 => (if t925 = true then (some (x914000, true)) else (some (([] : List Int), false))))
def impl_FromGens.f (k : Nat) (l0 : List Int) : Option (List Int × Bool) := (impl_usable.f k l0).bind fun t912 => (if t912 = true then ((impl_SortList.f k l0).bind fun t914 => (impl_FromGens.l0 k t914 (t914.length : Int) 0 ([] : List Int))) else (some (([] : List Int), false)))
theorem impl_FromGens.calls (k : Nat) (A0 : Option Addr) (c0 : Nat) (l0 : List Int) (r1 : List Int) (r2 : Bool) (w : World) (hr0 : Kd.C (Kd.int .i64) w A0 l0.length l0) (hc0 : l0.length ≤ c0) (h : impl_FromGens.f k l0 = some (r1, r2)) :
 Calls Try.prog 37 #[.slice A0 l0.length c0] w fun e w' => ∃ v0_ : Value, e = .returned (.tuple #[.agg #[v0_], .bool r2]) ∧ Kd.R (Kd.int .i64) 3 w' w.heap.size (fun _ => True) v0_ r1 ∧ Below w.heap.size w w' := by
 have hu26 := Try.underlying26
 have HR0 := Aside0.mk hr0
 have HC0 := Aside0.mk hc0
 clear hr0 hc0
 have HB := Aside0.mk (Below.refl w.heap.size w)
 have H := h
 clear h
 unfold impl_FromGens.f at H
 obtain ⟨t912, A2, H⟩ := ob_ H
 by_cases c3 : t912 = true
 rotate_left
 · replace c3 := Bool.eq_false_iff.mpr c3
   subst c3
   rw [if_neg (show ¬ (false = true) by decide)] at H
   simp only [Option.some.injEq, Prod.mk.injEq] at H
   obtain ⟨rfl, rfl⟩ := H
   go_enter Try.func37, Try.ntmps37
   go_wp2_with (first | ((with_reducible refine gate_dst (N := 2) rfl ?_); refine bx_ 2 #[.slice none 0 0] 26 ?_; intro gb911 hg w50 hbox hb; have BK911 := Aside0.mk (hbox); have GW911 := gw_ hg HB; have GE911 := gw_ hg HB; replace HB := bo_ HB hb; clear hb hbox hg) | ((with_reducible refine gate_callee (f := 68) rfl ?_); refine gL_ (some 8) Try.func68 #[.slice A0 l0.length c0] ?_; (with_reducible refine (impl_usable.calls k _ _ l0 false _ ?side1 ?side2 A2.out).mono ?_); (case side1 => exact ch_ HR0 HB); (case side2 => exact HC0.out); rintro e w' ⟨rfl, ⟨nd, rfl⟩⟩; refine ⟨_, rfl, ?_⟩; (try (rw [drewN_self w50]; generalize hq_ : World.drewN w50 _ = w50; have n0_ : Aside0 (w50.heap[gb911]? = some (.cells #[.slice none 0 0] 26 (0, 0))) := ⟨by rw [← hq_]; exact (be_ BK911.out)⟩; have n1_ : Aside0 (Below w.heap.size w w50) := ⟨by rw [← hq_]; exact (bq_ HB)⟩; clear BK911 HB hq_; have BK911 := n0_; have HB := n1_; clear n0_ n1_)); have hcz51_0 := cz_ BK911; have hfz51_0 := blk_frozen BK911.out 0))
   refine bodyPost_ret (results_ct rfl _ _ gb911 26 #[.slice none 0 0] (0, 0) _ rfl (bz_ BK911) Try.underlying26 rfl (by kernel_rfl)) rfl ?_
   exact ⟨_, rf_, by first | exact Kd.R_nil _ _ _ _ _ | exact Kd.N_nil _ _ _ _ _ | exact Kd.V_nil _ _ _ _ _ | exact Kd.Q_nil _ _ _ _ _ | exact Kd.S_nil _ _ _ _ _, bq_ HB⟩
 subst c3
 rw [if_pos rfl] at H
 obtain ⟨t914, A4, H⟩ := ob_ H
 have H' := Aside0.mk H
 clear H
 go_enter Try.func37, Try.ntmps37
 go_wp2_with (first | ((with_reducible refine gate_dst (N := 2) rfl ?_); refine bx_ 2 #[.slice none 0 0] 26 ?_; intro gb911 hg w5 hbox hb; have BK911 := Aside0.mk (hbox); have GW911 := gw_ hg HB; have GE911 := gw_ hg HB; replace HB := bo_ HB hb; clear hb hbox hg) | ((with_reducible refine gate_callee (f := 68) rfl ?_); refine gL_ (some 8) Try.func68 #[.slice A0 l0.length c0] ?_; (with_reducible refine (impl_usable.calls k _ _ l0 true _ ?side1 ?side2 A2.out).mono ?_); (case side1 => exact ch_ HR0 HB); (case side2 => exact HC0.out); rintro e w' ⟨rfl, ⟨nd, rfl⟩⟩; refine ⟨_, rfl, ?_⟩; (try (rw [drewN_self w5]; generalize hq_ : World.drewN w5 _ = w5; have n0_ : Aside0 (w5.heap[gb911]? = some (.cells #[.slice none 0 0] 26 (0, 0))) := ⟨by rw [← hq_]; exact (be_ BK911.out)⟩; have n1_ : Aside0 (Below w.heap.size w w5) := ⟨by rw [← hq_]; exact (bq_ HB)⟩; clear BK911 HB hq_; have BK911 := n0_; have HB := n1_; clear n0_ n1_))) | ((with_reducible refine gate_dst (N := 4) rfl ?_); refine bx_ 4 #[.slice none 0 0] 26 ?_; intro gb913 hg w6 hbox hb; have BK913 := Aside0.mk (hbox); have GW913 := gq_ hg (bq_ HB); have GE913 := gq_ hg (bq_ HB); replace HB := bp_ HB hb; have NB911_913 := nl_ hg BK911; have NB913_911 := ng_ hg BK911; replace BK911 := bk_ BK911 hb; clear hb hbox hg; have hnb7 := NB913_911.out; have hnc7 := NB911_913.out; have hcz8_0 := cz_ BK913; have hfz8_0 := blk_frozen BK913.out 0) | ((with_reducible refine gate_callee (f := 69) rfl ?_); refine gL_ (some 13) Try.func69 #[.slice A0 l0.length c0] ?_; (with_reducible refine (impl_SortList.calls k _ _ l0 t914 _ ?side1 ?side2 A4.out).mono ?_); (case side1 => exact Kd.C_below HR0.out (bq_ HB)); (case side2 => exact HC0.out); rintro e w9 ⟨v915, rfl, ho0, hb⟩; refine ⟨_, rfl, ?_⟩; have HO916 := Aside0.mk (Kd.R_lower ho0 (below_size (bq_ HB))); replace BK911 := Aside0.mk (blk_below (g := gb911) (o := .cells #[.slice none 0 0] 26 (0, 0)) (ba_ BK911) hb); replace BK913 := Aside0.mk (blk_below (g := gb913) (o := .cells #[.slice none 0 0] 26 (0, 0)) (bz_ BK913) hb); replace HB := bp_ HB hb; (try clear hb); (try clear ho0); obtain ⟨Ao10, co10, eo10⟩ := Kd.R_slice HO916.out; subst eo10))
 go_loopg [15] k (fun kq v15 w' => ∃ (x15_1 : Int) (x914000_1 : List Int) (u914000 : Value), v15 = .int .i64 x15_1 ∧ Aside0 (impl_FromGens.l0 kq t914 (t914.length : Int) x15_1 x914000_1 = some (r1, r2)) ∧ Aside0 (kq ≤ k) ∧ Aside0 (Kd.R (Kd.int .i64) 3 w' w.heap.size (fun k_ => some k_ ≠ (u914000 : Value).ownBlock) (.slice Ao10 t914.length co10) t914) ∧ Aside0 (Kd.R (Kd.int .i64) 3 w' w.heap.size (fun k_ => some k_ ≠ ((.slice Ao10 t914.length co10) : Value).ownBlock) u914000 x914000_1) ∧ Aside0 (w'.heap[gb911]? = some (.cells #[(.slice none 0 0)] 26 (0, 0))) ∧ Aside0 (w'.heap[gb913]? = some (.cells #[u914000] 26 (0, 0))) ∧ Aside0 (Below w.heap.size w w'))
 case atStart => exact ⟨(0), (([] : List Int)), (.slice none 0 0), rs_, H', ⟨Nat.le_refl _⟩, ⟨by (with_reducible repeat (first | apply Kd.R_alloc | apply Kd.R_drewN | apply Kd.R_drew)); exact Kd.R_mono HO916.out (fun _ hk => (by simp [Value.ownBlock]))⟩, ⟨by first | exact Kd.R_nil _ _ _ _ _ | exact Kd.N_nil _ _ _ _ _ | exact Kd.V_nil _ _ _ _ _ | exact Kd.Q_nil _ _ _ _ _ | exact Kd.S_nil _ _ _ _ _⟩, ⟨be_ BK911.out⟩, ⟨be_ BK913.out⟩, ⟨bq_ HB⟩⟩
 case round =>
  clear H'
  try clear hcz8_0
  try clear hfz8_0
  obtain ⟨x15_1, x914000_1, u914000, rfl, HA, HK1, HO_13, HO_914000, BK911, BK913, HB⟩ := hrel
  cases gk with
  | zero => exact absurd HA.out (by simp [impl_FromGens.l0])
  | succ k1 =>
   have H := HA.out
   clear HA
   simp only [impl_FromGens.l0] at H
   by_cases c11 : x15_1 < (t914.length : Int)
   rotate_left
   · rw [if_neg c11] at H
     have c11b0 : decide (x15_1 < (t914.length : Int)) = false := decide_eq_false c11
     clear c11
     obtain ⟨t925, A37, H⟩ := ob_ H
     by_cases c38 : t925 = true
     · subst c38
       rw [if_pos rfl] at H
       simp only [Option.some.injEq, Prod.mk.injEq] at H
       obtain ⟨rfl, rfl⟩ := H
       have hnb39 := NB913_911.out
       have hnc39 := NB911_913.out
       have hcz40_0 := cz_ BK913
       have hfz40_0 := blk_frozen BK913.out 0
       obtain ⟨Ao41, co41, eo41⟩ := Kd.R_slice HO_914000.out
       subst eo41
       go_wp2_with (first | ((with_reducible refine gate_callee (f := 24) rfl ?_); refine gL_ (some 38) Try.func24 #[.agg #[.slice Ao41 x914000_1.length co41]] ?_; (with_reducible refine (impl_IsSemigroup.calls k1 _ _ x914000_1 true _ ?side1 ?side2 A37.out).mono ?_); (case side1 => exact ce_ ((Kd.R_reads' HO_914000.out).2.2)); (case side2 => exact (Kd.R_reads' HO_914000.out).2.1); rintro e w42 ⟨rfl, hb⟩; refine ⟨_, rfl, ?_⟩; replace HO_13 := Aside0.mk (Kd.R_below (re_ HO_13.out) hb); replace HO_914000 := Aside0.mk (Kd.R_below (re_ HO_914000.out) hb); replace BK911 := bk_ BK911 hb; replace BK913 := bk_ BK913 hb; replace HB := bp_ HB hb; (try clear hb); have hcz43_0 := cz_ BK913; have hfz43_0 := blk_frozen BK913.out 0; have hcz44_0 := cz_ BK911; have hfz44_0 := blk_frozen BK911.out 0))
       refine bodyPost_ret (results_ct rfl _ _ gb911 26 #[.slice Ao41 x914000_1.length co41] (0, 0) _ rfl (bz_ BK911) Try.underlying26 rfl (by kernel_rfl)) rfl ?_
       exact ⟨_, rf_, by (with_reducible repeat (first | apply Kd.R_alloc | apply Kd.R_drewN | apply Kd.R_drew)); exact Kd.R_mono (Kd.R_far (p := ⟨gb911, 0, none⟩) (Kd.R_types HO_914000.out BK911.out (by decide)) (fun _ hk => hk.2) (.slice Ao41 x914000_1.length co41)) (fun _ hk => trivial), bq_ HB⟩
     replace c38 := Bool.eq_false_iff.mpr c38
     subst c38
     rw [if_neg (show ¬ (false = true) by decide)] at H
     simp only [Option.some.injEq, Prod.mk.injEq] at H
     obtain ⟨rfl, rfl⟩ := H
     have hnb45 := NB913_911.out
     have hnc45 := NB911_913.out
     have hcz46_0 := cz_ BK913
     have hfz46_0 := blk_frozen BK913.out 0
     obtain ⟨Ao47, co47, eo47⟩ := Kd.R_slice HO_914000.out
     subst eo47
     go_wp2_with (first | ((with_reducible refine gate_callee (f := 24) rfl ?_); refine gL_ (some 38) Try.func24 #[.agg #[.slice Ao47 x914000_1.length co47]] ?_; (with_reducible refine (impl_IsSemigroup.calls k1 _ _ x914000_1 false _ ?side1 ?side2 A37.out).mono ?_); (case side1 => exact ce_ ((Kd.R_reads' HO_914000.out).2.2)); (case side2 => exact (Kd.R_reads' HO_914000.out).2.1); rintro e w48 ⟨rfl, hb⟩; refine ⟨_, rfl, ?_⟩; replace HO_13 := Aside0.mk (Kd.R_below (re_ HO_13.out) hb); replace HO_914000 := Aside0.mk (Kd.R_below (re_ HO_914000.out) hb); replace BK911 := bk_ BK911 hb; replace BK913 := bk_ BK913 hb; replace HB := bp_ HB hb; (try clear hb); have hcz49_0 := cz_ BK911; have hfz49_0 := blk_frozen BK911.out 0))
     refine bodyPost_ret (results_ct rfl _ _ gb911 26 #[.slice none 0 0] (0, 0) _ rfl (bz_ BK911) Try.underlying26 rfl (by kernel_rfl)) rfl ?_
     exact ⟨_, rf_, by first | exact Kd.R_nil _ _ _ _ _ | exact Kd.N_nil _ _ _ _ _ | exact Kd.V_nil _ _ _ _ _ | exact Kd.Q_nil _ _ _ _ _ | exact Kd.S_nil _ _ _ _ _, bq_ HB⟩
   rw [if_pos c11] at H
   have c11b0 : decide (x15_1 < (t914.length : Int)) = true := decide_eq_true c11
   clear c11
   obtain ⟨c12b0, H⟩ := ipd_ H
   obtain ⟨c13b0, H⟩ := ipd_ H
   by_cases c14 : (x914000_1.length : Int) = 0
   · rw [if_pos c14] at H
     have c14b0 : ((x914000_1.length : Int) == 0) = true := beq_iff_eq.mpr c14
     have c14b1 : ((x914000_1.length : Int) != 0) = false := bne_eq_false_iff_eq.mpr c14
     clear c14
     obtain ⟨c15, H⟩ := ip_ H
     have LMc15 := Aside0.mk c15
     clear c15
     obtain ⟨y918, hy918⟩ : ∃ y_ : List Int, y_ = (x914000_1 ++ [rd t914 x15_1]) := ⟨_, rfl⟩
     replace H : (impl_FromGens.l0 k1 t914 (t914.length : Int) (wrap64 (x15_1 + 1)) y918) = some (r1, r2) := by subst hy918; exact H
     have Ny918 := Aside0.mk hy918
     clear hy918
     have H' := Aside0.mk H
     clear H
     have p917 : 0 ≤ (x15_1 : Int) := od_
     have q917 : x15_1 < (t914.length : Int) := od_
     obtain ⟨ad917, e917, hx917_0⟩ := Kd.at_int (Kd.R_reads' HO_13.out).2.2 x15_1 p917 q917
     cases e917
     replace p917 := eq_true p917
     replace q917 := eq_true q917
     have hnb16 := NB913_911.out
     have hnc16 := NB911_913.out
     have hcz17_0 := cz_ BK913
     have hfz17_0 := blk_frozen BK913.out 0
     obtain ⟨Ao18, co18, eo18⟩ := Kd.R_slice HO_914000.out
     subst eo18
     go_wp2_with (first | ((with_reducible refine gate_builtin (b := .append) (xs := #[.tmp 31, .tmp 33]) rfl ?_); at_builtin; refine Kd.R_append (Kd.int .i64) (w0 := w) w.heap.size rfl (.tmp 31) (.tmp 33) 24 3 (.int .i64 0) 8 rfl Try.underlying24 info3 rfl (by decide) (by omega) (.slice Ao18 x914000_1.length co18) x914000_1 (rd t914 x15_1) [.int .i64 (rd t914 x15_1)] (fun k_ => some k_ ≠ (.slice (some ad917) t914.length co10 : Value).ownBlock) (fun _ => False) rfl rfl ?aP (fun _ hk => hk.elim) ?aF ?aO ?aB ?aS ?aL ?_; (case aP => exact rfl); (case aB => exact (bq_ HB)); (case aF => exact (fun k_ hk => Kd.fresh' (Kd.R_lt (re_ HO_13.out)) k_ hk)); (case aO => exact (re_ HO_914000.out)); (case aS => exact (below_size (bq_ HB))); (case aL => have := LMc15.out; omega); intro v919 w19 ho hb hg hat; rw [← Ny918.out] at ho; replace HO_13 := Aside0.mk (Kd.R_after (ok := (fun _ => True)) (by (with_reducible repeat (first | apply Kd.R_alloc | apply Kd.R_drewN | apply Kd.R_drew)); exact Kd.R_mono HO_13.out (fun _ hk => ⟨trivial, hk⟩)) hg hat); replace BK911 := Aside0.mk (blk_grown (be_ BK911.out) hg (Kd.R_ne HO_914000.out BK911.out (by decide))); replace BK913 := Aside0.mk (blk_grown (be_ BK913.out) hg (Kd.R_ne HO_914000.out BK913.out (by decide))); replace HB := Aside0.mk (hb); have HO920 := Aside0.mk (ho); clear HO_914000; clear ho hb hg hat; obtain ⟨Ao20, co20, eo20⟩ := Kd.R_slice HO920.out; subst eo20; have hcz21_0 := cz_ BK913; have hfz21_0 := blk_frozen BK913.out 0))
     go_roundg k1
     case measure => have := HK1.out; omega
     case rel => exact ⟨(wrap64 (x15_1 + 1)), (y918), (.slice Ao20 y918.length co20), rs_, H', ⟨by have := HK1.out; omega⟩, ⟨by (with_reducible repeat (first | apply Kd.R_alloc | apply Kd.R_drewN | apply Kd.R_drew)); exact Kd.R_mono (Kd.R_far (p := ⟨gb913, 0, none⟩) (Kd.R_types HO_13.out BK913.out (by decide)) (fun _ hk => hk.2) (.slice Ao20 y918.length co20)) (fun _ hk => hk.1.2)⟩, ⟨by (with_reducible repeat (first | apply Kd.R_alloc | apply Kd.R_drewN | apply Kd.R_drew)); exact Kd.R_mono (Kd.R_far (p := ⟨gb913, 0, none⟩) (Kd.R_types HO920.out BK913.out (by decide)) (fun _ hk => hk.2) (.slice Ao20 y918.length co20)) (fun _ hk => hk.1)⟩, ⟨ba_ BK911⟩, ⟨bz_ BK913⟩, ⟨bq_ HB⟩⟩
   rw [if_neg c14] at H
   have c14b0 : ((x914000_1.length : Int) == 0) = false := beq_eq_false_iff_ne.mpr c14
   have c14b1 : ((x914000_1.length : Int) != 0) = true := bne_iff_ne.mpr c14
   have c14b2 : ¬ (x914000_1 = []) := fun h_ => c14 (by rw [h_]; rfl)
   obtain ⟨t921, A22, H⟩ := ob_ H
   by_cases c23 : t921 = true
   · subst c23
     rw [if_pos rfl] at H
     have H' := Aside0.mk H
     clear H
     have p917 : 0 ≤ (x15_1 : Int) := od_
     have q917 : x15_1 < (t914.length : Int) := od_
     obtain ⟨ad917, e917, hx917_0⟩ := Kd.at_int (Kd.R_reads' HO_13.out).2.2 x15_1 p917 q917
     cases e917
     replace p917 := eq_true p917
     replace q917 := eq_true q917
     have hnb24 := NB913_911.out
     have hnc24 := NB911_913.out
     have hcz25_0 := cz_ BK913
     have hfz25_0 := blk_frozen BK913.out 0
     obtain ⟨Ao26, co26, eo26⟩ := Kd.R_slice HO_914000.out
     subst eo26
     go_wp2_with (first | (go_at_call 49; (with_reducible refine (impl_Generates.calls k1 _ _ x914000_1 (rd t914 x15_1) true _ ?side1 ?side2 A22.out).mono ?_); (case side1 => exact ce_ ((Kd.R_reads' HO_914000.out).2.2)); (case side2 => exact (Kd.R_reads' HO_914000.out).2.1); rintro e w27 ⟨rfl, hb⟩; replace HO_13 := Aside0.mk (Kd.R_below (re_ HO_13.out) hb); replace HO_914000 := Aside0.mk (Kd.R_below (re_ HO_914000.out) hb); replace BK911 := bk_ BK911 hb; replace BK913 := bk_ BK913 hb; replace HB := bp_ HB hb; (try clear hb)))
     go_roundg k1
     case measure => have := HK1.out; omega
     case rel => exact ⟨(wrap64 (x15_1 + 1)), (x914000_1), (.slice Ao26 x914000_1.length co26), rs_, H', ⟨by have := HK1.out; omega⟩, ⟨re_ HO_13.out⟩, ⟨re_ HO_914000.out⟩, ⟨be_ BK911.out⟩, ⟨be_ BK913.out⟩, ⟨bq_ HB⟩⟩
   replace c23 := Bool.eq_false_iff.mpr c23
   subst c23
   rw [if_neg (show ¬ (false = true) by decide)] at H
   obtain ⟨c28, H⟩ := ip_ H
   have LMc28 := Aside0.mk c28
   clear c28
   obtain ⟨y922, hy922⟩ : ∃ y_ : List Int, y_ = (x914000_1 ++ [rd t914 x15_1]) := ⟨_, rfl⟩
   replace H : (impl_FromGens.l0 k1 t914 (t914.length : Int) (wrap64 (x15_1 + 1)) y922) = some (r1, r2) := by subst hy922; exact H
   have Ny922 := Aside0.mk hy922
   clear hy922
   have H' := Aside0.mk H
   clear H
   have p917 : 0 ≤ (x15_1 : Int) := od_
   have q917 : x15_1 < (t914.length : Int) := od_
   obtain ⟨ad917, e917, hx917_0⟩ := Kd.at_int (Kd.R_reads' HO_13.out).2.2 x15_1 p917 q917
   cases e917
   replace p917 := eq_true p917
   replace q917 := eq_true q917
   have hnb29 := NB913_911.out
   have hnc29 := NB911_913.out
   have hcz30_0 := cz_ BK913
   have hfz30_0 := blk_frozen BK913.out 0
   obtain ⟨Ao31, co31, eo31⟩ := Kd.R_slice HO_914000.out
   subst eo31
   go_wp2_with (first | (go_at_call 49; (with_reducible refine (impl_Generates.calls k1 _ _ x914000_1 (rd t914 x15_1) false _ ?side1 ?side2 A22.out).mono ?_); (case side1 => exact ce_ ((Kd.R_reads' HO_914000.out).2.2)); (case side2 => exact (Kd.R_reads' HO_914000.out).2.1); rintro e w32 ⟨rfl, hb⟩; replace HO_13 := Aside0.mk (Kd.R_below (re_ HO_13.out) hb); replace HO_914000 := Aside0.mk (Kd.R_below (re_ HO_914000.out) hb); replace BK911 := bk_ BK911 hb; replace BK913 := bk_ BK913 hb; replace HB := bp_ HB hb; (try clear hb); have hcz33_0 := cz_ BK913; have hfz33_0 := blk_frozen BK913.out 0) | ((with_reducible refine gate_builtin (b := .append) (xs := #[.tmp 31, .tmp 33]) rfl ?_); at_builtin; refine Kd.R_append (Kd.int .i64) (w0 := w) w.heap.size rfl (.tmp 31) (.tmp 33) 24 3 (.int .i64 0) 8 rfl Try.underlying24 info3 rfl (by decide) (by omega) (.slice Ao31 x914000_1.length co31) x914000_1 (rd t914 x15_1) [.int .i64 (rd t914 x15_1)] (fun k_ => some k_ ≠ (.slice (some ad917) t914.length co10 : Value).ownBlock) (fun _ => False) rfl rfl ?aP (fun _ hk => hk.elim) ?aF ?aO ?aB ?aS ?aL ?_; (case aP => exact rfl); (case aB => exact (bq_ HB)); (case aF => exact (fun k_ hk => Kd.fresh' (Kd.R_lt (re_ HO_13.out)) k_ hk)); (case aO => exact (re_ HO_914000.out)); (case aS => exact (below_size (bq_ HB))); (case aL => have := LMc28.out; omega); intro v923 w34 ho hb hg hat; rw [← Ny922.out] at ho; replace HO_13 := Aside0.mk (Kd.R_after (ok := (fun _ => True)) (by (with_reducible repeat (first | apply Kd.R_alloc | apply Kd.R_drewN | apply Kd.R_drew)); exact Kd.R_mono HO_13.out (fun _ hk => ⟨trivial, hk⟩)) hg hat); replace BK911 := Aside0.mk (blk_grown (be_ BK911.out) hg (Kd.R_ne HO_914000.out BK911.out (by decide))); replace BK913 := Aside0.mk (blk_grown (be_ BK913.out) hg (Kd.R_ne HO_914000.out BK913.out (by decide))); replace HB := Aside0.mk (hb); have HO924 := Aside0.mk (ho); clear HO_914000; clear ho hb hg hat; obtain ⟨Ao35, co35, eo35⟩ := Kd.R_slice HO924.out; subst eo35; have hcz36_0 := cz_ BK913; have hfz36_0 := blk_frozen BK913.out 0))
   go_roundg k1
   case measure => have := HK1.out; omega
   case rel => exact ⟨(wrap64 (x15_1 + 1)), (y922), (.slice Ao35 y922.length co35), rs_, H', ⟨by have := HK1.out; omega⟩, ⟨by (with_reducible repeat (first | apply Kd.R_alloc | apply Kd.R_drewN | apply Kd.R_drew)); exact Kd.R_mono (Kd.R_far (p := ⟨gb913, 0, none⟩) (Kd.R_types HO_13.out BK913.out (by decide)) (fun _ hk => hk.2) (.slice Ao35 y922.length co35)) (fun _ hk => hk.1.2)⟩, ⟨by (with_reducible repeat (first | apply Kd.R_alloc | apply Kd.R_drewN | apply Kd.R_drew)); exact Kd.R_mono (Kd.R_far (p := ⟨gb913, 0, none⟩) (Kd.R_types HO924.out BK913.out (by decide)) (fun _ hk => hk.2) (.slice Ao35 y922.length co35)) (fun _ hk => hk.1)⟩, ⟨ba_ BK911⟩, ⟨bz_ BK913⟩, ⟨bq_ HB⟩⟩
def impl_BlowUp.l0 : Nat → List Int → List Int → Int → Int → List Int → Option (List Int × Bool)
 | 0, _, _, _, _, _ => none
 | k + 1, x4, x18, x19, x20, x927000 => if x20 < x19 then (if 0 ≤ x20 then (if x20 < (x18.length : Int) then (if 0 < (x927000.length : Int) then (if x4.length < 17592186044416 then (impl_BlowUp.l0 k (x4 ++ [wrap64 ((rd x18 x20) - (rd x927000 0))]) x18 x19 (wrap64 (x20 + 1)) x927000) else (none)) else (none)) else (none)) else (none)) else ((impl_FromGens.f k x4).bind fun bt939 => (some (bt939.1, bt939.2)))
def impl_BlowUp.f (k : Nat) (l0_0 : List Int) : Option (List Int × Bool) := (impl_IsSemigroup.f k l0_0).bind fun t928 => (if t928 = true then (if 0 < (l0_0.length : Int) then (if 1 ≤ (l0_0.length : Int) then (impl_BlowUp.l0 k (([rd l0_0 0] : List Int)) (l0_0.drop 1) ((l0_0.drop 1).length : Int) 0 l0_0) else (none)) else (none)) else (some (([] : List Int), false)))
theorem impl_BlowUp.calls (k : Nat) (A0_0 : Option Addr) (c0_0 : Nat) (l0_0 : List Int) (r1 : List Int) (r2 : Bool) (w : World) (hr0_0 : Kd.C (Kd.int .i64) w A0_0 l0_0.length l0_0) (hc0_0 : l0_0.length ≤ c0_0) (h : impl_BlowUp.f k l0_0 = some (r1, r2)) :
 Calls Try.prog 12 #[.agg #[.slice A0_0 l0_0.length c0_0]] w fun e w' => ∃ v0_ : Value, e = .returned (.tuple #[.agg #[v0_], .bool r2]) ∧ Kd.R (Kd.int .i64) 3 w' w.heap.size (fun _ => True) v0_ r1 ∧ Below w.heap.size w w' := by
 have hu26 := Try.underlying26
 have HR0_0 := Aside0.mk hr0_0
 have HC0_0 := Aside0.mk hc0_0
 clear hr0_0 hc0_0
 have HB := Aside0.mk (Below.refl w.heap.size w)
 have H := h
 clear h
 unfold impl_BlowUp.f at H
 obtain ⟨t928, A2, H⟩ := ob_ H
 by_cases c3 : t928 = true
 rotate_left
 · replace c3 := Bool.eq_false_iff.mpr c3
   subst c3
   rw [if_neg (show ¬ (false = true) by decide)] at H
   simp only [Option.some.injEq, Prod.mk.injEq] at H
   obtain ⟨rfl, rfl⟩ := H
   go_enter Try.func12, Try.ntmps12
   go_wp2_with (first | ((with_reducible refine gate_dst (N := 1) rfl ?_); refine bx_ 1 #[.slice A0_0 l0_0.length c0_0] 26 ?_; intro gb926 hg w30 hbox hb; have BK926 := Aside0.mk (hbox); have GW926 := gw_ hg HB; have GE926 := gw_ hg HB; replace HB := bo_ HB hb; clear hb hbox hg) | ((with_reducible refine gate_dst (N := 2) rfl ?_); refine bx_ 2 #[.slice none 0 0] 26 ?_; intro gb927 hg w31 hbox hb; have BK927 := Aside0.mk (hbox); have GW927 := gq_ hg (bq_ HB); have GE927 := gq_ hg (bq_ HB); replace HB := bp_ HB hb; have NB926_927 := nl_ hg BK926; have NB927_926 := ng_ hg BK926; replace BK926 := bk_ BK926 hb; clear hb hbox hg; have hnb32 := NB926_927.out; have hnc32 := NB927_926.out; have hcz33_0 := cz_ BK926; have hfz33_0 := blk_frozen BK926.out 0) | ((with_reducible refine gate_callee (f := 24) rfl ?_); refine gL_ (some 8) Try.func24 #[.agg #[.slice A0_0 l0_0.length c0_0]] ?_; (with_reducible refine (impl_IsSemigroup.calls k _ _ l0_0 false _ ?side1 ?side2 A2.out).mono ?_); (case side1 => exact ch_ HR0_0 HB); (case side2 => exact HC0_0.out); rintro e w34 ⟨rfl, hb⟩; refine ⟨_, rfl, ?_⟩; replace BK926 := bk_ BK926 hb; replace BK927 := bk_ BK927 hb; replace HB := bp_ HB hb; (try clear hb); have hcz35_0 := cz_ BK927; have hfz35_0 := blk_frozen BK927.out 0))
   refine bodyPost_ret (results_ct rfl _ _ gb927 26 #[.slice none 0 0] (0, 0) _ rfl (bz_ BK927) Try.underlying26 rfl (by kernel_rfl)) rfl ?_
   exact ⟨_, rf_, by first | exact Kd.R_nil _ _ _ _ _ | exact Kd.N_nil _ _ _ _ _ | exact Kd.V_nil _ _ _ _ _ | exact Kd.Q_nil _ _ _ _ _ | exact Kd.S_nil _ _ _ _ _, bq_ HB⟩
 subst c3
 rw [if_pos rfl] at H
 obtain ⟨c4, H⟩ := ip_ H
 have c4b0 : decide (0 < (l0_0.length : Int)) = true := decide_eq_true c4
 have c4b1 : decide (0 < l0_0.length) = true := decide_eq_true (by omega)
 clear c4
 obtain ⟨y930, hy930⟩ : ∃ y_ : List Int, y_ = (([rd l0_0 0] : List Int)) := ⟨_, rfl⟩
 replace H : (if 1 ≤ (l0_0.length : Int) then (impl_BlowUp.l0 k y930 (l0_0.drop 1) ((l0_0.drop 1).length : Int) 0 l0_0) else (none)) = some (r1, r2) := by subst hy930; exact H
 have Ny930 := Aside0.mk hy930
 clear hy930
 obtain ⟨c5, H⟩ := ip_ H
 have c5b0 := eq_true c5
 have c5b1 : decide (1 ≤ (l0_0.length : Int)) = true := decide_eq_true c5
 clear c5
 obtain ⟨yd505, hyd505⟩ : ∃ y_ : List Int, y_ = (l0_0.drop 1) := ⟨_, rfl⟩
 rw [← hyd505] at H
 have Hyd505 := Aside0.mk hyd505
 clear hyd505
 have H' := Aside0.mk H
 clear H
 go_enter Try.func12, Try.ntmps12
 go_wp2_with (first | ((with_reducible refine gate_dst (N := 1) rfl ?_); refine bx_ 1 #[.slice A0_0 l0_0.length c0_0] 26 ?_; intro gb926 hg w6 hbox hb; have BK926 := Aside0.mk (hbox); have GW926 := gw_ hg HB; have GE926 := gw_ hg HB; replace HB := bo_ HB hb; clear hb hbox hg) | ((with_reducible refine gate_dst (N := 2) rfl ?_); refine bx_ 2 #[.slice none 0 0] 26 ?_; intro gb927 hg w7 hbox hb; have BK927 := Aside0.mk (hbox); have GW927 := gq_ hg (bq_ HB); have GE927 := gq_ hg (bq_ HB); replace HB := bp_ HB hb; have NB926_927 := nl_ hg BK926; have NB927_926 := ng_ hg BK926; replace BK926 := bk_ BK926 hb; clear hb hbox hg; have hnb8 := NB926_927.out; have hnc8 := NB927_926.out; have hcz9_0 := cz_ BK926; have hfz9_0 := blk_frozen BK926.out 0) | ((with_reducible refine gate_callee (f := 24) rfl ?_); refine gL_ (some 8) Try.func24 #[.agg #[.slice A0_0 l0_0.length c0_0]] ?_; (with_reducible refine (impl_IsSemigroup.calls k _ _ l0_0 true _ ?side1 ?side2 A2.out).mono ?_); (case side1 => exact ch_ HR0_0 HB); (case side2 => exact HC0_0.out); rintro e w10 ⟨rfl, hb⟩; refine ⟨_, rfl, ?_⟩; replace BK926 := bk_ BK926 hb; replace BK927 := bk_ BK927 hb; replace HB := bp_ HB hb; (try clear hb); have hcz11_0 := cz_ BK926; have hfz11_0 := blk_frozen BK926.out 0; have p929 : 0 ≤ (0 : Int) := (by omega); have q929 : 0 < (l0_0.length : Int) := od_; obtain ⟨ad929, e929, hx929_0⟩ := Kd.at_int HR0_0.out 0 p929 q929; cases e929; have qi929 : (0 < l0_0.length) = True := eq_true (by omega); (try rw [show ((0 : Int)).toNat = 0 from rfl] at hx929_0); (try rw [Addr.add_zero'] at hx929_0); (try replace hx929_0 := (HB.out.cell (World.block_lt_of_cell? w _ hx929_0)).trans hx929_0); replace p929 := eq_true p929; replace q929 := eq_true q929) | ((with_reducible refine gate_dst (N := 15) rfl ?_); refine Kd.R_lit (Kd.int .i64) _ 3 ?hg (N := 15) ?hd (xs := ([rd l0_0 0] : List Int)) (inner := [.int .i64 (rd l0_0 0)]) (ok := fun _ => True) (okp := fun _ => True) ?hr ?hp (fun _ hk => hk) trivial (Below.refl _ _) (Nat.le_refl _) (by simp) ?_; (case hd => rfl); (case hg => rfl); (case hr => first | (go_simp; done) | (go_simp; rfl)); (case hp => exact (Reps.one (show Kd.M (Kd.int .i64) _ _ _ (rd l0_0 0) [.int .i64 (rd l0_0 0)] from rfl) (Reps.none _ _))); intro v931 w12 ho13 hb hg_ hnew_; clear hg_ hnew_; (first | rw [← Ny930.out] at ho13 | (simp only [Int.reduceToNat] at ho13; rw [← Ny930.out] at ho13)); have HO932 := Aside0.mk (Kd.R_lower ho13 (below_size (bq_ HB))); replace BK926 := bk_ BK926 hb; replace BK927 := bk_ BK927 hb; replace HB := bp_ HB hb; clear hb ho13; have hcz14_0 := cz_ BK926; have hfz14_0 := blk_frozen BK926.out 0; obtain ⟨i015, hi015, _, hsz15, _⟩ := info_parts info3; obtain ⟨A15, hcut15, hA15, hC15⟩ := print_drop_of (P := Try.prog) (Value.int .i64) 0 24 3 .i64 Try.underlying24 hi015 hsz15 (some ad929) c0_0 l0_0 1 (by omega) (od_) HC0_0.out; have ed_ : l0_0.drop (1 : Int).toNat = yd505 := Hyd505.out.symm; rw [ed_] at hcut15 hA15 hC15; clear ed_; have HR933 := Aside0.mk (Kd.C_of_reads (h1 := fun _ => rfl) (hA15 _ (Kd.reads_of_C HR0_0.out))); have HC933 := Aside0.mk hC15; clear hA15 hC15 hi015 hsz15))
 go_loopg [4, 20] k (fun kq v4 v20 w' => ∃ (x4_1 : List Int) (x20_1 : Int), v20 = .int .i64 x20_1 ∧ Aside0 (impl_BlowUp.l0 kq x4_1 yd505 (yd505.length : Int) x20_1 l0_0 = some (r1, r2)) ∧ Aside0 (kq ≤ k) ∧ Aside0 (Kd.R (Kd.int .i64) 3 w' w.heap.size (fun _ => True) v4 x4_1) ∧ Aside0 (w'.heap[gb926]? = some (.cells #[(.slice (some ad929) l0_0.length c0_0)] 26 (0, 0))) ∧ Aside0 (w'.heap[gb927]? = some (.cells #[(.slice none 0 0)] 26 (0, 0))) ∧ Aside0 (Below w.heap.size w w'))
 case atStart => exact ⟨(y930), (0), rs_, H', ⟨Nat.le_refl _⟩, ⟨re_ HO932.out⟩, ⟨be_ BK926.out⟩, ⟨be_ BK927.out⟩, ⟨bq_ HB⟩⟩
 case round =>
  clear H'
  try clear c4b0
  try clear c4b1
  try clear c5b0
  try clear c5b1
  try clear hcz11_0
  try clear hcz14_0
  try clear hcz9_0
  try clear hfz11_0
  try clear hfz14_0
  try clear hfz9_0
  try clear hx929_0
  try clear p929
  try clear q929
  obtain ⟨x4_1, x20_1, rfl, HA, HK1, HO_4, BK926, BK927, HB⟩ := hrel
  cases gk with
  | zero => exact absurd HA.out (by simp [impl_BlowUp.l0])
  | succ k1 =>
   have H := HA.out
   clear HA
   simp only [impl_BlowUp.l0] at H
   by_cases c16 : x20_1 < (yd505.length : Int)
   rotate_left
   · rw [if_neg c16] at H
     have c16b0 : decide (x20_1 < (yd505.length : Int)) = false := decide_eq_false c16
     clear c16
     obtain ⟨⟨t939, t942⟩, A24, H⟩ := ob_ H
     (try dsimp only at H)
     simp only [Option.some.injEq, Prod.mk.injEq] at H
     obtain ⟨rfl, rfl⟩ := H
     obtain ⟨Ao25, co25, eo25⟩ := Kd.R_slice HO_4.out
     subst eo25
     go_wp2_with (first | ((with_reducible refine gate_callee (f := 37) rfl ?_); refine gL_ (some 35) Try.func37 #[.slice Ao25 x4_1.length co25] ?_; (with_reducible refine (impl_FromGens.calls k1 _ _ x4_1 t939 t942 _ ?side1 ?side2 A24.out).mono ?_); (case side1 => exact ce_ ((Kd.R_reads' HO_4.out).2.2)); (case side2 => exact (Kd.R_reads' HO_4.out).2.1); rintro e w26 ⟨v940, rfl, ho0, hb⟩; refine ⟨_, rfl, ?_⟩; have HO941 := Aside0.mk (Kd.R_lower (Kd.R_new' ho0 (Kd.R_lt (re_ HO_4.out))) (below_size (bq_ HB))); replace HO_4 := Aside0.mk (Kd.R_elder' (re_ HO_4.out) (Kd.R_base ho0) hb); replace BK926 := bk_ BK926 hb; replace BK927 := bk_ BK927 hb; replace HB := bp_ HB hb; (try clear hb); (try clear ho0); obtain ⟨Ao27, co27, eo27⟩ := Kd.R_slice HO941.out; subst eo27; have hnb28 := NB927_926.out; have hnc28 := NB926_927.out; have hcz29_0 := cz_ BK927; have hfz29_0 := blk_frozen BK927.out 0))
     refine bodyPost_ret (results_ct rfl _ _ gb927 26 #[.slice Ao27 t939.length co27] (0, 0) _ rfl (bz_ BK927) Try.underlying26 rfl (by kernel_rfl)) rfl ?_
     exact ⟨_, rf_, by (with_reducible repeat (first | apply Kd.R_alloc | apply Kd.R_drewN | apply Kd.R_drew)); exact Kd.R_mono (Kd.R_far (p := ⟨gb927, 0, none⟩) (Kd.R_types HO941.out BK927.out (by decide)) (fun _ hk => hk.2) (.slice Ao27 t939.length co27)) (fun _ hk => trivial), bq_ HB⟩
   rw [if_pos c16] at H
   have c16b0 : decide (x20_1 < (yd505.length : Int)) = true := decide_eq_true c16
   clear c16
   obtain ⟨c17b0, H⟩ := ipd_ H
   obtain ⟨c18b0, H⟩ := ipd_ H
   obtain ⟨c19, H⟩ := ip_ H
   have c19b0 : decide (0 < (l0_0.length : Int)) = true := decide_eq_true c19
   have c19b1 : decide (0 < l0_0.length) = true := decide_eq_true (by omega)
   clear c19
   obtain ⟨c20, H⟩ := ip_ H
   have LMc20 := Aside0.mk c20
   clear c20
   obtain ⟨y936, hy936⟩ : ∃ y_ : List Int, y_ = (x4_1 ++ [wrap64 ((rd yd505 x20_1) - (rd l0_0 0))]) := ⟨_, rfl⟩
   replace H : (impl_BlowUp.l0 k1 y936 yd505 (yd505.length : Int) (wrap64 (x20_1 + 1)) l0_0) = some (r1, r2) := by subst hy936; exact H
   have Ny936 := Aside0.mk hy936
   clear hy936
   have H' := Aside0.mk H
   clear H
   have p934 : 0 ≤ (x20_1 : Int) := od_
   have q934 : x20_1 < (yd505.length : Int) := od_
   obtain ⟨ad934, e934, hx934_0⟩ := Kd.at_int HR933.out x20_1 p934 q934
   cases e934
   (try replace hx934_0 := (HB.out.cell (World.block_lt_of_cell? w _ hx934_0)).trans hx934_0)
   replace p934 := eq_true p934
   replace q934 := eq_true q934
   have hnb21 := NB926_927.out
   have hnc21 := NB927_926.out
   have hcz22_0 := cz_ BK926
   have hfz22_0 := blk_frozen BK926.out 0
   have p935 : 0 ≤ (0 : Int) := (by omega)
   have q935 : 0 < (l0_0.length : Int) := od_
   obtain ⟨ad935, e935, hx935_0⟩ := Kd.at_int HR0_0.out 0 p935 q935
   obtain rfl : ad929 = ad935 := (by injection e935)
   have qi935 : (0 < l0_0.length) = True := eq_true (by omega)
   (try rw [show ((0 : Int)).toNat = 0 from rfl] at hx935_0)
   (try rw [Addr.add_zero'] at hx935_0)
   (try replace hx935_0 := (HB.out.cell (World.block_lt_of_cell? w _ hx935_0)).trans hx935_0)
   replace p935 := eq_true p935
   replace q935 := eq_true q935
   go_wp2_with (first | ((with_reducible refine gate_builtin (b := .append) (xs := #[.tmp 24, .tmp 31]) rfl ?_); at_builtin; refine Kd.R_append (Kd.int .i64) (w0 := w) w.heap.size rfl (.tmp 24) (.tmp 31) 24 3 (.int .i64 0) 8 rfl Try.underlying24 info3 rfl (by decide) (by omega) u4 x4_1 (wrap64 ((rd yd505 x20_1) - (rd l0_0 0))) [.int .i64 (wrap64 ((rd yd505 x20_1) - (rd l0_0 0)))] (fun _ => True) (fun _ => False) rfl rfl ?aP (fun _ hk => hk.elim) ?aF ?aO ?aB ?aS ?aL ?_; (case aP => exact rfl); (case aB => exact (bq_ HB)); (case aF => exact (fun _ _ => trivial)); (case aO => exact (re_ HO_4.out)); (case aS => exact (below_size (bq_ HB))); (case aL => have := LMc20.out; omega); intro v937 w23 ho hb hg hat; rw [← Ny936.out] at ho; replace BK926 := Aside0.mk (blk_grown (be_ BK926.out) hg (Kd.R_ne HO_4.out BK926.out (by decide))); replace BK927 := Aside0.mk (blk_grown (be_ BK927.out) hg (Kd.R_ne HO_4.out BK927.out (by decide))); replace HB := Aside0.mk (hb); have HO938 := Aside0.mk (ho); clear HO_4; clear ho hb hg hat))
   go_roundg k1
   case measure => have := HK1.out; omega
   case rel => exact ⟨(y936), (wrap64 (x20_1 + 1)), rs_, H', ⟨by have := HK1.out; omega⟩, ⟨re_ HO938.out⟩, ⟨be_ BK926.out⟩, ⟨be_ BK927.out⟩, ⟨bq_ HB⟩⟩
def impl_MultiplicitySequence.l0 : Nat → List Int → List Int → Option (List Int × Bool)
 | 0, _, _ => none
 | k + 1, x4, x944000 => if 0 < (x944000.length : Int) then (if (rd x944000 0) > 1 then ((impl_BlowUp.f k x944000).bind fun bt950 => (if bt950.2 = true then (if 0 < (bt950.1.length : Int) then (if x4.length < 17592186044416 then (impl_MultiplicitySequence.l0 k (x4 ++ [rd bt950.1 0]) bt950.1) else (none)) else (none)) else (some (([] : List Int), false)))) else (some (x4, true))) else (none)
def impl_MultiplicitySequence.f (k : Nat) (l0_0 : List Int) : Option (List Int × Bool) := (impl_IsSemigroup.f k l0_0).bind fun t944 => (if t944 = true then (if 0 < (l0_0.length : Int) then (impl_MultiplicitySequence.l0 k (([rd l0_0 0] : List Int)) l0_0) else (none)) else (some (([] : List Int), false)))
theorem impl_MultiplicitySequence.calls (k : Nat) (P0_0_ : Nat → Prop) (A0_0 : Option Addr) (c0_0 : Nat) (l0_0 : List Int) (r1 : List Int) (r2 : Bool) (w : World) (hs0_0 : Kd.V (Kd.int .i64) 3 w w.heap.size (fun k_ => P0_0_ k_) (.slice A0_0 l0_0.length c0_0) l0_0) (h : impl_MultiplicitySequence.f k l0_0 = some (r1, r2)) :
 Calls Try.prog 14 #[.agg #[.slice A0_0 l0_0.length c0_0]] w fun e w' => ∃ v0_ : Value, e = .returned (.tuple #[v0_, .bool r2]) ∧ Kd.R (Kd.int .i64) 3 w' w.heap.size (fun k_ => (w.heap.size ≤ k_)) v0_ r1 ∧ Below w.heap.size w w' := by
 have hu26 := Try.underlying26
 have HO0_0 := Aside0.mk (show Kd.V (Kd.int .i64) 3 w w.heap.size (fun k_ => (P0_0_ k_ ∨ w.heap.size ≤ k_)) (.slice A0_0 l0_0.length c0_0) l0_0 from Kd.V_mono hs0_0 (fun k_ hk => .inl hk))
 have HB := Aside0.mk (Below.refl w.heap.size w)
 have H := h
 clear h
 unfold impl_MultiplicitySequence.f at H
 obtain ⟨t944, A2, H⟩ := ob_ H
 by_cases c3 : t944 = true
 rotate_left
 · replace c3 := Bool.eq_false_iff.mpr c3
   subst c3
   rw [if_neg (show ¬ (false = true) by decide)] at H
   simp only [Option.some.injEq, Prod.mk.injEq] at H
   obtain ⟨rfl, rfl⟩ := H
   go_enter Try.func14, Try.ntmps14
   go_wp2_with (first | ((with_reducible refine gate_dst (N := 1) rfl ?_); refine bx_ 1 #[.slice A0_0 l0_0.length c0_0] 26 ?_; intro gb943 hg w35 hbox hb; replace HO0_0 := Aside0.mk (Kd.V_below (Kd.V_elderB (by (with_reducible repeat (first | apply Kd.V_alloc | apply Kd.V_drewN | apply Kd.V_drew)); exact HO0_0.out) gb943 (Nat.le_of_eq hg.symm)) hb); have BK943 := Aside0.mk (hbox); have GW943 := gw_ hg HB; have GE943 := gw_ hg HB; replace HB := bo_ HB hb; clear hb hbox hg; have hcz36_0 := cz_ BK943; have hfz36_0 := blk_frozen BK943.out 0) | ((with_reducible refine gate_callee (f := 24) rfl ?_); refine gL_ (some 8) Try.func24 #[.agg #[.slice A0_0 l0_0.length c0_0]] ?_; (with_reducible refine (impl_IsSemigroup.calls k _ _ l0_0 false _ ?side1 ?side2 A2.out).mono ?_); (case side1 => exact ce_ ((Kd.V_reads' HO0_0.out).2.2)); (case side2 => exact (Kd.V_reads' HO0_0.out).2.1); rintro e w37 ⟨rfl, hb⟩; refine ⟨_, rfl, ?_⟩; replace HO0_0 := Aside0.mk (Kd.V_below (by (with_reducible repeat (first | apply Kd.V_alloc | apply Kd.V_drewN | apply Kd.V_drew)); exact HO0_0.out) hb); replace BK943 := bk_ BK943 hb; replace HB := bp_ HB hb; (try clear hb)))
   go_ret2
   exact ⟨_, rf_, by first | exact Kd.R_nil _ _ _ _ _ | exact Kd.N_nil _ _ _ _ _ | exact Kd.V_nil _ _ _ _ _ | exact Kd.Q_nil _ _ _ _ _ | exact Kd.S_nil _ _ _ _ _, bq_ HB⟩
 subst c3
 rw [if_pos rfl] at H
 obtain ⟨c4, H⟩ := ip_ H
 have c4b0 : decide (0 < (l0_0.length : Int)) = true := decide_eq_true c4
 have c4b1 : decide (0 < l0_0.length) = true := decide_eq_true (by omega)
 clear c4
 obtain ⟨y946, hy946⟩ : ∃ y_ : List Int, y_ = (([rd l0_0 0] : List Int)) := ⟨_, rfl⟩
 replace H : (impl_MultiplicitySequence.l0 k y946 l0_0) = some (r1, r2) := by subst hy946; exact H
 have Ny946 := Aside0.mk hy946
 clear hy946
 have H' := Aside0.mk H
 clear H
 go_enter Try.func14, Try.ntmps14
 go_wp2_with (first | ((with_reducible refine gate_dst (N := 1) rfl ?_); refine bx_ 1 #[.slice A0_0 l0_0.length c0_0] 26 ?_; intro gb943 hg w5 hbox hb; replace HO0_0 := Aside0.mk (Kd.V_below (Kd.V_elderB (by (with_reducible repeat (first | apply Kd.V_alloc | apply Kd.V_drewN | apply Kd.V_drew)); exact HO0_0.out) gb943 (Nat.le_of_eq hg.symm)) hb); have BK943 := Aside0.mk (hbox); have GW943 := gw_ hg HB; have GE943 := gw_ hg HB; replace HB := bo_ HB hb; clear hb hbox hg; have hcz6_0 := cz_ BK943; have hfz6_0 := blk_frozen BK943.out 0) | ((with_reducible refine gate_callee (f := 24) rfl ?_); refine gL_ (some 8) Try.func24 #[.agg #[.slice A0_0 l0_0.length c0_0]] ?_; (with_reducible refine (impl_IsSemigroup.calls k _ _ l0_0 true _ ?side1 ?side2 A2.out).mono ?_); (case side1 => exact ce_ ((Kd.V_reads' HO0_0.out).2.2)); (case side2 => exact (Kd.V_reads' HO0_0.out).2.1); rintro e w7 ⟨rfl, hb⟩; refine ⟨_, rfl, ?_⟩; replace HO0_0 := Aside0.mk (Kd.V_below (by (with_reducible repeat (first | apply Kd.V_alloc | apply Kd.V_drewN | apply Kd.V_drew)); exact HO0_0.out) hb); replace BK943 := bk_ BK943 hb; replace HB := bp_ HB hb; (try clear hb); have hcz8_0 := cz_ BK943; have hfz8_0 := blk_frozen BK943.out 0; have p945 : 0 ≤ (0 : Int) := (by omega); have q945 : 0 < (l0_0.length : Int) := od_; obtain ⟨ad945, e945, hx945_0⟩ := Kd.at_int (Kd.V_reads' HO0_0.out).2.2 0 p945 q945; cases e945; have qi945 : (0 < l0_0.length) = True := eq_true (by omega); (try rw [show ((0 : Int)).toNat = 0 from rfl] at hx945_0); (try rw [Addr.add_zero'] at hx945_0); replace p945 := eq_true p945; replace q945 := eq_true q945) | ((with_reducible refine gate_dst (N := 14) rfl ?_); refine Kd.R_lit (Kd.int .i64) _ 3 ?hg (N := 14) ?hd (xs := ([rd l0_0 0] : List Int)) (inner := [.int .i64 (rd l0_0 0)]) (ok := fun _ => True) (okp := fun _ => True) ?hr ?hp (fun _ hk => hk) trivial (Below.refl _ _) (Nat.le_refl _) (by simp) ?_; (case hd => rfl); (case hg => rfl); (case hr => first | (go_simp; done) | (go_simp; rfl)); (case hp => exact (Reps.one (show Kd.M (Kd.int .i64) _ _ _ (rd l0_0 0) [.int .i64 (rd l0_0 0)] from rfl) (Reps.none _ _))); intro v947 w9 ho10 hb hg_ hnew_; clear hg_ hnew_; (first | rw [← Ny946.out] at ho10 | (simp only [Int.reduceToNat] at ho10; rw [← Ny946.out] at ho10)); replace HO0_0 := Aside0.mk (Kd.V_elder' (by (with_reducible repeat (first | apply Kd.V_alloc | apply Kd.V_drewN | apply Kd.V_drew)); exact HO0_0.out) (Kd.R_base ho10) hb); have HO948 := Aside0.mk (Kd.R_lower (Kd.R_newM (M := fun k_ => (w.heap.size ≤ k_)) ho10 (below_size (bq_ HB)) (fun k_ h_ => h_)) (below_size (bq_ HB))); replace BK943 := bk_ BK943 hb; replace HB := bp_ HB hb; clear hb ho10))
 go_loopg [4] k (fun kq v4 w' => ∃ (x4_1 : List Int) (x944000_1 : List Int) (u944000 : Value), Aside0 (impl_MultiplicitySequence.l0 kq x4_1 x944000_1 = some (r1, r2)) ∧ Aside0 (kq ≤ k) ∧ Aside0 (Kd.R (Kd.int .i64) 3 w' w.heap.size (fun k_ => (w.heap.size ≤ k_)) v4 x4_1) ∧ Aside0 (Kd.V (Kd.int .i64) 3 w' w.heap.size (fun k_ => (P0_0_ k_ ∨ w.heap.size ≤ k_) ∧ some k_ ≠ (v4 : Value).ownBlock ∧ k_ ≠ gb943) u944000 x944000_1) ∧ Aside0 (w'.heap[gb943]? = some (.cells #[u944000] 26 (0, 0))) ∧ Aside0 (Below w.heap.size w w'))
 case atStart => exact ⟨(y946), (l0_0), (.slice (some ad945) l0_0.length c0_0), H', ⟨Nat.le_refl _⟩, ⟨by (with_reducible repeat (first | apply Kd.R_alloc | apply Kd.R_drewN | apply Kd.R_drew)); exact Kd.R_mono HO948.out (fun _ hk => hk.1)⟩, ⟨by (with_reducible repeat (first | apply Kd.V_alloc | apply Kd.V_drewN | apply Kd.V_drew)); exact Kd.V_mono HO0_0.out (fun _ hk => ⟨hk.1.1, ⟨hk.2, hk.1.2⟩⟩)⟩, ⟨be_ BK943.out⟩, ⟨bq_ HB⟩⟩
 case round =>
  clear H'
  try clear c4b0
  try clear c4b1
  try clear hcz6_0
  try clear hcz8_0
  try clear hfz6_0
  try clear hfz8_0
  try clear hx945_0
  try clear p945
  try clear q945
  obtain ⟨x4_1, x944000_1, u944000, HA, HK1, HO_4, HO_944000, BK943, HB⟩ := hrel
  cases gk with
  | zero => exact absurd HA.out (by simp [impl_MultiplicitySequence.l0])
  | succ k1 =>
   have H := HA.out
   clear HA
   simp only [impl_MultiplicitySequence.l0] at H
   obtain ⟨c11, H⟩ := ip_ H
   have c11b0 : decide (0 < (x944000_1.length : Int)) = true := decide_eq_true c11
   have c11b1 : decide (0 < x944000_1.length) = true := decide_eq_true (by omega)
   clear c11
   by_cases c12 : (rd x944000_1 0) > 1
   rotate_left
   · rw [if_neg c12] at H
     have c12b0 : decide (1 < (rd x944000_1 0)) = false := decide_eq_false c12
     clear c12
     simp only [Option.some.injEq, Prod.mk.injEq] at H
     obtain ⟨rfl, rfl⟩ := H
     have hcz33_0 := cz_ BK943
     have hfz33_0 := blk_frozen BK943.out 0
     obtain ⟨Ao34, co34, eo34⟩ := Kd.V_slice HO_944000.out
     subst eo34
     have p949 : 0 ≤ (0 : Int) := (by omega)
     have q949 : 0 < (x944000_1.length : Int) := od_
     obtain ⟨ad949, e949, hx949_0⟩ := Kd.at_int (Kd.V_reads' HO_944000.out).2.2 0 p949 q949
     cases e949
     have qi949 : (0 < x944000_1.length) = True := eq_true (by omega)
     (try rw [show ((0 : Int)).toNat = 0 from rfl] at hx949_0)
     (try rw [Addr.add_zero'] at hx949_0)
     replace p949 := eq_true p949
     replace q949 := eq_true q949
     go_wp2
     go_ret2
     exact ⟨_, rf_, re_ HO_4.out, bq_ HB⟩
   rw [if_pos c12] at H
   have c12b0 : decide (1 < (rd x944000_1 0)) = true := decide_eq_true c12
   clear c12
   obtain ⟨⟨t950, t953⟩, A13, H⟩ := ob_ H
   (try dsimp only at H)
   by_cases c14 : t953 = true
   rotate_left
   · replace c14 := Bool.eq_false_iff.mpr c14
     subst c14
     rw [if_neg (show ¬ (false = true) by decide)] at H
     simp only [Option.some.injEq, Prod.mk.injEq] at H
     obtain ⟨rfl, rfl⟩ := H
     have hcz26_0 := cz_ BK943
     have hfz26_0 := blk_frozen BK943.out 0
     obtain ⟨Ao27, co27, eo27⟩ := Kd.V_slice HO_944000.out
     subst eo27
     have p949 : 0 ≤ (0 : Int) := (by omega)
     have q949 : 0 < (x944000_1.length : Int) := od_
     obtain ⟨ad949, e949, hx949_0⟩ := Kd.at_int (Kd.V_reads' HO_944000.out).2.2 0 p949 q949
     cases e949
     have qi949 : (0 < x944000_1.length) = True := eq_true (by omega)
     (try rw [show ((0 : Int)).toNat = 0 from rfl] at hx949_0)
     (try rw [Addr.add_zero'] at hx949_0)
     replace p949 := eq_true p949
     replace q949 := eq_true q949
     go_wp2_with (first | ((with_reducible refine gate_callee (f := 12) rfl ?_); refine gL_ (some 22) Try.func12 #[.agg #[.slice (some ad949) x944000_1.length co27]] ?_; (with_reducible refine (impl_BlowUp.calls k1 _ _ x944000_1 t950 false _ ?side1 ?side2 A13.out).mono ?_); (case side1 => exact ce_ ((Kd.V_reads' HO_944000.out).2.2)); (case side2 => exact (Kd.V_reads' HO_944000.out).2.1); rintro e w28 ⟨v951, rfl, ho0, hb⟩; refine ⟨_, rfl, ?_⟩; replace HO_944000 := Aside0.mk (Kd.V_elder' (by (with_reducible repeat (first | apply Kd.V_alloc | apply Kd.V_drewN | apply Kd.V_drew)); exact HO_944000.out) (Kd.R_base ho0) hb); have HO952 := Aside0.mk (Kd.R_lower (Kd.R_new' (Kd.R_newM (M := fun k_ => (w.heap.size ≤ k_)) ho0 (below_size (bq_ HB)) (fun k_ h_ => h_)) (Kd.R_lt (re_ HO_4.out))) (below_size (bq_ HB))); replace HO_4 := Aside0.mk (Kd.R_elder' (re_ HO_4.out) (Kd.R_base ho0) hb); replace BK943 := bk_ BK943 hb; replace HB := bp_ HB hb; (try clear hb); (try clear ho0)) | ((with_reducible refine gate_dst (N := 5) rfl ?_); refine bx_ 5 #[.slice none 0 0] 26 ?_; intro gb954 hg w29 hbox hb; replace HO_4 := Aside0.mk (Kd.R_below (re_ HO_4.out) hb); replace HO_944000 := Aside0.mk (Kd.V_below (Kd.V_elderB (by (with_reducible repeat (first | apply Kd.V_alloc | apply Kd.V_drewN | apply Kd.V_drew)); exact HO_944000.out) gb954 (Nat.le_of_eq hg.symm)) hb); replace HO952 := Aside0.mk (Kd.R_below (re_ HO952.out) hb); have BK954 := Aside0.mk (hbox); have GW954 := gq_ hg (bq_ HB); have GE954 := gq_ hg (bq_ HB); replace HB := bp_ HB hb; have NB943_954 := nl_ hg BK943; have NB954_943 := ng_ hg BK943; replace BK943 := bk_ BK943 hb; clear hb hbox hg; obtain ⟨Ao30, co30, eo30⟩ := Kd.R_slice HO952.out; subst eo30; have hnb31 := NB954_943.out; have hnc31 := NB943_954.out; have hcz32_0 := cz_ BK954; have hfz32_0 := blk_frozen BK954.out 0))
     go_ret2
     exact ⟨_, rf_, by first | exact Kd.R_nil _ _ _ _ _ | exact Kd.N_nil _ _ _ _ _ | exact Kd.V_nil _ _ _ _ _ | exact Kd.Q_nil _ _ _ _ _ | exact Kd.S_nil _ _ _ _ _, bq_ HB⟩
   subst c14
   rw [if_pos rfl] at H
   obtain ⟨c15, H⟩ := ip_ H
   have c15b0 : decide (0 < (t950.length : Int)) = true := decide_eq_true c15
   have c15b1 : decide (0 < t950.length) = true := decide_eq_true (by omega)
   clear c15
   obtain ⟨c16, H⟩ := ip_ H
   have LMc16 := Aside0.mk c16
   clear c16
   obtain ⟨y956, hy956⟩ : ∃ y_ : List Int, y_ = (x4_1 ++ [rd t950 0]) := ⟨_, rfl⟩
   replace H : (impl_MultiplicitySequence.l0 k1 y956 t950) = some (r1, r2) := by subst hy956; exact H
   have Ny956 := Aside0.mk hy956
   clear hy956
   have H' := Aside0.mk H
   clear H
   have hcz17_0 := cz_ BK943
   have hfz17_0 := blk_frozen BK943.out 0
   obtain ⟨Ao18, co18, eo18⟩ := Kd.V_slice HO_944000.out
   subst eo18
   have p949 : 0 ≤ (0 : Int) := (by omega)
   have q949 : 0 < (x944000_1.length : Int) := od_
   obtain ⟨ad949, e949, hx949_0⟩ := Kd.at_int (Kd.V_reads' HO_944000.out).2.2 0 p949 q949
   cases e949
   have qi949 : (0 < x944000_1.length) = True := eq_true (by omega)
   (try rw [show ((0 : Int)).toNat = 0 from rfl] at hx949_0)
   (try rw [Addr.add_zero'] at hx949_0)
   replace p949 := eq_true p949
   replace q949 := eq_true q949
   go_wp2_with (first | ((with_reducible refine gate_callee (f := 12) rfl ?_); refine gL_ (some 22) Try.func12 #[.agg #[.slice (some ad949) x944000_1.length co18]] ?_; (with_reducible refine (impl_BlowUp.calls k1 _ _ x944000_1 t950 true _ ?side1 ?side2 A13.out).mono ?_); (case side1 => exact ce_ ((Kd.V_reads' HO_944000.out).2.2)); (case side2 => exact (Kd.V_reads' HO_944000.out).2.1); rintro e w19 ⟨v951, rfl, ho0, hb⟩; refine ⟨_, rfl, ?_⟩; replace HO_944000 := Aside0.mk (Kd.V_elder' (by (with_reducible repeat (first | apply Kd.V_alloc | apply Kd.V_drewN | apply Kd.V_drew)); exact HO_944000.out) (Kd.R_base ho0) hb); have HO952 := Aside0.mk (Kd.R_lower (Kd.R_new' (Kd.R_newM (M := fun k_ => (w.heap.size ≤ k_)) ho0 (below_size (bq_ HB)) (fun k_ h_ => h_)) (Kd.R_lt (re_ HO_4.out))) (below_size (bq_ HB))); replace HO_4 := Aside0.mk (Kd.R_elder' (re_ HO_4.out) (Kd.R_base ho0) hb); replace BK943 := bk_ BK943 hb; replace HB := bp_ HB hb; (try clear hb); (try clear ho0)) | ((with_reducible refine gate_dst (N := 5) rfl ?_); refine bx_ 5 #[.slice none 0 0] 26 ?_; intro gb954 hg w20 hbox hb; replace HO_4 := Aside0.mk (Kd.R_below (re_ HO_4.out) hb); replace HO_944000 := Aside0.mk (Kd.V_below (Kd.V_elderB (by (with_reducible repeat (first | apply Kd.V_alloc | apply Kd.V_drewN | apply Kd.V_drew)); exact HO_944000.out) gb954 (Nat.le_of_eq hg.symm)) hb); replace HO952 := Aside0.mk (Kd.R_below (re_ HO952.out) hb); have BK954 := Aside0.mk (hbox); have GW954 := gq_ hg (bq_ HB); have GE954 := gq_ hg (bq_ HB); replace HB := bp_ HB hb; have NB943_954 := nl_ hg BK943; have NB954_943 := ng_ hg BK943; replace BK943 := bk_ BK943 hb; clear hb hbox hg; obtain ⟨Ao21, co21, eo21⟩ := Kd.R_slice HO952.out; subst eo21; have hnb22 := NB954_943.out; have hnc22 := NB943_954.out; have hcz23_0 := cz_ BK954; have hfz23_0 := blk_frozen BK954.out 0; have hcz24_0 := cz_ BK943; have hfz24_0 := blk_frozen BK943.out 0; have p955 : 0 ≤ (0 : Int) := (by omega); have q955 : 0 < (t950.length : Int) := od_; obtain ⟨ad955, e955, hx955_0⟩ := Kd.at_int (Kd.R_reads' HO952.out).2.2 0 p955 q955; cases e955; have qi955 : (0 < t950.length) = True := eq_true (by omega); (try rw [show ((0 : Int)).toNat = 0 from rfl] at hx955_0); (try rw [Addr.add_zero'] at hx955_0); have hn955_0 : ad955.block ≠ gb954 := Kd.own_blk (Kd.R_ne HO952.out BK954.out (by decide)); have hn955_1 : ad955.block ≠ gb943 := Kd.own_blk (Kd.R_ne HO952.out BK943.out (by decide)); replace hx955_0 := (cell_far (p := ⟨gb954, 0, none⟩) (by first | (rw [add_block]; exact hn955_0) | (show (Addr.add _ _).block ≠ _; rw [add_block]; exact hn955_0) | exact hn955_0) (.slice (some ad955) t950.length co21)).trans hx955_0; replace hx955_0 := (cell_far (p := ⟨gb943, 0, none⟩) (by first | (rw [add_block]; exact hn955_1) | (show (Addr.add _ _).block ≠ _; rw [add_block]; exact hn955_1) | exact hn955_1) (.slice (some ad955) t950.length co21)).trans hx955_0; clear hn955_0; clear hn955_1; replace p955 := eq_true p955; replace q955 := eq_true q955) | ((with_reducible refine gate_builtin (b := .append) (xs := #[.tmp 28, .tmp 33]) rfl ?_); at_builtin; refine Kd.R_append (Kd.int .i64) (w0 := w) w.heap.size rfl (.tmp 28) (.tmp 33) 24 3 (.int .i64 0) 8 rfl Try.underlying24 info3 rfl (by decide) (by omega) u4 x4_1 (rd t950 0) [.int .i64 (rd t950 0)] (fun k_ => (w.heap.size ≤ k_) ∧ some k_ ≠ (.slice (some ad955) t950.length co21 : Value).ownBlock) (fun _ => False) rfl (by first | (go_simp; done) | (go_simp; rfl)) ?aP (fun _ hk => hk.elim) ?aF ?aO ?aB ?aS ?aL ?_; (case aP => exact rfl); (case aB => exact (bq_ HB)); (case aF => exact (fun k_ hk => ⟨(Nat.le_trans (below_size (bq_ HB)) hk), Kd.fresh' (Kd.R_lt (by (with_reducible repeat (first | apply Kd.R_alloc | apply Kd.R_drewN | apply Kd.R_drew)); exact (Kd.R_mono (Kd.R_mono (Kd.R_far (p := ⟨gb943, 0, none⟩) (Kd.R_far (p := ⟨gb954, 0, none⟩) (Kd.R_types (Kd.R_types HO952.out BK954.out (by decide)) BK943.out (by decide)) (fun _ hk => hk.1.2) (.slice (some ad955) t950.length co21)) (fun _ hk => hk.2) (.slice (some ad955) t950.length co21)) (fun _ h_ => h_.1)) (fun _ h_ => h_.1)))) k_ hk⟩)); (case aO => exact (by (with_reducible repeat (first | apply Kd.R_alloc | apply Kd.R_drewN | apply Kd.R_drew)); exact Kd.R_mono (Kd.R_far (p := ⟨gb943, 0, none⟩) (Kd.R_far (p := ⟨gb954, 0, none⟩) (Kd.R_types (Kd.R_types HO_4.out BK954.out (by decide)) BK943.out (by decide)) (fun _ hk => hk.1.2) (.slice (some ad955) t950.length co21)) (fun _ hk => hk.2) (.slice (some ad955) t950.length co21)) (fun _ hk => ⟨hk.1.1.1, hk.1.1.2⟩))); (case aS => exact (below_size (bq_ HB))); (case aL => have := LMc16.out; omega); intro v957 w25 ho hb hg hat; rw [← Ny956.out] at ho; replace HO_944000 := Aside0.mk (Kd.V_afterv (ok := (fun k_ => (P0_0_ k_ ∨ w.heap.size ≤ k_) ∧ some k_ ≠ (.slice (some ad955) t950.length co21 : Value).ownBlock ∧ k_ ≠ gb943 ∧ k_ ≠ gb954)) (by (with_reducible repeat (first | apply Kd.V_alloc | apply Kd.V_drewN | apply Kd.V_drew)); exact Kd.V_mono (Kd.V_far (p := ⟨gb943, 0, none⟩) (Kd.V_far (p := ⟨gb954, 0, none⟩) (Kd.V_mono (Kd.V_mono HO_944000.out (fun k_ hk => (⟨hk, hk.2⟩ : _ ∧ k_ ≠ gb954))) (fun k_ hk => (⟨hk, hk.1.1.1.2.2⟩ : _ ∧ k_ ≠ gb943))) (fun _ hk => hk.1.2) (.slice (some ad955) t950.length co21)) (fun _ hk => hk.2) (.slice (some ad955) t950.length co21)) (fun _ hk => ⟨⟨hk.1.1.1.1.1, ⟨hk.1.1.1.2, ⟨hk.1.1.1.1.2.2, hk.1.1.2⟩⟩⟩, hk.1.1.1.1.2.1⟩)) hg hat); replace HO952 := Aside0.mk (Kd.R_after (ok := (fun k_ => (w.heap.size ≤ k_))) (by (with_reducible repeat (first | apply Kd.R_alloc | apply Kd.R_drewN | apply Kd.R_drew)); exact Kd.R_mono (Kd.R_far (p := ⟨gb943, 0, none⟩) (Kd.R_far (p := ⟨gb954, 0, none⟩) (Kd.R_types (Kd.R_types HO952.out BK954.out (by decide)) BK943.out (by decide)) (fun _ hk => hk.1.2) (.slice (some ad955) t950.length co21)) (fun _ hk => hk.2) (.slice (some ad955) t950.length co21)) (fun _ hk => ⟨hk.1.1.1.1, hk.1.1.2⟩)) hg hat); replace BK943 := Aside0.mk (blk_grown (g := gb943) (o := .cells #[.slice (some ad955) t950.length co21] 26 (0, 0)) (bz_ BK943) hg (Kd.R_ne HO_4.out BK943.out (by decide))); replace BK954 := Aside0.mk (blk_grown (g := gb954) (o := .cells #[.slice (some ad955) t950.length co21] 26 (0, 0)) (bz_ BK954) hg (Kd.R_ne HO_4.out BK954.out (by decide))); replace HB := Aside0.mk (hb); have HO958 := Aside0.mk (ho); clear HO_4; clear ho hb hg hat))
   go_roundg k1
   case measure => have := HK1.out; omega
   case rel => exact ⟨(y956), (t950), (.slice (some ad955) t950.length co21), H', ⟨by have := HK1.out; omega⟩, ⟨by (with_reducible repeat (first | apply Kd.R_alloc | apply Kd.R_drewN | apply Kd.R_drew)); exact Kd.R_mono HO958.out (fun _ hk => hk.1)⟩, ⟨Kd.V_mono (Kd.R_V (by (with_reducible repeat (first | apply Kd.R_alloc | apply Kd.R_drewN | apply Kd.R_drew)); exact Kd.R_mono (ok' := fun k_ => w.heap.size ≤ k_ ∧ (some k_ ≠ (v957 : Value).ownBlock ∧ k_ ≠ gb943)) (Kd.R_types HO952.out BK943.out (by decide)) (fun _ hk => ⟨hk.1.1, ⟨hk.1.2, hk.2⟩⟩))) (fun k_ hk => by first | exact ⟨(.inr (hk.1)), hk.2⟩ | exact (.inr (hk)))⟩, ⟨be_ BK943.out⟩, ⟨bq_ HB⟩⟩
def laws_sameInts.l0 : Nat → List Int → List Int → Int → Option (Bool)
 | 0, _, _, _ => none
 | k + 1, x0, x1, x5 => if x5 < (x0.length : Int) then (if 0 ≤ x5 then (if x5 < (x1.length : Int) then (if (rd x0 x5) = (rd x1 x5) then (laws_sameInts.l0 k x0 x1 (wrap64 (x5 + 1))) else (some false)) else (none)) else (none)) else (some true)
def laws_sameInts.f (k : Nat) (l0 : List Int) (l1 : List Int) : Option (Bool) := if (l0.length : Int) = (l1.length : Int) then (laws_sameInts.l0 k l0 l1 0) else (some false)
theorem laws_sameInts.calls (k : Nat) (A0 : Option Addr) (c0 : Nat) (l0 : List Int) (A1 : Option Addr) (c1 : Nat) (l1 : List Int) (r : Bool) (w : World) (hr0 : Kd.C (Kd.int .i64) w A0 l0.length l0) (hc0 : l0.length ≤ c0) (hr1 : Kd.C (Kd.int .i64) w A1 l1.length l1) (hc1 : l1.length ≤ c1) (h : laws_sameInts.f k l0 l1 = some r) :
 Calls Try.prog 18 #[.slice A0 l0.length c0, .slice A1 l1.length c1] w fun e w' => e = .returned (.bool r) ∧ Drawn0 w w' := by
 have HR0 := Aside0.mk hr0
 have HC0 := Aside0.mk hc0
 clear hr0 hc0
 have HR1 := Aside0.mk hr1
 have HC1 := Aside0.mk hc1
 clear hr1 hc1
 have H := h
 clear h
 unfold laws_sameInts.f at H
 by_cases c3 : (l0.length : Int) = (l1.length : Int)
 rotate_left
 · rw [if_neg c3] at H
   have c3b0 : ((l0.length : Int) == (l1.length : Int)) = false := beq_eq_false_iff_ne.mpr c3
   have c3b1 : ((l0.length : Int) != (l1.length : Int)) = true := bne_iff_ne.mpr c3
   have c3b2 : (l0.length == l1.length) = false := by first | simpa using c3 | (simp at c3 ⊢; omega)
   obtain rfl := Option.some.inj H
   go_enter Try.func18, Try.ntmps18
   go_wp2
   repeat (go_quiet (fail); try go_wp2)
   go_ret
   exact ⟨by first | rfl | (simp; done) | (simp [*]; done), by repeat (first | exact Drawn0.refl _ | apply Drawn0.step)⟩
 rw [if_pos c3] at H
 have c3b0 : ((l0.length : Int) == (l1.length : Int)) = true := beq_iff_eq.mpr c3
 have c3b1 : ((l0.length : Int) != (l1.length : Int)) = false := bne_eq_false_iff_eq.mpr c3
 have c3b2 : (l0.length == l1.length) = true := by first | simpa using c3 | (simp at c3 ⊢; omega)
 clear c3
 have H' := Aside0.mk H
 clear H
 go_enter Try.func18, Try.ntmps18
 go_wp2
 repeat (go_quiet (fail); try go_wp2)
 go_loopg [5] k (fun kq v5 w' => ∃ (x5_1 : Int), v5 = .int .i64 x5_1 ∧ Aside0 (laws_sameInts.l0 kq l0 l1 x5_1 = some r) ∧ Aside0 (kq ≤ k) ∧ Drawn0 w w')
 case atStart => exact ⟨(0), rs_, H', ⟨Nat.le_refl _⟩, by repeat (first | exact Drawn0.refl _ | apply Drawn0.step)⟩
 case round =>
  clear H'
  try clear c1
  try clear c3b0
  try clear c3b1
  try clear c3b2
  obtain ⟨x5_1, rfl, HA, HK1, ⟨m1, rfl⟩⟩ := hrel
  cases gk with
  | zero => exact absurd HA.out (by simp [laws_sameInts.l0])
  | succ k1 =>
   have H := HA.out
   clear HA
   simp only [laws_sameInts.l0] at H
   by_cases c4 : x5_1 < (l0.length : Int)
   rotate_left
   · rw [if_neg c4] at H
     have c4b0 : decide (x5_1 < (l0.length : Int)) = false := decide_eq_false c4
     clear c4
     obtain rfl := Option.some.inj H
     go_wp2
     repeat (go_quiet (fail); try go_wp2)
     go_ret
     exact ⟨by first | rfl | (simp; done) | (simp [*]; done), by repeat (first | exact Drawn0.refl _ | apply Drawn0.step)⟩
   rw [if_pos c4] at H
   have c4b0 : decide (x5_1 < (l0.length : Int)) = true := decide_eq_true c4
   clear c4
   obtain ⟨c5b0, H⟩ := ipd_ H
   obtain ⟨c6b0, H⟩ := ipd_ H
   by_cases c7 : (rd l0 x5_1) = (rd l1 x5_1)
   rotate_left
   · rw [if_neg c7] at H
     have c7b0 : ((rd l0 x5_1) == (rd l1 x5_1)) = false := beq_eq_false_iff_ne.mpr c7
     have c7b1 : ((rd l0 x5_1) != (rd l1 x5_1)) = true := bne_iff_ne.mpr c7
     obtain rfl := Option.some.inj H
     have p959 : 0 ≤ (x5_1 : Int) := od_
     have q959 : x5_1 < (l0.length : Int) := od_
     obtain ⟨ad959, e959, hx959_0⟩ := Kd.at_int HR0.out x5_1 p959 q959
     cases e959
     replace p959 := eq_true p959
     replace q959 := eq_true q959
     have p960 : 0 ≤ (x5_1 : Int) := od_
     have q960 : x5_1 < (l1.length : Int) := od_
     obtain ⟨ad960, e960, hx960_0⟩ := Kd.at_int HR1.out x5_1 p960 q960
     cases e960
     replace p960 := eq_true p960
     replace q960 := eq_true q960
     go_wp2
     repeat (go_quiet (fail); try go_wp2)
     go_ret
     exact ⟨by first | rfl | (simp; done) | (simp [*]; done), by repeat (first | exact Drawn0.refl _ | apply Drawn0.step)⟩
   rw [if_pos c7] at H
   have c7b0 : ((rd l0 x5_1) == (rd l1 x5_1)) = true := beq_iff_eq.mpr c7
   have c7b1 : ((rd l0 x5_1) != (rd l1 x5_1)) = false := bne_eq_false_iff_eq.mpr c7
   clear c7
   have H' := Aside0.mk H
   clear H
   have p959 : 0 ≤ (x5_1 : Int) := od_
   have q959 : x5_1 < (l0.length : Int) := od_
   obtain ⟨ad959, e959, hx959_0⟩ := Kd.at_int HR0.out x5_1 p959 q959
   cases e959
   replace p959 := eq_true p959
   replace q959 := eq_true q959
   have p960 : 0 ≤ (x5_1 : Int) := od_
   have q960 : x5_1 < (l1.length : Int) := od_
   obtain ⟨ad960, e960, hx960_0⟩ := Kd.at_int HR1.out x5_1 p960 q960
   cases e960
   replace p960 := eq_true p960
   replace q960 := eq_true q960
   go_wp2
   repeat (go_quiet (fail); try go_wp2)
   go_roundg k1
   case measure => have := HK1.out; omega
   case rel => exact ⟨(wrap64 (x5_1 + 1)), rs_, H', ⟨by have := HK1.out; omega⟩, by repeat (first | exact Drawn0.refl _ | apply Drawn0.step)⟩
def impl_Contains.f (k : Nat) (l0_0 : List Int) (a1 : Int) : Option (Bool) := if a1 < 0 then (some false) else ((impl_IsSemigroup.f k l0_0).bind fun t962 => (if t962 = true then (if a1 ≥ 200 then (some true) else (if 0 < (l0_0.length : Int) then ((impl_leasts.f k l0_0 (rd l0_0 0)).bind fun t964 => (if (rd l0_0 0) = 0 then (none) else (if 0 ≤ (Int.tmod a1 (rd l0_0 0)) then (if (Int.tmod a1 (rd l0_0 0)) < (t964.length : Int) then (some (decide ((rd t964 (Int.tmod a1 (rd l0_0 0))) ≤ a1))) else (none)) else (none)))) else (none))) else (some false)))
def impl_Contains.T3 : Bool × List (List Nat × List Nat) := (true, [([], []), ([0], [0]), ([1], [1]), ([2], [2]), ([3, 2], [2, 3]), ([2], [2]), ([5, 2], [2, 5]), ([6, 2], [2, 6]), ([7, 2], [2, 7]), ([4, 8, 2, 2], [2, 4, 8]), ([2], [2]), ([2], [2]), ([11, 2], [2, 11]), ([12, 2], [2, 12]), ([13, 2], [2, 13]), ([10, 14, 2], [2, 10, 14]), ([9, 15, 2], [2, 9, 15]), ([16, 2], [2, 16]), ([2], [2]), ([17, 18, 2], [2, 17, 18]), ([2, 19], [2, 19]), ([20, 9, 0, 1, 2, 3, 4, 5, 6, 7, 8, 9, 10, 11, 12, 13, 14, 15, 16, 17, 18, 19, 20], [20])])
def impl_Contains.B3 : List Nat := [0, 1, 3, 7, 15, 7, 39, 103, 231, 511, 7, 7, 2055, 6151, 14343, 31751, 65535, 131071, 7, 524287, 1048575, 2097151]
theorem impl_Contains.tab3 : rtab .any (opsOf Try.f41 3) = impl_Contains.T3 := by kernel_rfl
theorem impl_Contains.bits3 : waitsOk impl_Contains.T3.2 impl_Contains.B3 = true := by kernel_rfl
theorem impl_Contains.calls (k : Nat) (A0_0 : Option Addr) (c0_0 : Nat) (l0_0 : List Int) (a1 : Int) (r : Bool) (w : World) (hr0_0 : Kd.C (Kd.int .i64) w A0_0 l0_0.length l0_0) (hc0_0 : l0_0.length ≤ c0_0) (h : impl_Contains.f k l0_0 a1 = some r) :
 Calls Try.prog 41 #[.agg #[.slice A0_0 l0_0.length c0_0], .int .i64 a1] w fun e w' => e = .returned (.bool r) ∧ Below w.heap.size w w' := by
 have hu26 := Try.underlying26
 have HR0_0 := Aside0.mk hr0_0
 have HC0_0 := Aside0.mk hc0_0
 clear hr0_0 hc0_0
 have HB := Aside0.mk (Below.refl w.heap.size w)
 have H := h
 clear h
 unfold impl_Contains.f at H
 by_cases c3 : a1 < 0
 · rw [if_pos c3] at H
   have c3b0 : decide (a1 < 0) = true := decide_eq_true c3
   clear c3
   obtain rfl := Option.some.inj H
   go_enter Try.func41, Try.ntmps41
   go_wp2_with (first | ((with_reducible refine gate_dst (N := 2) rfl ?_); refine bx_ 2 #[.slice A0_0 l0_0.length c0_0] 26 ?_; intro gb961 hg w4 hbox hb; have BK961 := Aside0.mk (hbox); have GW961 := gw_ hg HB; have GE961 := gw_ hg HB; replace HB := bo_ HB hb; clear hb hbox hg))
   go_ret
   exact ⟨rf_, bq_ HB⟩
 rw [if_neg c3] at H
 have c3b0 : decide (a1 < 0) = false := decide_eq_false c3
 clear c3
 obtain ⟨t962, A5, H⟩ := ob_ H
 by_cases c6 : t962 = true
 rotate_left
 · replace c6 := Bool.eq_false_iff.mpr c6
   subst c6
   rw [if_neg (show ¬ (false = true) by decide)] at H
   obtain rfl := Option.some.inj H
   go_enter Try.func41, Try.ntmps41
   go_wp2_with (first | ((with_reducible refine gate_dst (N := 2) rfl ?_); refine bx_ 2 #[.slice A0_0 l0_0.length c0_0] 26 ?_; intro gb961 hg w24 hbox hb; have BK961 := Aside0.mk (hbox); have GW961 := gw_ hg HB; have GE961 := gw_ hg HB; replace HB := bo_ HB hb; clear hb hbox hg; have hcz25_0 := cz_ BK961; have hfz25_0 := blk_frozen BK961.out 0) | (go_at_call 24; (with_reducible refine (impl_IsSemigroup.calls k _ _ l0_0 false _ ?side1 ?side2 A5.out).mono ?_); (case side1 => exact ch_ HR0_0 HB); (case side2 => exact HC0_0.out); rintro e w26 ⟨rfl, hb⟩; replace BK961 := bk_ BK961 hb; replace HB := bp_ HB hb; (try clear hb)))
   go_ret
   exact ⟨rf_, bq_ HB⟩
 subst c6
 rw [if_pos rfl] at H
 by_cases c7 : a1 ≥ 200
 · rw [if_pos c7] at H
   have c7b0 : decide (200 ≤ a1) = true := decide_eq_true c7
   clear c7
   obtain rfl := Option.some.inj H
   go_enter Try.func41, Try.ntmps41
   try go_wp2_with (first | ((with_reducible refine gate_dst (N := 2) rfl ?_); refine bx_ 2 #[.slice A0_0 l0_0.length c0_0] 26 ?_; intro gb961 hg w8 hbox hb; have BK961 := Aside0.mk (hbox); have GW961 := gw_ hg HB; have GE961 := gw_ hg HB; replace HB := bo_ HB hb; clear hb hbox hg; have hcz9_0 := cz_ BK961; have hfz9_0 := blk_frozen BK961.out 0) | (go_at_call 24; (with_reducible refine (impl_IsSemigroup.calls k _ _ l0_0 true _ ?side1 ?side2 A5.out).mono ?_); (case side1 => exact ch_ HR0_0 HB); (case side2 => exact HC0_0.out); rintro e w10 ⟨rfl, hb⟩; replace BK961 := bk_ BK961 hb; replace HB := bp_ HB hb; (try clear hb)))
   replace BK961 := Aside0.mk (blk_drew BK961.out)
   replace HB := Aside0.mk (below_drew1 HB.out)
   refine start_ (n := 22) (S := fun w' => True) (ds := []) (B_ 0 22) (by kernel_rfl) rfl rfl trivial (fun hHeld => ?_); refine with_tabW impl_Contains.tab3 impl_Contains.bits3 (fun HT_ HW_ => ?_)
   generalize w10.drew = w11 at BK961 HB hHeld ⊢
   refine pu_ HT_ 0 12 (B_ 1 22) ?_
   refine pu_ HT_ 1 13 (B_ 3 22) ?_
   refine pu_ HT_ 2 14 (B_ 7 22) ?_
   refine pn_ HT_ 3 15 (B_ 15 22) ?_
   refine pn_ HT_ 4 16 (B_ 31 22) ?_
   refine pn_ HT_ 5 17 (B_ 63 22) ?_
   refine pn_ HT_ 6 18 (B_ 127 22) ?_
   refine pn_ HT_ 7 19 (B_ 255 22) ?_
   refine pn_ HT_ 8 20 (B_ 511 22) ?_
   refine pn_ HT_ 9 21 (B_ 1023 22) ?_
   refine pn_ HT_ 10 22 (B_ 2047 22) ?_
   refine pn_ HT_ 11 23 (B_ 4095 22) ?_
   refine pn_ HT_ 12 24 (B_ 8191 22) ?_
   refine pn_ HT_ 13 25 (B_ 16383 22) ?_
   refine pn_ HT_ 14 26 (B_ 32767 22) ?_
   refine pn_ HT_ 15 27 (B_ 65535 22) ?_
   refine pn_ HT_ 16 28 (B_ 131071 22) ?_
   refine pn_ HT_ 17 29 (B_ 262143 22) ?_
   refine pn_ HT_ 18 30 (B_ 524287 22) ?_
   refine pn_ HT_ 19 31 (B_ 1048575 22) ?_
   refine pu_ HT_ 20 32 (B_ 2097151 22) ?_
   refine pu_ HT_ 21 4 (B_ 4194303 22) ?_
   refine done_ (done_of HT_.out (by kernel_rfl)) ?_
   try go_wp2
   go_ret
   exact ⟨rf_, bq_ HB⟩
 rw [if_neg c7] at H
 have c7b0 : decide (200 ≤ a1) = false := decide_eq_false c7
 clear c7
 obtain ⟨c12, H⟩ := ip_ H
 have c12b0 : decide (0 < (l0_0.length : Int)) = true := decide_eq_true c12
 have c12b1 : decide (0 < l0_0.length) = true := decide_eq_true (by omega)
 clear c12
 obtain ⟨t964, A13, H⟩ := ob_ H
 obtain ⟨c14, H⟩ := in_ H
 have c14b0 : ((rd l0_0 0) == 0) = false := beq_eq_false_iff_ne.mpr c14
 have c14b1 : ((rd l0_0 0) != 0) = true := bne_iff_ne.mpr c14
 obtain ⟨ji15, hji15⟩ : ∃ j_ : Int, (Int.tmod a1 (rd l0_0 0)) = j_ := ⟨_, rfl⟩
 replace H : (if 0 ≤ (ji15) then (if (ji15) < (t964.length : Int) then (some (decide ((rd t964 (ji15)) ≤ a1))) else (none)) else (none)) = some r := by first | (rw [hji15] at H; exact H) | (simp only [hji15] at H ⊢; exact H)
 (try rw [hji15] at A5)
 (try rw [hji15] at A13)
 obtain ⟨c16b0, H⟩ := ipd_ H
 obtain ⟨c17b0, H⟩ := ipd_ H
 obtain rfl := Option.some.inj H
 go_enter Try.func41, Try.ntmps41
 try go_wp2_with (first | ((with_reducible refine gate_dst (N := 2) rfl ?_); refine bx_ 2 #[.slice A0_0 l0_0.length c0_0] 26 ?_; intro gb961 hg w18 hbox hb; have BK961 := Aside0.mk (hbox); have GW961 := gw_ hg HB; have GE961 := gw_ hg HB; replace HB := bo_ HB hb; clear hb hbox hg; have hcz19_0 := cz_ BK961; have hfz19_0 := blk_frozen BK961.out 0) | (go_at_call 24; (with_reducible refine (impl_IsSemigroup.calls k _ _ l0_0 true _ ?side1 ?side2 A5.out).mono ?_); (case side1 => exact ch_ HR0_0 HB); (case side2 => exact HC0_0.out); rintro e w20 ⟨rfl, hb⟩; replace BK961 := bk_ BK961 hb; replace HB := bp_ HB hb; (try clear hb)))
 replace BK961 := Aside0.mk (blk_drew BK961.out)
 replace HB := Aside0.mk (below_drew1 HB.out)
 have p963 : 0 ≤ (0 : Int) := (by omega)
 have q963 : 0 < (l0_0.length : Int) := od_
 obtain ⟨ad963, e963, hx963_0⟩ := Kd.at_int HR0_0.out 0 p963 q963
 have hw963_0 := hx963_0
 (try rw [show ((0 : Int)).toNat = 0 from rfl] at hw963_0)
 (try rw [show 0 * 1 = 0 from rfl] at hw963_0)
 (try rw [Addr.add_zero'] at hw963_0)
 cases e963
 have qi963 : (0 < l0_0.length) = True := eq_true (by omega)
 (try rw [show ((0 : Int)).toNat = 0 from rfl] at hx963_0)
 (try rw [Addr.add_zero'] at hx963_0)
 (try replace hx963_0 := (HB.out.cell (World.block_lt_of_cell? w _ hx963_0)).trans hx963_0)
 replace p963 := eq_true p963
 replace q963 := eq_true q963
 have p967 : 0 ≤ (0 : Int) := (by omega)
 have q967 : 0 < (l0_0.length : Int) := od_
 obtain ⟨ad967, e967, hx967_0⟩ := Kd.at_int HR0_0.out 0 p967 q967
 have hw967_0 := hx967_0
 (try rw [show ((0 : Int)).toNat = 0 from rfl] at hw967_0)
 (try rw [show 0 * 1 = 0 from rfl] at hw967_0)
 (try rw [Addr.add_zero'] at hw967_0)
 obtain rfl : ad963 = ad967 := (by injection e967)
 have qi967 : (0 < l0_0.length) = True := eq_true (by omega)
 (try rw [show ((0 : Int)).toNat = 0 from rfl] at hx967_0)
 (try rw [Addr.add_zero'] at hx967_0)
 (try replace hx967_0 := (HB.out.cell (World.block_lt_of_cell? w _ hx967_0)).trans hx967_0)
 replace p967 := eq_true p967
 replace q967 := eq_true q967
 refine start_ (n := 22) (S := fun w' => w'.cell? ⟨gb961, 0, none⟩ = some (.slice (some ad963) l0_0.length c0_0) ∧ w'.cell? ad963 = some (.int .i64 (rd l0_0 0)) ∧ w'.cell? ad963 = some (.int .i64 (rd l0_0 0)) ∧ True) (ds := []) (B_ 0 22) (by kernel_rfl) rfl rfl ⟨(blk_cell BK961.out 0).trans rfl, ((HB.out.cell (World.block_lt_of_cell? w _ hw963_0)).trans hw963_0), ((HB.out.cell (World.block_lt_of_cell? w _ hw967_0)).trans hw967_0), trivial⟩ (fun hHeld => ?_); refine with_tabW impl_Contains.tab3 impl_Contains.bits3 (fun HT_ HW_ => ?_)
 generalize w20.drew = w21 at BK961 HB hx963_0 hx967_0 hHeld ⊢
 refine pu_ HT_ 0 12 (B_ 1 22) ?_
 refine pu_ HT_ 1 13 (B_ 3 22) ?_
 refine pu_ HT_ 2 14 (B_ 7 22) ?_
 refine pu_ HT_ 3 15 (B_ 15 22) ?_
 refine pu_ HT_ 5 17 (B_ 47 22) ?_
 refine pu_ HT_ 10 22 (B_ 1071 22) ?_
 refine pu_ HT_ 11 23 (B_ 3119 22) ?_
 refine pu_ HT_ 18 30 (B_ 265263 22) ?_
 refine take_ (i := 4) (N := some 16) (v := ?_) (a' := ?_) (B_ 265279 22) rfl rfl (take_ofW HT_.out HW_.out (by kernel_rfl)) (fun _ _ _ h => h) (Or.inl ⟨by rfl, ?_⟩) hHeld ?_ ?_
 rotate_left
 · rintro w' ⟨s0, s1, s2, s3⟩
   go_simp
   with_reducible rfl
 rotate_left
 · simp only [Act.put, z1_, z2_, z3_, i64_w, i32_w]
   rfl
 refine take_ (i := 6) (N := some 18) (v := ?_) (a' := ?_) (B_ 265343 22) rfl rfl (take_ofW HT_.out HW_.out (by kernel_rfl)) (fun _ _ _ h => h) (Or.inl ⟨by rfl, ?_⟩) hHeld ?_ ?_
 rotate_left
 · rintro w' ⟨s0, s1, s2, s3⟩
   go_simp
   with_reducible rfl
 rotate_left
 · simp only [Act.put, z1_, z2_, z3_, i64_w, i32_w]
   rfl
 refine pu_ HT_ 7 19 (B_ 265471 22) ?_
 refine take_ (i := 8) (N := some 20) (v := ?_) (a' := ?_) (B_ 265727 22) rfl rfl (take_ofW HT_.out HW_.out (by kernel_rfl)) (fun _ _ _ h => h) (Or.inl ⟨by rfl, ?_⟩) hHeld ?_ ?_
 rotate_left
 · rintro w' ⟨s0, s1, s2, s3⟩
   go_simp
   with_reducible rfl
 rotate_left
 · simp only [Act.put, z1_, z2_, z3_, i64_w, i32_w]
   rfl
 refine take_ (i := 12) (N := some 24) (v := ?_) (a' := ?_) (B_ 269823 22) rfl rfl (take_ofW HT_.out HW_.out (by kernel_rfl)) (fun _ _ _ h => h) (Or.inl ⟨by rfl, ?_⟩) hHeld ?_ ?_
 rotate_left
 · rintro w' ⟨s0, s1, s2, s3⟩
   go_simp
   with_reducible rfl
 rotate_left
 · simp only [Act.put, z1_, z2_, z3_, i64_w, i32_w]
   rfl
 refine pu_ HT_ 13 25 (B_ 278015 22) ?_
 refine take_ (i := 14) (N := some 26) (v := ?_) (a' := ?_) (B_ 294399 22) rfl rfl (take_ofW HT_.out HW_.out (by kernel_rfl)) (fun _ _ _ h => h) (Or.inl ⟨by rfl, ?_⟩) hHeld ?_ ?_
 rotate_left
 · rintro w' ⟨s0, s1, s2, s3⟩
   go_simp
   with_reducible rfl
 rotate_left
 · simp only [Act.put, z1_, z2_, z3_, i64_w, i32_w]
   rfl
 refine pu_ HT_ 15 27 (B_ 327167 22) ?_
 refine on_ HT_ 9 21 (B_ 327679 22) (fun K hK => ?_)
 refine goes_ Try.func50 (by kernel_rfl) rfl #[.slice (some ad963) l0_0.length c0_0, .int .i64 (rd l0_0 0)] (by rfl) rfl rfl (by (try simp only [List.map_toArray, List.map_cons, List.map_nil]); first | done | rfl | (simp only [List.length_drop, List.length_take]; rfl)) ?_
 with_reducible refine (impl_leasts.calls k _ _ l0_0 (rd l0_0 0) t964 _ ?side1 ?side2 A13.out).mono ?_
 (case side1 => exact ch_ HR0_0 HB)
 (case side2 => exact HC0_0.out)
 rintro e w22 ⟨v965, rfl, ho0, hb⟩
 refine ⟨_, rfl, ?_⟩
 have HO966 := Aside0.mk (Kd.R_lower ho0 (below_size (bq_ HB)))
 replace BK961 := bk_ BK961 hb
 replace HB := bp_ HB hb
 (try clear hb)
 (try clear ho0)
 obtain ⟨Ao23, co23, eo23⟩ := Kd.R_slice HO966.out
 (first | subst eo23 | (injection eo23 with f1_ f2_ f3_; have f4_ := f1_.symm; have f5_ := f3_.symm; clear f1_ f2_ f3_; subst f4_; subst f5_))
 have p968 : 0 ≤ ((ji15) : Int) := od_
 have q968 : (ji15) < (t964.length : Int) := od_
 obtain ⟨ad968, e968, hx968_0⟩ := Kd.at_int (Kd.R_reads' HO966.out).2.2 (ji15) p968 q968
 cases e968
 replace p968 := eq_true p968
 replace q968 := eq_true q968
 refine hK.out _ _ ⟨(blk_cell BK961.out 0).trans rfl, ((HB.out.cell (World.block_lt_of_cell? w _ hw963_0)).trans hw963_0), ((HB.out.cell (World.block_lt_of_cell? w _ hw967_0)).trans hw967_0), trivial⟩ (fun _ => ?_); refine restart_ (S' := fun w' => w'.cell? ⟨gb961, 0, none⟩ = some (.slice (some ad963) l0_0.length c0_0) ∧ w'.cell? ad963 = some (.int .i64 (rd l0_0 0)) ∧ w'.cell? ad963 = some (.int .i64 (rd l0_0 0)) ∧ w'.cell? (ad968.add ((ji15)).toNat) = some (.int .i64 (rd t964 (ji15)))) (fun _ h => ⟨h.1, h.2.1, h.2.2.1, trivial⟩) ⟨(blk_cell BK961.out 0).trans rfl, ((HB.out.cell (World.block_lt_of_cell? w _ hw963_0)).trans hw963_0), ((HB.out.cell (World.block_lt_of_cell? w _ hw967_0)).trans hw967_0), hx968_0⟩ (fun hHeld => ?_)
 clear hK K
 refine norm_ (a' := ?_) ?_ ?_
 rotate_left
 · show Act.put _ (some 21) _ = _
   simp only [Act.put, z1_, z2_, z3_, i64_w, i32_w]
   rfl
 refine pu_ HT_ 16 28 (B_ 393215 22) ?_
 refine take_ (i := 17) (N := some 29) (v := ?_) (a' := ?_) (B_ 524287 22) rfl rfl (take_ofW HT_.out HW_.out (by kernel_rfl)) (fun _ _ _ h => h) (Or.inl ⟨by rfl, ?_⟩) hHeld ?_ ?_
 rotate_left
 · rintro w' ⟨s0, s1, s2, s3⟩
   go_simp
   with_reducible rfl
 rotate_left
 · simp only [Act.put, z1_, z2_, z3_, i64_w, i32_w]
   rfl
 refine pu_ HT_ 19 31 (B_ 1048575 22) ?_
 refine pu_ HT_ 20 32 (B_ 2097151 22) ?_
 refine pu_ HT_ 21 4 (B_ 4194303 22) ?_
 refine done_ (done_of HT_.out (by kernel_rfl)) ?_
 try go_wp2
 go_ret
 exact ⟨by first | rfl | (simp [errW_none, errW_some] <;> rfl) | (simp only [← hji15]; first | rfl | (simp [errW_none, errW_some] <;> rfl)) | (simp [*, errW_none, errW_some] <;> rfl), bq_ HB⟩
mutual
def impl_IsWithin.j0 : Nat → Bool → List Int → List Int → Option (Bool)
 | 0, _, _, _ => none
 | k + 1, x14, x970000, x971000 => if x14 = true then (some false) else (impl_IsWithin.l0 k x970000 (x970000.length : Int) 0 x971000)
def impl_IsWithin.l0 : Nat → List Int → Int → Int → List Int → Option (Bool)
 | 0, _, _, _, _ => none
 | k + 1, x16, x17, x18, x971000 => if x18 < x17 then (if 0 ≤ x18 then (if x18 < (x16.length : Int) then ((impl_Contains.f k x971000 (rd x16 x18)).bind fun t974 => (if t974 = true then (impl_IsWithin.l0 k x16 x17 (wrap64 (x18 + 1)) x971000) else (some false))) else (none)) else (none)) else (some true)
end
def impl_IsWithin.f (k : Nat) (l0_0 : List Int) (l1_0 : List Int) : Option (Bool) := (impl_IsSemigroup.f k l0_0).bind fun t971 => (if t971 = true then ((impl_IsSemigroup.f k l1_0).bind fun t972 => (impl_IsWithin.j0 k (!t972) l0_0 l1_0)) else (impl_IsWithin.j0 k true l0_0 l1_0))
theorem impl_IsWithin.calls (k : Nat) (A0_0 : Option Addr) (c0_0 : Nat) (l0_0 : List Int) (A1_0 : Option Addr) (c1_0 : Nat) (l1_0 : List Int) (r : Bool) (w : World) (hr0_0 : Kd.C (Kd.int .i64) w A0_0 l0_0.length l0_0) (hc0_0 : l0_0.length ≤ c0_0) (hr1_0 : Kd.C (Kd.int .i64) w A1_0 l1_0.length l1_0) (hc1_0 : l1_0.length ≤ c1_0) (h : impl_IsWithin.f k l0_0 l1_0 = some r) :
 Calls Try.prog 20 #[.agg #[.slice A0_0 l0_0.length c0_0], .agg #[.slice A1_0 l1_0.length c1_0]] w fun e w' => e = .returned (.bool r) ∧ Below w.heap.size w w' := by
 have hu26 := Try.underlying26
 have HR0_0 := Aside0.mk hr0_0
 have HC0_0 := Aside0.mk hc0_0
 clear hr0_0 hc0_0
 have HR1_0 := Aside0.mk hr1_0
 have HC1_0 := Aside0.mk hc1_0
 clear hr1_0 hc1_0
 have HB := Aside0.mk (Below.refl w.heap.size w)
 have H := h
 clear h
 unfold impl_IsWithin.f at H
 have HC3 := Aside0.mk H
 clear H
 go_enter Try.func20, Try.ntmps20
 go_upto_region 1 with (first | ((with_reducible refine gate_dst (N := 2) rfl ?_); refine bx_ 2 #[.slice A0_0 l0_0.length c0_0] 26 ?_; intro gb969 hg w4 hbox hb; have BK969 := Aside0.mk (hbox); have GW969 := gw_ hg HB; have GE969 := gw_ hg HB; replace HB := bo_ HB hb; clear hb hbox hg) | ((with_reducible refine gate_dst (N := 3) rfl ?_); refine bx_ 3 #[.slice A1_0 l1_0.length c1_0] 26 ?_; intro gb970 hg w5 hbox hb; have BK970 := Aside0.mk (hbox); have GW970 := gq_ hg (bq_ HB); have GE970 := gq_ hg (bq_ HB); replace HB := bp_ HB hb; have NB969_970 := nl_ hg BK969; have NB970_969 := ng_ hg BK969; replace BK969 := bk_ BK969 hb; clear hb hbox hg))
 (try simp only [Act.put, z1_, z2_, z3_])
 go_cut [14] (fun v14 wc => ∃ (kq : Nat) (x14_2 : Bool), v14 = .bool x14_2 ∧ Aside0 (impl_IsWithin.j0 kq x14_2 l0_0 l1_0 = some r) ∧ Aside0 (kq ≤ k) ∧ Aside0 (wc.heap[gb969]? = some (.cells #[(.slice A0_0 l0_0.length c0_0)] 26 (0, 0))) ∧ Aside0 (wc.heap[gb970]? = some (.cells #[(.slice A1_0 l1_0.length c1_0)] 26 (0, 0))) ∧ Aside0 (Below w.heap.size w wc))
 case first =>
  have H := HC3.out
  clear HC3
  obtain ⟨t971, A6, H⟩ := ob_ H
  by_cases c7 : t971 = true
  rotate_left
  · replace c7 := Bool.eq_false_iff.mpr c7
    subst c7
    rw [if_neg (show ¬ (false = true) by decide)] at H
    have H' := Aside0.mk H
    clear H
    have hnb14 := NB969_970.out
    have hnc14 := NB970_969.out
    have hcz15_0 := cz_ BK969
    have hfz15_0 := blk_frozen BK969.out 0
    go_wp2_with (first | ((with_reducible refine gate_callee (f := 24) rfl ?_); refine gL_ (some 8) Try.func24 #[.agg #[.slice A0_0 l0_0.length c0_0]] ?_; (with_reducible refine (impl_IsSemigroup.calls k _ _ l0_0 false _ ?side1 ?side2 A6.out).mono ?_); (case side1 => exact ch_ HR0_0 HB); (case side2 => exact HC0_0.out); rintro e w16 ⟨rfl, hb⟩; refine ⟨_, rfl, ?_⟩; replace BK969 := bk_ BK969 hb; replace BK970 := bk_ BK970 hb; replace HB := bp_ HB hb; (try clear hb)))
    go_meet
    case rel => exact ⟨_, (true), rs_, H', ⟨by first | omega | exact Nat.le_refl _⟩, ⟨be_ BK969.out⟩, ⟨be_ BK970.out⟩, ⟨bq_ HB⟩⟩
  subst c7
  rw [if_pos rfl] at H
  obtain ⟨t972, A8, H⟩ := ob_ H
  have H' := Aside0.mk H
  clear H
  have hnb9 := NB969_970.out
  have hnc9 := NB970_969.out
  have hcz10_0 := cz_ BK969
  have hfz10_0 := blk_frozen BK969.out 0
  go_wp2_with (first | ((with_reducible refine gate_callee (f := 24) rfl ?_); refine gL_ (some 8) Try.func24 #[.agg #[.slice A0_0 l0_0.length c0_0]] ?_; (with_reducible refine (impl_IsSemigroup.calls k _ _ l0_0 true _ ?side1 ?side2 A6.out).mono ?_); (case side1 => exact ch_ HR0_0 HB); (case side2 => exact HC0_0.out); rintro e w11 ⟨rfl, hb⟩; refine ⟨_, rfl, ?_⟩; replace BK969 := bk_ BK969 hb; replace BK970 := bk_ BK970 hb; replace HB := bp_ HB hb; (try clear hb); have hcz12_0 := cz_ BK970; have hfz12_0 := blk_frozen BK970.out 0) | (go_at_call 24; (with_reducible refine (impl_IsSemigroup.calls k _ _ l1_0 t972 _ ?side1 ?side2 A8.out).mono ?_); (case side1 => exact ch_ HR1_0 HB); (case side2 => exact HC1_0.out); rintro e w13 ⟨rfl, hb⟩; replace BK969 := bk_ BK969 hb; replace BK970 := bk_ BK970 hb; replace HB := bp_ HB hb; (try clear hb)))
  go_meet
  case rel => exact ⟨_, (!t972), rs_, H', ⟨by first | omega | exact Nat.le_refl _⟩, ⟨be_ BK969.out⟩, ⟨be_ BK970.out⟩, ⟨bq_ HB⟩⟩
 case rest =>
  clear HC3
  obtain ⟨kq, x14_2, rfl, HA, HJ2, BK969, BK970, HB⟩ := hcut
  cases kq with
  | zero => exact absurd HA.out (by simp [impl_IsWithin.j0])
  | succ kj2 =>
   have H := HA.out
   clear HA
   simp only [impl_IsWithin.j0] at H
   by_cases c17 : x14_2 = true
   · subst c17
     rw [if_pos rfl] at H
     obtain rfl := Option.some.inj H
     go_wp2
     go_ret
     exact ⟨rf_, bq_ HB⟩
   replace c17 := Bool.eq_false_iff.mpr c17
   subst c17
   rw [if_neg (show ¬ (false = true) by decide)] at H
   have H' := Aside0.mk H
   clear H
   have hnb18 := NB969_970.out
   have hnc18 := NB970_969.out
   have hcz19_0 := cz_ BK969
   have hfz19_0 := blk_frozen BK969.out 0
   go_wp2
   go_loopg [18] kj2 (fun kq v18 w' => ∃ (x18_2 : Int), v18 = .int .i64 x18_2 ∧ Aside0 (impl_IsWithin.l0 kq l0_0 (l0_0.length : Int) x18_2 l1_0 = some r) ∧ Aside0 (kq ≤ kj2) ∧ Aside0 (w'.heap[gb969]? = some (.cells #[(.slice A0_0 l0_0.length c0_0)] 26 (0, 0))) ∧ Aside0 (w'.heap[gb970]? = some (.cells #[(.slice A1_0 l1_0.length c1_0)] 26 (0, 0))) ∧ Aside0 (Below w.heap.size w w'))
   case atStart => exact ⟨(0), rs_, H', ⟨Nat.le_refl _⟩, ⟨be_ BK969.out⟩, ⟨be_ BK970.out⟩, ⟨bq_ HB⟩⟩
   case round =>
    clear H'
    try clear hcz19_0
    try clear hfz19_0
    obtain ⟨x18_2, rfl, HA, HK2, BK969, BK970, HB⟩ := hrel
    cases gk with
    | zero => exact absurd HA.out (by simp [impl_IsWithin.l0])
    | succ k2 =>
     have H := HA.out
     clear HA
     simp only [impl_IsWithin.l0] at H
     by_cases c20 : x18_2 < (l0_0.length : Int)
     rotate_left
     · rw [if_neg c20] at H
       have c20b0 : decide (x18_2 < (l0_0.length : Int)) = false := decide_eq_false c20
       clear c20
       obtain rfl := Option.some.inj H
       go_wp2
       go_ret
       exact ⟨rf_, bq_ HB⟩
     rw [if_pos c20] at H
     have c20b0 : decide (x18_2 < (l0_0.length : Int)) = true := decide_eq_true c20
     clear c20
     obtain ⟨c21b0, H⟩ := ipd_ H
     obtain ⟨c22b0, H⟩ := ipd_ H
     obtain ⟨t974, A23, H⟩ := ob_ H
     by_cases c24 : t974 = true
     rotate_left
     · replace c24 := Bool.eq_false_iff.mpr c24
       subst c24
       rw [if_neg (show ¬ (false = true) by decide)] at H
       obtain rfl := Option.some.inj H
       have p973 : 0 ≤ (x18_2 : Int) := od_
       have q973 : x18_2 < (l0_0.length : Int) := od_
       obtain ⟨ad973, e973, hx973_0⟩ := Kd.at_int HR0_0.out x18_2 p973 q973
       cases e973
       (try replace hx973_0 := (HB.out.cell (World.block_lt_of_cell? w _ hx973_0)).trans hx973_0)
       replace p973 := eq_true p973
       replace q973 := eq_true q973
       have hnb28 := NB970_969.out
       have hnc28 := NB969_970.out
       have hcz29_0 := cz_ BK970
       have hfz29_0 := blk_frozen BK970.out 0
       go_wp2_with (first | ((with_reducible refine gate_callee (f := 41) rfl ?_); refine gL_ (some 24) Try.func41 #[.agg #[.slice A1_0 l1_0.length c1_0], .int .i64 (rd l0_0 x18_2)] ?_; (with_reducible refine (impl_Contains.calls k2 _ _ l1_0 (rd l0_0 x18_2) false _ ?side1 ?side2 A23.out).mono ?_); (case side1 => exact ch_ HR1_0 HB); (case side2 => exact HC1_0.out); rintro e w30 ⟨rfl, hb⟩; refine ⟨_, rfl, ?_⟩; replace BK969 := bk_ BK969 hb; replace BK970 := bk_ BK970 hb; replace HB := bp_ HB hb; (try clear hb)))
       go_ret
       exact ⟨rf_, bq_ HB⟩
     subst c24
     rw [if_pos rfl] at H
     have H' := Aside0.mk H
     clear H
     have p973 : 0 ≤ (x18_2 : Int) := od_
     have q973 : x18_2 < (l0_0.length : Int) := od_
     obtain ⟨ad973, e973, hx973_0⟩ := Kd.at_int HR0_0.out x18_2 p973 q973
     cases e973
     (try replace hx973_0 := (HB.out.cell (World.block_lt_of_cell? w _ hx973_0)).trans hx973_0)
     replace p973 := eq_true p973
     replace q973 := eq_true q973
     have hnb25 := NB970_969.out
     have hnc25 := NB969_970.out
     have hcz26_0 := cz_ BK970
     have hfz26_0 := blk_frozen BK970.out 0
     go_wp2_with (first | ((with_reducible refine gate_callee (f := 41) rfl ?_); refine gL_ (some 24) Try.func41 #[.agg #[.slice A1_0 l1_0.length c1_0], .int .i64 (rd l0_0 x18_2)] ?_; (with_reducible refine (impl_Contains.calls k2 _ _ l1_0 (rd l0_0 x18_2) true _ ?side1 ?side2 A23.out).mono ?_); (case side1 => exact ch_ HR1_0 HB); (case side2 => exact HC1_0.out); rintro e w27 ⟨rfl, hb⟩; refine ⟨_, rfl, ?_⟩; replace BK969 := bk_ BK969 hb; replace BK970 := bk_ BK970 hb; replace HB := bp_ HB hb; (try clear hb)))
     go_roundg k2
     case measure => have := HJ2.out; have := HK2.out; omega
     case rel => exact ⟨(wrap64 (x18_2 + 1)), rs_, H', ⟨by have := HJ2.out; have := HK2.out; omega⟩, ⟨be_ BK969.out⟩, ⟨be_ BK970.out⟩, ⟨bq_ HB⟩⟩
mutual
def impl_ElementAt.j0 : Nat → Int → Bool → List Int → Option (Int)
 | 0, _, _, _ => none
 | k + 1, x1, x14, x976000 => if x14 = true then (some (-1)) else ((impl_table.f k x976000 600).bind fun t978 => (impl_ElementAt.l0 k x1 t978 (t978.length : Int) 0))
def impl_ElementAt.l0 : Nat → Int → List Bool → Int → Int → Option (Int)
 | 0, _, _, _, _ => none
 | k + 1, x1, x16, x17, x18 => if x18 < x17 then (if 0 ≤ x18 then (if x18 < (x16.length : Int) then (if rdOf false x16 x18 = true then (if x1 = 0 then (some x18) else (impl_ElementAt.l0 k (wrap64 (x1 - 1)) x16 x17 (wrap64 (x18 + 1)))) else (impl_ElementAt.l0 k x1 x16 x17 (wrap64 (x18 + 1)))) else (none)) else (none)) else (some (-1))
end
def impl_ElementAt.f (k : Nat) (l0_0 : List Int) (a1 : Int) : Option (Int) := (impl_IsSemigroup.f k l0_0).bind fun t976 => (if t976 = true then ((impl_within.f a1 0 200).bind fun t977 => (impl_ElementAt.j0 k a1 (!t977) l0_0)) else (impl_ElementAt.j0 k a1 true l0_0))
theorem impl_ElementAt.calls (k : Nat) (A0_0 : Option Addr) (c0_0 : Nat) (l0_0 : List Int) (a1 : Int) (r : Int) (w : World) (hr0_0 : Kd.C (Kd.int .i64) w A0_0 l0_0.length l0_0) (hc0_0 : l0_0.length ≤ c0_0) (h : impl_ElementAt.f k l0_0 a1 = some r) :
 Calls Try.prog 21 #[.agg #[.slice A0_0 l0_0.length c0_0], .int .i64 a1] w fun e w' => e = .returned (.int .i64 r) ∧ Below w.heap.size w w' := by
 have hu26 := Try.underlying26
 have HR0_0 := Aside0.mk hr0_0
 have HC0_0 := Aside0.mk hc0_0
 clear hr0_0 hc0_0
 have HB := Aside0.mk (Below.refl w.heap.size w)
 have H := h
 clear h
 unfold impl_ElementAt.f at H
 have HC3 := Aside0.mk H
 clear H
 go_enter Try.func21, Try.ntmps21
 go_upto_region 1 with (first | ((with_reducible refine gate_dst (N := 2) rfl ?_); refine bx_ 2 #[.slice A0_0 l0_0.length c0_0] 26 ?_; intro gb975 hg w4 hbox hb; have BK975 := Aside0.mk (hbox); have GW975 := gw_ hg HB; have GE975 := gw_ hg HB; replace HB := bo_ HB hb; clear hb hbox hg))
 (try simp only [Act.put, z1_, z2_, z3_])
 go_cut [14] (fun v14 wc => ∃ (kq : Nat) (x14_2 : Bool), v14 = .bool x14_2 ∧ Aside0 (impl_ElementAt.j0 kq a1 x14_2 l0_0 = some r) ∧ Aside0 (kq ≤ k) ∧ Aside0 (wc.heap[gb975]? = some (.cells #[(.slice A0_0 l0_0.length c0_0)] 26 (0, 0))) ∧ Aside0 (Below w.heap.size w wc))
 case first =>
  have H := HC3.out
  clear HC3
  obtain ⟨t976, A5, H⟩ := ob_ H
  by_cases c6 : t976 = true
  rotate_left
  · replace c6 := Bool.eq_false_iff.mpr c6
    subst c6
    rw [if_neg (show ¬ (false = true) by decide)] at H
    have H' := Aside0.mk H
    clear H
    have hcz10_0 := cz_ BK975
    have hfz10_0 := blk_frozen BK975.out 0
    go_wp2_with (first | ((with_reducible refine gate_callee (f := 24) rfl ?_); refine gL_ (some 8) Try.func24 #[.agg #[.slice A0_0 l0_0.length c0_0]] ?_; (with_reducible refine (impl_IsSemigroup.calls k _ _ l0_0 false _ ?side1 ?side2 A5.out).mono ?_); (case side1 => exact ch_ HR0_0 HB); (case side2 => exact HC0_0.out); rintro e w11 ⟨rfl, hb⟩; refine ⟨_, rfl, ?_⟩; replace BK975 := bk_ BK975 hb; replace HB := bp_ HB hb; (try clear hb)))
    go_meet
    case rel => exact ⟨_, (true), rs_, H', ⟨by first | omega | exact Nat.le_refl _⟩, ⟨be_ BK975.out⟩, ⟨bq_ HB⟩⟩
  subst c6
  rw [if_pos rfl] at H
  obtain ⟨t977, A7, H⟩ := ob_ H
  have H' := Aside0.mk H
  clear H
  have hcz8_0 := cz_ BK975
  have hfz8_0 := blk_frozen BK975.out 0
  go_wp2_with (first | ((with_reducible refine gate_callee (f := 24) rfl ?_); refine gL_ (some 8) Try.func24 #[.agg #[.slice A0_0 l0_0.length c0_0]] ?_; (with_reducible refine (impl_IsSemigroup.calls k _ _ l0_0 true _ ?side1 ?side2 A5.out).mono ?_); (case side1 => exact ch_ HR0_0 HB); (case side2 => exact HC0_0.out); rintro e w9 ⟨rfl, hb⟩; refine ⟨_, rfl, ?_⟩; replace BK975 := bk_ BK975 hb; replace HB := bp_ HB hb; (try clear hb)) | (go_at_call 42; (with_reducible refine (impl_within.calls a1 0 200 t977 _ A7.out).mono ?_); rintro e w' ⟨rfl, ⟨nd, rfl⟩⟩))
  go_meet
  case rel => exact ⟨_, (!t977), rs_, H', ⟨by first | omega | exact Nat.le_refl _⟩, ⟨be_ BK975.out⟩, ⟨bq_ HB⟩⟩
 case rest =>
  clear HC3
  obtain ⟨kq, x14_2, rfl, HA, HJ2, BK975, HB⟩ := hcut
  cases kq with
  | zero => exact absurd HA.out (by simp [impl_ElementAt.j0])
  | succ kj2 =>
   have H := HA.out
   clear HA
   simp only [impl_ElementAt.j0] at H
   by_cases c12 : x14_2 = true
   · subst c12
     rw [if_pos rfl] at H
     obtain rfl := Option.some.inj H
     go_wp2
     go_ret
     exact ⟨rf_, bq_ HB⟩
   replace c12 := Bool.eq_false_iff.mpr c12
   subst c12
   rw [if_neg (show ¬ (false = true) by decide)] at H
   obtain ⟨t978, A13, H⟩ := ob_ H
   have H' := Aside0.mk H
   clear H
   have hcz14_0 := cz_ BK975
   have hfz14_0 := blk_frozen BK975.out 0
   go_wp2_with (first | ((with_reducible refine gate_callee (f := 25) rfl ?_); refine gL_ (some 16) Try.func25 #[.agg #[.slice A0_0 l0_0.length c0_0], .int .i64 600] ?_; (with_reducible refine (impl_table.calls kj2 _ _ l0_0 600 t978 _ ?side1 ?side2 A13.out).mono ?_); (case side1 => exact ch_ HR0_0 HB); (case side2 => exact HC0_0.out); rintro e w15 ⟨v979, rfl, ho0, hb⟩; refine ⟨_, rfl, ?_⟩; have HO980 := Aside0.mk (Kd.R_lower ho0 (below_size (bq_ HB))); replace BK975 := bk_ BK975 hb; replace HB := bp_ HB hb; (try clear hb); (try clear ho0); obtain ⟨Ao16, co16, eo16⟩ := Kd.R_slice HO980.out; subst eo16))
   go_loopg [1, 18] kj2 (fun kq v1 v18 w' => ∃ (x1_2 : Int) (x18_2 : Int), v1 = .int .i64 x1_2 ∧ v18 = .int .i64 x18_2 ∧ Aside0 (impl_ElementAt.l0 kq x1_2 t978 (t978.length : Int) x18_2 = some r) ∧ Aside0 (kq ≤ kj2) ∧ Aside0 (Kd.R Kd.bool 4 w' w.heap.size (fun _ => True) (.slice Ao16 t978.length co16) t978) ∧ Aside0 (w'.heap[gb975]? = some (.cells #[(.slice A0_0 l0_0.length c0_0)] 26 (0, 0))) ∧ Aside0 (Below w.heap.size w w'))
   case atStart => exact ⟨(a1), (0), rs_, rs_, H', ⟨Nat.le_refl _⟩, ⟨re_ HO980.out⟩, ⟨be_ BK975.out⟩, ⟨bq_ HB⟩⟩
   case round =>
    clear H'
    try clear hcz14_0
    try clear hfz14_0
    obtain ⟨x1_2, x18_2, rfl, rfl, HA, HK2, HO_16, BK975, HB⟩ := hrel
    cases gk with
    | zero => exact absurd HA.out (by simp [impl_ElementAt.l0])
    | succ k2 =>
     have H := HA.out
     clear HA
     simp only [impl_ElementAt.l0] at H
     by_cases c17 : x18_2 < (t978.length : Int)
     rotate_left
     · rw [if_neg c17] at H
       have c17b0 : decide (x18_2 < (t978.length : Int)) = false := decide_eq_false c17
       clear c17
       obtain rfl := Option.some.inj H
       go_wp2
       go_ret
       exact ⟨rf_, bq_ HB⟩
     rw [if_pos c17] at H
     have c17b0 : decide (x18_2 < (t978.length : Int)) = true := decide_eq_true c17
     clear c17
     obtain ⟨c18b0, H⟩ := ipd_ H
     obtain ⟨c19b0, H⟩ := ipd_ H
     obtain ⟨bq20, hbq20⟩ : ∃ b_ : Bool, b_ = (rdOf false t978 x18_2) := ⟨_, rfl⟩
     replace H : (if bq20 = true then (if x1_2 = 0 then (some x18_2) else (impl_ElementAt.l0 k2 (wrap64 (x1_2 - 1)) t978 (t978.length : Int) (wrap64 (x18_2 + 1)))) else (impl_ElementAt.l0 k2 x1_2 t978 (t978.length : Int) (wrap64 (x18_2 + 1)))) = some r := by rw [← hbq20] at H; exact H
     have Nbq20 := Aside0.mk hbq20
     clear hbq20
     by_cases c21 : bq20 = true
     rotate_left
     · replace c21 := Bool.eq_false_iff.mpr c21
       subst c21
       rw [if_neg (show ¬ (false = true) by decide)] at H
       have H' := Aside0.mk H
       clear H
       have p981 : 0 ≤ (x18_2 : Int) := od_
       have q981 : x18_2 < (t978.length : Int) := od_
       obtain ⟨ad981, e981, hx981_0⟩ := Kd.at_bool (Kd.R_reads' HO_16.out).2.2 x18_2 p981 q981
       (try rw [← Nbq20.out] at hx981_0)
       cases e981
       replace p981 := eq_true p981
       replace q981 := eq_true q981
       go_wp2
       go_roundg k2
       case measure => have := HJ2.out; have := HK2.out; omega
       case rel => exact ⟨(x1_2), (wrap64 (x18_2 + 1)), rs_, rs_, H', ⟨by have := HJ2.out; have := HK2.out; omega⟩, ⟨re_ HO_16.out⟩, ⟨be_ BK975.out⟩, ⟨bq_ HB⟩⟩
     subst c21
     rw [if_pos rfl] at H
     by_cases c22 : x1_2 = 0
     · rw [if_pos c22] at H
       have c22b0 : (x1_2 == 0) = true := beq_iff_eq.mpr c22
       have c22b1 : (x1_2 != 0) = false := bne_eq_false_iff_eq.mpr c22
       clear c22
       obtain rfl := Option.some.inj H
       have p981 : 0 ≤ (x18_2 : Int) := od_
       have q981 : x18_2 < (t978.length : Int) := od_
       obtain ⟨ad981, e981, hx981_0⟩ := Kd.at_bool (Kd.R_reads' HO_16.out).2.2 x18_2 p981 q981
       (try rw [← Nbq20.out] at hx981_0)
       cases e981
       replace p981 := eq_true p981
       replace q981 := eq_true q981
       go_wp2
       go_ret
       exact ⟨rf_, bq_ HB⟩
     rw [if_neg c22] at H
     have c22b0 : (x1_2 == 0) = false := beq_eq_false_iff_ne.mpr c22
     have c22b1 : (x1_2 != 0) = true := bne_iff_ne.mpr c22
     have H' := Aside0.mk H
     clear H
     have p981 : 0 ≤ (x18_2 : Int) := od_
     have q981 : x18_2 < (t978.length : Int) := od_
     obtain ⟨ad981, e981, hx981_0⟩ := Kd.at_bool (Kd.R_reads' HO_16.out).2.2 x18_2 p981 q981
     (try rw [← Nbq20.out] at hx981_0)
     cases e981
     replace p981 := eq_true p981
     replace q981 := eq_true q981
     go_wp2
     go_roundg k2
     case measure => have := HJ2.out; have := HK2.out; omega
     case rel => exact ⟨(wrap64 (x1_2 - 1)), (wrap64 (x18_2 + 1)), rs_, rs_, H', ⟨by have := HJ2.out; have := HK2.out; omega⟩, ⟨re_ HO_16.out⟩, ⟨be_ BK975.out⟩, ⟨bq_ HB⟩⟩
end Go.Proofs.Ytppkokbhgkeknaa.PA
end
