-- Bundled by shake.py from this session's printed and written texts; Lean checks it.
import Derived.Test.YthkhpejggdnkfaaZFnExactGlueFrobeniusx1
import Derived.Test.YthkhpejggdnkfaaZFnExactGlueFrobeniusx2
import Derived.Test.YthkhpejggdnkfaaZFnExactGlueFrobeniusx3
import Derived.Test.YthkhpejggdnkfaaZFnExactGlueFrobeniusx5
import Derived.Test.YthkhpejggdnkfaaZFnExactGlueFrobeniusx7
section
namespace Go.Proofs.Ythkhpejggdnkfaa.PA
open Go.RowKit Go.Proofs.YthkhpejggdnkfaaW.PrintWords Go.Proofs.YthkhpejggdnkfaaW.PrintLast Go.Proofs.YthkhpejggdnkfaaW.PrintMore
set_option linter.unusedVariables false
set_option linter.unusedSimpArgs false
def spec_l4Gaps.l0 : Nat → List Int → List Bool → Int → Option (List Int)
 | 0, _, _, _ => none
 | k + 1, x3, x4, x5 => if x5 < 200 then (if 0 ≤ x5 then (if x5 < (x4.length : Int) then (if rdOf false x4 x5 = true then (spec_l4Gaps.l0 k x3 x4 (wrap64 (x5 + 1))) else (if x3.length < 17592186044416 then (spec_l4Gaps.l0 k (x3 ++ [x5]) x4 (wrap64 (x5 + 1))) else (none))) else (none)) else (none)) else (some x3)
def spec_l4Gaps.f (k : Nat) (l0_0 : List Int) : Option (List Int) := (spec_l3Table.f k l0_0 200).bind fun t722 => (spec_l4Gaps.l0 k (([] : List Int)) t722 1)
set_option maxHeartbeats 8000000 in
set_option maxRecDepth 100000 in
theorem spec_l4Gaps.calls (k : Nat) (A0_0 : Option Addr) (c0_0 : Nat) (l0_0 : List Int) (r : List Int) (w : World) (hr0_0 : Kd.C (Kd.int .i64) w A0_0 l0_0.length l0_0) (hc0_0 : l0_0.length ≤ c0_0) (h : spec_l4Gaps.f k l0_0 = some r) :
 Calls Try.prog 92 #[.agg #[.slice A0_0 l0_0.length c0_0]] w fun e w' => ∃ v0_ : Value, e = .returned (v0_) ∧ Kd.R (Kd.int .i64) 3 w' w.heap.size (fun _ => True) v0_ r ∧ Below w.heap.size w w' := by
 have hu44 := Try.underlying44
 have HR0_0 := Aside0.mk hr0_0
 have HC0_0 := Aside0.mk hc0_0
 clear hr0_0 hc0_0
 have HB := Aside0.mk (Below.refl w.heap.size w)
 have H : ((spec_l3Table.f k l0_0 200).bind fun t722 => (spec_l4Gaps.l0 k (([] : List Int)) t722 1)) = some r := h
 clear h
 obtain ⟨y719, hy719⟩ : ∃ y_ : List Int, y_ = (([] : List Int)) := ⟨_, rfl⟩
 replace H : ((spec_l3Table.f k l0_0 200).bind fun t722 => (spec_l4Gaps.l0 k y719 t722 1)) = some r := by first | (rw [hy719]; with_reducible exact H) | (have H2_ := (Option.bind_some _ _).symm.trans H; rw [hy719]; with_reducible exact H2_) | (have H2_ := (Option.bind_some _ _).symm.trans H; with_reducible exact H2_) | with_reducible exact H | (rw [hy719]; exact H) | exact H
 have Ny719 := Aside0.mk hy719
 clear hy719
 replace H := Option.bind_eq_some_iff.mp H
 obtain ⟨t722, A20, H⟩ := H
 replace H : (spec_l4Gaps.l0 k y719 t722 1) = some r := H
 have A2 := Aside0.mk A20
 clear A20
 have H' := Aside0.mk H
 clear H
 go_enter Try.func92, Try.ntmps92
 go_wp2_with (first | ((with_reducible refine gate_dst (N := 1) rfl ?_); refine box_event ?hg (N := 1) ?hd (cs := #[.slice A0_0 l0_0.length c0_0]) (t := 44) ?hr ?_; (case hd => rfl); (case hg => rfl); (case hr => first | (go_simp; done) | (go_simp; rfl)); intro gb718 hg w3 hbox hb; have n0_ := Aside0.mk (below_step (bl_ HB.out) hb); have n1_ := Aside0.mk (hbox); have n2_ := Aside0.mk ((by rw [hg]; exact (below_size (bl_ HB.out)) : w.heap.size ≤ gb718)); have n3_ := Aside0.mk ((by rw [hg]; exact (below_size (bl_ HB.out)) : w.heap.size ≤ gb718)); clear HB; have HB := n0_; have BK718 := n1_; have GW718 := n2_; have GE718 := n3_; clear n0_ n1_ n2_ n3_; clear hb hbox hg) | ((with_reducible refine gate_dst (N := 6) rfl ?_); refine Kd.R_lit (Kd.int .i64) _ 3 ?hg (N := 6) ?hd (xs := ([] : List Int)) (inner := []) (ok := fun _ => True) (okp := fun _ => True) ?hr ?hp (fun _ hk => hk) trivial (Below.refl _ _) (Nat.le_refl _) (by simp) ?_; (case hd => rfl); (case hg => rfl); (case hr => first | (go_simp; done) | (go_simp; rfl)); (case hp => exact (Reps.none _ _)); intro v720 w4 ho5 hb hg_ hnew_; clear hg_ hnew_; (first | rw [← Ny719.out] at ho5 | (simp only [Int.reduceToNat] at ho5; rw [← Ny719.out] at ho5)); have n0_ := Aside0.mk (Kd.R_lower ho5 (below_size (by repeat (first | (with_reducible first | exact HB.out | apply below_alloc | apply pw_below_drewN | apply below_drew1 | refine below_set ?_ GE718.out) | exact HB.out)))); have n1_ := Aside0.mk (blk_below (g := gb718) (o := .cells #[.slice A0_0 l0_0.length c0_0] 44 (0, 0)) (be_ BK718.out) hb); have n2_ := Aside0.mk (below_step (by repeat (first | (with_reducible first | exact HB.out | apply below_alloc | apply pw_below_drewN | apply below_drew1 | refine below_set ?_ GE718.out) | exact HB.out)) hb); clear BK718; clear HB; have HO721 := n0_; have BK718 := n1_; have HB := n2_; clear n0_ n1_ n2_; clear hb ho5; have hcz6_0 : w4.cell? ⟨gb718, 0, none⟩ = some (.slice A0_0 l0_0.length c0_0) := (blk_cell BK718.out 0).trans rfl; have hfz6_0 := blk_frozen BK718.out 0) | ((with_reducible refine gate_callee (f := 89) rfl ?_); refine goesL_ (some 9) rfl rfl Try.func89 (by kernel_rfl) rfl #[.slice A0_0 l0_0.length c0_0, .int .i64 200] rfl (by (try simp only [List.map_toArray, List.map_cons, List.map_nil]); first | done | rfl | (simp only [List.length_drop, List.length_take]; rfl)) ?_; (with_reducible refine (spec_l3Table.calls k _ _ l0_0 200 t722 _ ?side1 ?side2 A2.out).mono ?_); (case side1 => exact ce_ ((Kd.C_below HR0_0.out HB.out))); (case side2 => exact HC0_0.out); rintro e w7 ⟨v723, rfl, ho0, hb⟩; refine ⟨_, rfl, ?_⟩; have n0_ := Aside0.mk (Kd.R_below (re_ HO721.out) hb); have n1_ := Aside0.mk (Kd.R_lower ho0 (below_size (by repeat (first | (with_reducible first | exact HB.out | apply below_alloc | apply pw_below_drewN | apply below_drew1 | refine below_set ?_ GE718.out) | exact HB.out)))); have n2_ := Aside0.mk (blk_below (g := gb718) (o := .cells #[.slice A0_0 l0_0.length c0_0] 44 (0, 0)) (be_ BK718.out) hb); have n3_ := Aside0.mk (below_step (by repeat (first | (with_reducible first | exact HB.out | apply below_alloc | apply pw_below_drewN | apply below_drew1 | refine below_set ?_ GE718.out) | exact HB.out)) hb); clear HO721; clear BK718; clear HB; have HO721 := n0_; have HO724 := n1_; have BK718 := n2_; have HB := n3_; clear n0_ n1_ n2_ n3_; (try clear hb); (try clear hb2); (try clear hk); (try clear hi); (try clear ho0)))
 go_loopg [3, 5] k (fun kq v3 v5 w' => ∃ (x3_1 : List Int) (x5_1 : Int), v5 = .int .i64 x5_1 ∧ Aside0 (spec_l4Gaps.l0 kq x3_1 t722 x5_1 = some r) ∧ Aside0 (kq ≤ k) ∧ Aside0 (Kd.R (Kd.int .i64) 3 w' w.heap.size (fun _ => True) v3 x3_1) ∧ Aside0 (Kd.R Kd.bool 4 w' w.heap.size (fun _ => True) v723 t722) ∧ Aside0 (w'.heap[gb718]? = some (.cells #[(.slice A0_0 l0_0.length c0_0)] 44 (0, 0))) ∧ Aside0 (Below w.heap.size w w'))
 case atStart => exact ⟨(y719), (1), (by first | rfl | (simp; done) | (simp [*]; done)), H', ⟨Nat.le_refl _⟩, ⟨re_ HO721.out⟩, ⟨re_ HO724.out⟩, ⟨be_ BK718.out⟩, ⟨by repeat (first | (with_reducible first | exact HB.out | apply below_alloc | apply pw_below_drewN | apply below_drew1 | refine below_set ?_ GE718.out) | exact HB.out)⟩⟩
 case round =>
  clear H'
  try clear p2
  try clear hcz6_0
  try clear hfz6_0
  obtain ⟨x3_1, x5_1, rfl, HA, HK1, HO_3, HO_4, BK718, HB⟩ := hrel
  cases gk with
  | zero => exact absurd HA.out (by simp [spec_l4Gaps.l0])
  | succ k1 =>
   have H := HA.out
   clear HA
   simp only [spec_l4Gaps.l0] at H
   by_cases c8 : x5_1 < 200
   · rw [if_pos c8] at H
     have c8b0 : decide (x5_1 < 200) = true := decide_eq_true c8
     clear c8
     by_cases c9 : 0 ≤ x5_1
     · rw [if_pos c9] at H
       have c9b0 : decide (0 ≤ x5_1) = true := decide_eq_true c9
       clear c9
       by_cases c10 : x5_1 < (t722.length : Int)
       · rw [if_pos c10] at H
         have c10b0 : decide (x5_1 < (t722.length : Int)) = true := decide_eq_true c10
         clear c10
         obtain ⟨bq11, hbq11⟩ : ∃ b_ : Bool, b_ = (rdOf false t722 x5_1) := ⟨_, rfl⟩
         replace H : (if bq11 = true then (spec_l4Gaps.l0 k1 x3_1 t722 (wrap64 (x5_1 + 1))) else (if x3_1.length < 17592186044416 then (spec_l4Gaps.l0 k1 (x3_1 ++ [x5_1]) t722 (wrap64 (x5_1 + 1))) else (none))) = some r := by rw [← hbq11] at H; exact H
         have Nbq11 := Aside0.mk hbq11
         clear hbq11
         by_cases c12 : bq11 = true
         · subst c12
           have H1 : (spec_l4Gaps.l0 k1 x3_1 t722 (wrap64 (x5_1 + 1))) = some r := by rw [if_pos rfl] at H; exact H
           clear H
           have H := H1
           clear H1
           as_aux_lemma =>
            have H' := Aside0.mk H
            clear H
            obtain ⟨Ao13, co13, eo13⟩ := Kd.R_slice HO_4.out
            subst eo13
            have p725 : 0 ≤ (x5_1 : Int) := of_decide_eq_true (by first | (with_reducible assumption) | assumption)
            have q725 : x5_1 < (t722.length : Int) := of_decide_eq_true (by first | (with_reducible assumption) | assumption)
            obtain ⟨ad725, e725, hx725_0⟩ := Kd.at_bool (Kd.R_reads' HO_4.out).2.2 x5_1 p725 q725
            (try rw [← Nbq11.out] at hx725_0)
            cases e725
            replace p725 := eq_true p725
            replace q725 := eq_true q725
            go_wp2
            go_roundg k1
            case measure => have := HK1.out; omega
            case rel => exact ⟨(x3_1), (wrap64 (x5_1 + 1)), (by first | rfl | (simp; done) | (simp [*]; done)), H', ⟨by have := HK1.out; omega⟩, ⟨re_ HO_3.out⟩, ⟨re_ HO_4.out⟩, ⟨be_ BK718.out⟩, ⟨by repeat (first | (with_reducible first | exact HB.out | apply below_alloc | apply pw_below_drewN | apply below_drew1 | refine below_set ?_ GE718.out) | exact HB.out)⟩⟩
         · replace c12 := Bool.eq_false_iff.mpr c12
           subst c12
           have H1 : (if x3_1.length < 17592186044416 then (spec_l4Gaps.l0 k1 (x3_1 ++ [x5_1]) t722 (wrap64 (x5_1 + 1))) else (none)) = some r := by rw [if_neg (show ¬ (false = true) by decide)] at H; exact H
           clear H
           have H := H1
           clear H1
           by_cases c14 : x3_1.length < 17592186044416
           · rw [if_pos c14] at H
             have LMc14 := Aside0.mk c14
             clear c14
             obtain ⟨y726, hy726⟩ : ∃ y_ : List Int, y_ = (x3_1 ++ [x5_1]) := ⟨_, rfl⟩
             replace H : (spec_l4Gaps.l0 k1 y726 t722 (wrap64 (x5_1 + 1))) = some r := by first | (rw [hy726]; with_reducible exact H) | (have H2_ := (Option.bind_some _ _).symm.trans H; rw [hy726]; with_reducible exact H2_) | (have H2_ := (Option.bind_some _ _).symm.trans H; with_reducible exact H2_) | with_reducible exact H | (rw [hy726]; exact H) | exact H
             have Ny726 := Aside0.mk hy726
             clear hy726
             as_aux_lemma =>
              have H' := Aside0.mk H
              clear H
              obtain ⟨Ao15, co15, eo15⟩ := Kd.R_slice HO_4.out
              subst eo15
              have p725 : 0 ≤ (x5_1 : Int) := of_decide_eq_true (by first | (with_reducible assumption) | assumption)
              have q725 : x5_1 < (t722.length : Int) := of_decide_eq_true (by first | (with_reducible assumption) | assumption)
              obtain ⟨ad725, e725, hx725_0⟩ := Kd.at_bool (Kd.R_reads' HO_4.out).2.2 x5_1 p725 q725
              (try rw [← Nbq11.out] at hx725_0)
              cases e725
              replace p725 := eq_true p725
              replace q725 := eq_true q725
              go_wp2_with (first | ((with_reducible refine gate_builtin (b := .append) (xs := #[.tmp 19, .tmp 21]) rfl ?_); at_builtin; refine Kd.R_append (Kd.int .i64) (w0 := w) w.heap.size rfl (.tmp 19) (.tmp 21) 22 3 (.int .i64 0) 8 rfl Try.underlying22 info3 rfl (by decide) (by omega) u3 x3_1 x5_1 [.int .i64 x5_1] (fun _ => True) (fun _ => False) rfl rfl ?aP (fun _ hk => hk.elim) ?aF ?aO ?aB ?aS ?aL ?_; (case aP => exact rfl); (case aB => exact (by repeat (first | (with_reducible first | exact HB.out | apply below_alloc | apply pw_below_drewN | apply below_drew1 | refine below_set ?_ GE718.out) | exact HB.out))); (case aF => exact (fun _ _ => trivial)); (case aO => exact (re_ HO_3.out)); (case aS => exact (below_size (by repeat (first | (with_reducible first | exact HB.out | apply below_alloc | apply pw_below_drewN | apply below_drew1 | refine below_set ?_ GE718.out) | exact HB.out)))); (case aL => have := LMc14.out; omega); intro v727 w16 ho hb hg hat; rw [← Ny726.out] at ho; have n0_ := Aside0.mk (Kd.R_over' (re_ HO_4.out) (Kd.R_typed (re_ HO_3.out)) (by decide) hg); have n1_ := Aside0.mk (blk_grown (g := gb718) (o := .cells #[.slice A0_0 l0_0.length c0_0] 44 (0, 0)) (be_ BK718.out) hg (Kd.R_ne HO_3.out BK718.out (by decide))); have n2_ := Aside0.mk (hb); have n3_ := Aside0.mk (ho); clear HO_4; clear BK718; clear HB; clear HO_3; have HO_4 := n0_; have BK718 := n1_; have HB := n2_; have HO728 := n3_; clear n0_ n1_ n2_ n3_; clear ho hb hg hat))
              go_roundg k1
              case measure => have := HK1.out; omega
              case rel => exact ⟨(y726), (wrap64 (x5_1 + 1)), (by first | rfl | (simp; done) | (simp [*]; done)), H', ⟨by have := HK1.out; omega⟩, ⟨re_ HO728.out⟩, ⟨re_ HO_4.out⟩, ⟨be_ BK718.out⟩, ⟨by repeat (first | (with_reducible first | exact HB.out | apply below_alloc | apply pw_below_drewN | apply below_drew1 | refine below_set ?_ GE718.out) | exact HB.out)⟩⟩
           · rw [if_neg c14] at H
             exact absurd H (by simp)
       · rw [if_neg c10] at H
         exact absurd H (by simp)
     · rw [if_neg c9] at H
       exact absurd H (by simp)
   · rw [if_neg c8] at H
     have c8b0 : decide (x5_1 < 200) = false := decide_eq_false c8
     clear c8
     as_aux_lemma =>
      obtain rfl := Option.some.inj H
      go_wp2
      go_ret
      exact ⟨_, by first | rfl | (simp [errW_none, errW_some] <;> rfl) | (simp [*, errW_none, errW_some] <;> rfl), re_ HO_3.out, by repeat (first | (with_reducible first | exact HB.out | apply below_alloc | apply pw_below_drewN | apply below_drew1 | refine below_set ?_ GE718.out) | exact HB.out)⟩
def spec_Gaps.f (k : Nat) (l0_0 : List Int) : Option (List Int) := (spec_IsSemigroup.f k l0_0).bind fun t730 => (if t730 = true then ((spec_l4Gaps.f k l0_0).bind fun t731 => (some t731)) else (some (([] : List Int))))
set_option maxHeartbeats 8000000 in
set_option maxRecDepth 100000 in
theorem spec_Gaps.calls (k : Nat) (A0_0 : Option Addr) (c0_0 : Nat) (l0_0 : List Int) (r : List Int) (w : World) (hr0_0 : Kd.C (Kd.int .i64) w A0_0 l0_0.length l0_0) (hc0_0 : l0_0.length ≤ c0_0) (h : spec_Gaps.f k l0_0 = some r) :
 Calls Try.prog 86 #[.agg #[.slice A0_0 l0_0.length c0_0]] w fun e w' => ∃ v0_ : Value, e = .returned (v0_) ∧ Kd.R (Kd.int .i64) 3 w' w.heap.size (fun _ => True) v0_ r ∧ Below w.heap.size w w' := by
 have hu44 := Try.underlying44
 have HR0_0 := Aside0.mk hr0_0
 have HC0_0 := Aside0.mk hc0_0
 clear hr0_0 hc0_0
 have HB := Aside0.mk (Below.refl w.heap.size w)
 have H : ((spec_IsSemigroup.f k l0_0).bind fun t730 => (if t730 = true then ((spec_l4Gaps.f k l0_0).bind fun t731 => (some t731)) else (some (([] : List Int))))) = some r := h
 clear h
 replace H := Option.bind_eq_some_iff.mp H
 obtain ⟨t730, A20, H⟩ := H
 replace H : (if t730 = true then ((spec_l4Gaps.f k l0_0).bind fun t731 => (some t731)) else (some (([] : List Int)))) = some r := H
 have A2 := Aside0.mk A20
 clear A20
 by_cases c3 : t730 = true
 · subst c3
   have H1 : ((spec_l4Gaps.f k l0_0).bind fun t731 => (some t731)) = some r := by rw [if_pos rfl] at H; exact H
   clear H
   have H := H1
   clear H1
   replace H := Option.bind_eq_some_iff.mp H
   obtain ⟨t731, A40, H⟩ := H
   replace H : (some t731) = some r := H
   have A4 := Aside0.mk A40
   clear A40
   as_aux_lemma =>
    obtain rfl := Option.some.inj H
    go_enter Try.func86, Try.ntmps86
    go_wp2_with (first | ((with_reducible refine gate_dst (N := 1) rfl ?_); refine box_event ?hg (N := 1) ?hd (cs := #[.slice A0_0 l0_0.length c0_0]) (t := 44) ?hr ?_; (case hd => rfl); (case hg => rfl); (case hr => first | (go_simp; done) | (go_simp; rfl)); intro gb729 hg w5 hbox hb; have n0_ := Aside0.mk (below_step (bl_ HB.out) hb); have n1_ := Aside0.mk (hbox); have n2_ := Aside0.mk ((by rw [hg]; exact (below_size (bl_ HB.out)) : w.heap.size ≤ gb729)); have n3_ := Aside0.mk ((by rw [hg]; exact (below_size (bl_ HB.out)) : w.heap.size ≤ gb729)); clear HB; have HB := n0_; have BK729 := n1_; have GW729 := n2_; have GE729 := n3_; clear n0_ n1_ n2_ n3_; clear hb hbox hg; have hcz6_0 : w5.cell? ⟨gb729, 0, none⟩ = some (.slice A0_0 l0_0.length c0_0) := (blk_cell BK729.out 0).trans rfl; have hfz6_0 := blk_frozen BK729.out 0) | ((with_reducible refine gate_callee (f := 54) rfl ?_); refine goesL_ (some 4) rfl rfl Try.func54 (by kernel_rfl) rfl #[.agg #[.slice A0_0 l0_0.length c0_0]] rfl (by (try simp only [List.map_toArray, List.map_cons, List.map_nil]); first | done | rfl | (simp only [List.length_drop, List.length_take]; rfl)) ?_; (with_reducible refine (spec_IsSemigroup.calls k _ _ l0_0 true _ ?side1 ?side2 A2.out).mono ?_); (case side1 => exact ce_ ((Kd.C_below HR0_0.out HB.out))); (case side2 => exact HC0_0.out); rintro e w7 ⟨rfl, hb⟩; refine ⟨_, rfl, ?_⟩; have n0_ := Aside0.mk (blk_below (g := gb729) (o := .cells #[.slice A0_0 l0_0.length c0_0] 44 (0, 0)) (be_ BK729.out) hb); have n1_ := Aside0.mk (below_step (by repeat (first | (with_reducible first | exact HB.out | apply below_alloc | apply pw_below_drewN | apply below_drew1 | refine below_set ?_ GE729.out) | exact HB.out)) hb); clear BK729; clear HB; have BK729 := n0_; have HB := n1_; clear n0_ n1_; (try clear hb); (try clear hb2); (try clear hk); (try clear hi); have hcz8_0 : w7.cell? ⟨gb729, 0, none⟩ = some (.slice A0_0 l0_0.length c0_0) := (blk_cell BK729.out 0).trans rfl; have hfz8_0 := blk_frozen BK729.out 0) | ((with_reducible refine gate_callee (f := 92) rfl ?_); refine goesL_ (some 8) rfl rfl Try.func92 (by kernel_rfl) rfl #[.agg #[.slice A0_0 l0_0.length c0_0]] rfl (by (try simp only [List.map_toArray, List.map_cons, List.map_nil]); first | done | rfl | (simp only [List.length_drop, List.length_take]; rfl)) ?_; (with_reducible refine (spec_l4Gaps.calls k _ _ l0_0 t731 _ ?side1 ?side2 A4.out).mono ?_); (case side1 => exact ce_ ((Kd.C_below HR0_0.out HB.out))); (case side2 => exact HC0_0.out); rintro e w9 ⟨v732, rfl, ho0, hb⟩; refine ⟨_, rfl, ?_⟩; have n0_ := Aside0.mk (Kd.R_lower ho0 (below_size (by repeat (first | (with_reducible first | exact HB.out | apply below_alloc | apply pw_below_drewN | apply below_drew1 | refine below_set ?_ GE729.out) | exact HB.out)))); have n1_ := Aside0.mk (blk_below (g := gb729) (o := .cells #[.slice A0_0 l0_0.length c0_0] 44 (0, 0)) (be_ BK729.out) hb); have n2_ := Aside0.mk (below_step (by repeat (first | (with_reducible first | exact HB.out | apply below_alloc | apply pw_below_drewN | apply below_drew1 | refine below_set ?_ GE729.out) | exact HB.out)) hb); clear BK729; clear HB; have HO733 := n0_; have BK729 := n1_; have HB := n2_; clear n0_ n1_ n2_; (try clear hb); (try clear hb2); (try clear hk); (try clear hi); (try clear ho0)))
    go_ret
    exact ⟨_, by first | rfl | (simp [errW_none, errW_some] <;> rfl) | (simp [*, errW_none, errW_some] <;> rfl), re_ HO733.out, by repeat (first | (with_reducible first | exact HB.out | apply below_alloc | apply pw_below_drewN | apply below_drew1 | refine below_set ?_ GE729.out) | exact HB.out)⟩
 · replace c3 := Bool.eq_false_iff.mpr c3
   subst c3
   have H1 : (some (([] : List Int))) = some r := by rw [if_neg (show ¬ (false = true) by decide)] at H; exact H
   clear H
   have H := H1
   clear H1
   obtain ⟨y734, hy734⟩ : ∃ y_ : List Int, y_ = (([] : List Int)) := ⟨_, rfl⟩
   replace H : (some y734) = some r := by first | (rw [hy734]; with_reducible exact H) | (have H2_ := (Option.bind_some _ _).symm.trans H; rw [hy734]; with_reducible exact H2_) | (have H2_ := (Option.bind_some _ _).symm.trans H; with_reducible exact H2_) | with_reducible exact H | (rw [hy734]; exact H) | exact H
   have Ny734 := Aside0.mk hy734
   clear hy734
   as_aux_lemma =>
    obtain rfl := Option.some.inj H
    go_enter Try.func86, Try.ntmps86
    go_wp2_with (first | ((with_reducible refine gate_dst (N := 1) rfl ?_); refine box_event ?hg (N := 1) ?hd (cs := #[.slice A0_0 l0_0.length c0_0]) (t := 44) ?hr ?_; (case hd => rfl); (case hg => rfl); (case hr => first | (go_simp; done) | (go_simp; rfl)); intro gb729 hg w10 hbox hb; have n0_ := Aside0.mk (below_step (bl_ HB.out) hb); have n1_ := Aside0.mk (hbox); have n2_ := Aside0.mk ((by rw [hg]; exact (below_size (bl_ HB.out)) : w.heap.size ≤ gb729)); have n3_ := Aside0.mk ((by rw [hg]; exact (below_size (bl_ HB.out)) : w.heap.size ≤ gb729)); clear HB; have HB := n0_; have BK729 := n1_; have GW729 := n2_; have GE729 := n3_; clear n0_ n1_ n2_ n3_; clear hb hbox hg; have hcz11_0 : w10.cell? ⟨gb729, 0, none⟩ = some (.slice A0_0 l0_0.length c0_0) := (blk_cell BK729.out 0).trans rfl; have hfz11_0 := blk_frozen BK729.out 0) | ((with_reducible refine gate_callee (f := 54) rfl ?_); refine goesL_ (some 4) rfl rfl Try.func54 (by kernel_rfl) rfl #[.agg #[.slice A0_0 l0_0.length c0_0]] rfl (by (try simp only [List.map_toArray, List.map_cons, List.map_nil]); first | done | rfl | (simp only [List.length_drop, List.length_take]; rfl)) ?_; (with_reducible refine (spec_IsSemigroup.calls k _ _ l0_0 false _ ?side1 ?side2 A2.out).mono ?_); (case side1 => exact ce_ ((Kd.C_below HR0_0.out HB.out))); (case side2 => exact HC0_0.out); rintro e w12 ⟨rfl, hb⟩; refine ⟨_, rfl, ?_⟩; have n0_ := Aside0.mk (blk_below (g := gb729) (o := .cells #[.slice A0_0 l0_0.length c0_0] 44 (0, 0)) (be_ BK729.out) hb); have n1_ := Aside0.mk (below_step (by repeat (first | (with_reducible first | exact HB.out | apply below_alloc | apply pw_below_drewN | apply below_drew1 | refine below_set ?_ GE729.out) | exact HB.out)) hb); clear BK729; clear HB; have BK729 := n0_; have HB := n1_; clear n0_ n1_; (try clear hb); (try clear hb2); (try clear hk); (try clear hi)) | ((with_reducible refine gate_dst (N := 6) rfl ?_); refine Kd.R_lit (Kd.int .i64) _ 3 ?hg (N := 6) ?hd (xs := ([] : List Int)) (inner := []) (ok := fun _ => True) (okp := fun _ => True) ?hr ?hp (fun _ hk => hk) trivial (Below.refl _ _) (Nat.le_refl _) (by simp) ?_; (case hd => rfl); (case hg => rfl); (case hr => first | (go_simp; done) | (go_simp; rfl)); (case hp => exact (Reps.none _ _)); intro v735 w13 ho14 hb hg_ hnew_; clear hg_ hnew_; (first | rw [← Ny734.out] at ho14 | (simp only [Int.reduceToNat] at ho14; rw [← Ny734.out] at ho14)); have n0_ := Aside0.mk (Kd.R_lower ho14 (below_size (by repeat (first | (with_reducible first | exact HB.out | apply below_alloc | apply pw_below_drewN | apply below_drew1 | refine below_set ?_ GE729.out) | exact HB.out)))); have n1_ := Aside0.mk (blk_below (g := gb729) (o := .cells #[.slice A0_0 l0_0.length c0_0] 44 (0, 0)) (be_ BK729.out) hb); have n2_ := Aside0.mk (below_step (by repeat (first | (with_reducible first | exact HB.out | apply below_alloc | apply pw_below_drewN | apply below_drew1 | refine below_set ?_ GE729.out) | exact HB.out)) hb); clear BK729; clear HB; have HO736 := n0_; have BK729 := n1_; have HB := n2_; clear n0_ n1_ n2_; clear hb ho14))
    go_ret
    exact ⟨_, by first | rfl | (simp [errW_none, errW_some] <;> rfl) | (simp [*, errW_none, errW_some] <;> rfl), re_ HO736.out, by repeat (first | (with_reducible first | exact HB.out | apply below_alloc | apply pw_below_drewN | apply below_drew1 | refine below_set ?_ GE729.out) | exact HB.out)⟩
def spec_FrobeniusOf.f (k : Nat) (l0_0 : List Int) : Option (Int) := (spec_Gaps.f k l0_0).bind fun t738 => (if (t738.length : Int) = 0 then (some (-1)) else (if 0 ≤ (wrap64 ((t738.length : Int) - 1)) then (if (wrap64 ((t738.length : Int) - 1)) < (t738.length : Int) then (some (rd t738 (wrap64 ((t738.length : Int) - 1)))) else (none)) else (none)))
set_option maxHeartbeats 8000000 in
set_option maxRecDepth 100000 in
theorem spec_FrobeniusOf.calls (k : Nat) (A0_0 : Option Addr) (c0_0 : Nat) (l0_0 : List Int) (r : Int) (w : World) (hr0_0 : Kd.C (Kd.int .i64) w A0_0 l0_0.length l0_0) (hc0_0 : l0_0.length ≤ c0_0) (h : spec_FrobeniusOf.f k l0_0 = some r) :
 Calls Try.prog 68 #[.agg #[.slice A0_0 l0_0.length c0_0]] w fun e w' => e = .returned (.int .i64 r) ∧ Below w.heap.size w w' := by
 have hu44 := Try.underlying44
 have HR0_0 := Aside0.mk hr0_0
 have HC0_0 := Aside0.mk hc0_0
 clear hr0_0 hc0_0
 have HB := Aside0.mk (Below.refl w.heap.size w)
 have H : ((spec_Gaps.f k l0_0).bind fun t738 => (if (t738.length : Int) = 0 then (some (-1)) else (if 0 ≤ (wrap64 ((t738.length : Int) - 1)) then (if (wrap64 ((t738.length : Int) - 1)) < (t738.length : Int) then (some (rd t738 (wrap64 ((t738.length : Int) - 1)))) else (none)) else (none)))) = some r := h
 clear h
 replace H := Option.bind_eq_some_iff.mp H
 obtain ⟨t738, A20, H⟩ := H
 replace H : (if (t738.length : Int) = 0 then (some (-1)) else (if 0 ≤ (wrap64 ((t738.length : Int) - 1)) then (if (wrap64 ((t738.length : Int) - 1)) < (t738.length : Int) then (some (rd t738 (wrap64 ((t738.length : Int) - 1)))) else (none)) else (none))) = some r := H
 have A2 := Aside0.mk A20
 clear A20
 by_cases c3 : (t738.length : Int) = 0
 · rw [if_pos c3] at H
   have c3b0 : ((t738.length : Int) == 0) = true := beq_iff_eq.mpr c3
   have c3b1 : ((t738.length : Int) != 0) = false := bne_eq_false_iff_eq.mpr c3
   clear c3
   as_aux_lemma =>
    obtain rfl := Option.some.inj H
    go_enter Try.func68, Try.ntmps68
    go_wp2_with (first | ((with_reducible refine gate_dst (N := 1) rfl ?_); refine box_event ?hg (N := 1) ?hd (cs := #[.slice A0_0 l0_0.length c0_0]) (t := 44) ?hr ?_; (case hd => rfl); (case hg => rfl); (case hr => first | (go_simp; done) | (go_simp; rfl)); intro gb737 hg w4 hbox hb; have n0_ := Aside0.mk (below_step (bl_ HB.out) hb); have n1_ := Aside0.mk (hbox); have n2_ := Aside0.mk ((by rw [hg]; exact (below_size (bl_ HB.out)) : w.heap.size ≤ gb737)); have n3_ := Aside0.mk ((by rw [hg]; exact (below_size (bl_ HB.out)) : w.heap.size ≤ gb737)); clear HB; have HB := n0_; have BK737 := n1_; have GW737 := n2_; have GE737 := n3_; clear n0_ n1_ n2_ n3_; clear hb hbox hg; have hcz5_0 : w4.cell? ⟨gb737, 0, none⟩ = some (.slice A0_0 l0_0.length c0_0) := (blk_cell BK737.out 0).trans rfl; have hfz5_0 := blk_frozen BK737.out 0) | ((with_reducible refine gate_callee (f := 86) rfl ?_); refine goesL_ (some 5) rfl rfl Try.func86 (by kernel_rfl) rfl #[.agg #[.slice A0_0 l0_0.length c0_0]] rfl (by (try simp only [List.map_toArray, List.map_cons, List.map_nil]); first | done | rfl | (simp only [List.length_drop, List.length_take]; rfl)) ?_; (with_reducible refine (spec_Gaps.calls k _ _ l0_0 t738 _ ?side1 ?side2 A2.out).mono ?_); (case side1 => exact ce_ ((Kd.C_below HR0_0.out HB.out))); (case side2 => exact HC0_0.out); rintro e w6 ⟨v739, rfl, ho0, hb⟩; refine ⟨_, rfl, ?_⟩; have n0_ := Aside0.mk (Kd.R_lower ho0 (below_size (by repeat (first | (with_reducible first | exact HB.out | apply below_alloc | apply pw_below_drewN | apply below_drew1 | refine below_set ?_ GE737.out) | exact HB.out)))); have n1_ := Aside0.mk (blk_below (g := gb737) (o := .cells #[.slice A0_0 l0_0.length c0_0] 44 (0, 0)) (be_ BK737.out) hb); have n2_ := Aside0.mk (below_step (by repeat (first | (with_reducible first | exact HB.out | apply below_alloc | apply pw_below_drewN | apply below_drew1 | refine below_set ?_ GE737.out) | exact HB.out)) hb); clear BK737; clear HB; have HO740 := n0_; have BK737 := n1_; have HB := n2_; clear n0_ n1_ n2_; (try clear hb); (try clear hb2); (try clear hk); (try clear hi); (try clear ho0); obtain ⟨Ao7, co7, eo7⟩ := Kd.R_slice HO740.out; subst eo7))
    go_ret
    exact ⟨by first | rfl | (simp [errW_none, errW_some] <;> rfl) | (simp [*, errW_none, errW_some] <;> rfl), by repeat (first | (with_reducible first | exact HB.out | apply below_alloc | apply pw_below_drewN | apply below_drew1 | refine below_set ?_ GE737.out) | exact HB.out)⟩
 · rw [if_neg c3] at H
   have c3b0 : ((t738.length : Int) == 0) = false := beq_eq_false_iff_ne.mpr c3
   have c3b1 : ((t738.length : Int) != 0) = true := bne_iff_ne.mpr c3
   have c3b2 : ¬ (t738 = []) := fun h_ => c3 (by rw [h_]; rfl)
   obtain ⟨ji8, hji8⟩ : ∃ j_ : Int, (wrap64 ((t738.length : Int) - 1)) = j_ := ⟨_, rfl⟩
   replace H : (if 0 ≤ (ji8) then (if (ji8) < (t738.length : Int) then (some (rd t738 (ji8))) else (none)) else (none)) = some r := by first | (rw [hji8] at H; exact H) | (simp only [hji8] at H ⊢; exact H)
   (try rw [hji8] at A2)
   have hji8w : (IntKind.i64.wrap ((t738.length : Int) - 1)) = ji8 := (i64_w _).trans hji8
   by_cases c9 : 0 ≤ (ji8)
   · rw [if_pos c9] at H
     have c9b0 : decide (0 ≤ (ji8)) = true := decide_eq_true c9
     clear c9
     by_cases c10 : (ji8) < (t738.length : Int)
     · rw [if_pos c10] at H
       have c10b0 : decide ((ji8) < (t738.length : Int)) = true := decide_eq_true c10
       clear c10
       as_aux_lemma =>
        obtain rfl := Option.some.inj H
        go_enter Try.func68, Try.ntmps68
        go_wp2_with (first | ((with_reducible refine gate_dst (N := 1) rfl ?_); refine box_event ?hg (N := 1) ?hd (cs := #[.slice A0_0 l0_0.length c0_0]) (t := 44) ?hr ?_; (case hd => rfl); (case hg => rfl); (case hr => first | (go_simp; done) | (go_simp; rfl)); intro gb737 hg w11 hbox hb; have n0_ := Aside0.mk (below_step (bl_ HB.out) hb); have n1_ := Aside0.mk (hbox); have n2_ := Aside0.mk ((by rw [hg]; exact (below_size (bl_ HB.out)) : w.heap.size ≤ gb737)); have n3_ := Aside0.mk ((by rw [hg]; exact (below_size (bl_ HB.out)) : w.heap.size ≤ gb737)); clear HB; have HB := n0_; have BK737 := n1_; have GW737 := n2_; have GE737 := n3_; clear n0_ n1_ n2_ n3_; clear hb hbox hg; have hcz12_0 : w11.cell? ⟨gb737, 0, none⟩ = some (.slice A0_0 l0_0.length c0_0) := (blk_cell BK737.out 0).trans rfl; have hfz12_0 := blk_frozen BK737.out 0) | ((with_reducible refine gate_callee (f := 86) rfl ?_); refine goesL_ (some 5) rfl rfl Try.func86 (by kernel_rfl) rfl #[.agg #[.slice A0_0 l0_0.length c0_0]] rfl (by (try simp only [List.map_toArray, List.map_cons, List.map_nil]); first | done | rfl | (simp only [List.length_drop, List.length_take]; rfl)) ?_; (with_reducible refine (spec_Gaps.calls k _ _ l0_0 t738 _ ?side1 ?side2 A2.out).mono ?_); (case side1 => exact ce_ ((Kd.C_below HR0_0.out HB.out))); (case side2 => exact HC0_0.out); rintro e w13 ⟨v739, rfl, ho0, hb⟩; refine ⟨_, rfl, ?_⟩; have n0_ := Aside0.mk (Kd.R_lower ho0 (below_size (by repeat (first | (with_reducible first | exact HB.out | apply below_alloc | apply pw_below_drewN | apply below_drew1 | refine below_set ?_ GE737.out) | exact HB.out)))); have n1_ := Aside0.mk (blk_below (g := gb737) (o := .cells #[.slice A0_0 l0_0.length c0_0] 44 (0, 0)) (be_ BK737.out) hb); have n2_ := Aside0.mk (below_step (by repeat (first | (with_reducible first | exact HB.out | apply below_alloc | apply pw_below_drewN | apply below_drew1 | refine below_set ?_ GE737.out) | exact HB.out)) hb); clear BK737; clear HB; have HO740 := n0_; have BK737 := n1_; have HB := n2_; clear n0_ n1_ n2_; (try clear hb); (try clear hb2); (try clear hk); (try clear hi); (try clear ho0); obtain ⟨Ao14, co14, eo14⟩ := Kd.R_slice HO740.out; subst eo14; have p741 : 0 ≤ ((ji8) : Int) := of_decide_eq_true (by first | (with_reducible assumption) | assumption); have q741 : (ji8) < (t738.length : Int) := of_decide_eq_true (by first | (with_reducible assumption) | assumption); obtain ⟨ad741, e741, hx741_0⟩ := Kd.at_int (Kd.R_reads' HO740.out).2.2 (ji8) p741 q741; cases e741; replace p741 := eq_true p741; replace q741 := eq_true q741))
        go_ret
        exact ⟨by first | rfl | (simp [errW_none, errW_some] <;> rfl) | (simp only [← hji8]; first | rfl | (simp [errW_none, errW_some] <;> rfl)) | (simp [*, errW_none, errW_some] <;> rfl), by repeat (first | (with_reducible first | exact HB.out | apply below_alloc | apply pw_below_drewN | apply below_drew1 | refine below_set ?_ GE737.out) | exact HB.out)⟩
     · rw [if_neg c10] at H
       exact absurd H (by simp)
   · rw [if_neg c9] at H
     exact absurd H (by simp)
def spec_GlueFrobenius.f (k : Nat) (l0_0 : List Int) (l1_0 : List Int) (a2 : Int) (a3 : Int) : Option (Int) := (spec_GlueOf.f k l0_0 l1_0 a2 a3).bind fun bt744 => (if bt744.2 = true then ((spec_FrobeniusOf.f k l0_0).bind fun t749 => ((spec_FrobeniusOf.f k l1_0).bind fun t750 => (some (wrap64 ((wrap64 ((wrap64 (a2 * t749)) + (wrap64 (a3 * t750)))) + (wrap64 (a2 * a3))))))) else (some (-1)))
def spec_GlueFrobenius.T4 : Bool × List (List Nat × List Nat) := (true, [([], []), ([], []), ([1], [1]), ([0, 2], [0, 2]), ([], []), ([], []), ([5, 2], [5]), ([4, 6], [4, 6]), ([3, 7], [3, 7]), ([], []), ([], []), ([9, 10], [9, 10]), ([8, 11], [8, 11]), ([12, 6, 0, 1, 2, 3, 4, 5, 6, 7, 8, 9, 10, 11, 12], [12])])
def spec_GlueFrobenius.B4 : List Nat := [0, 0, 2, 7, 0, 0, 38, 118, 255, 0, 0, 1536, 4095, 8191]
theorem spec_GlueFrobenius.tab4 : rtab .any (opsOf Try.f35 4) = spec_GlueFrobenius.T4 := by kernel_rfl
theorem spec_GlueFrobenius.bits4 : waitsOk spec_GlueFrobenius.T4.2 spec_GlueFrobenius.B4 = true := by kernel_rfl
set_option maxHeartbeats 8000000 in
set_option maxRecDepth 100000 in
theorem spec_GlueFrobenius.calls (k : Nat) (A0_0 : Option Addr) (c0_0 : Nat) (l0_0 : List Int) (A1_0 : Option Addr) (c1_0 : Nat) (l1_0 : List Int) (a2 : Int) (a3 : Int) (r : Int) (w : World) (hr0_0 : Kd.C (Kd.int .i64) w A0_0 l0_0.length l0_0) (hc0_0 : l0_0.length ≤ c0_0) (hr1_0 : Kd.C (Kd.int .i64) w A1_0 l1_0.length l1_0) (hc1_0 : l1_0.length ≤ c1_0) (h : spec_GlueFrobenius.f k l0_0 l1_0 a2 a3 = some r) :
 Calls Try.prog 35 #[.agg #[.slice A0_0 l0_0.length c0_0], .agg #[.slice A1_0 l1_0.length c1_0], .int .i64 a2, .int .i64 a3] w fun e w' => e = .returned (.int .i64 r) ∧ Below w.heap.size w w' := by
 have hu44 := Try.underlying44
 have HR0_0 := Aside0.mk hr0_0
 have HC0_0 := Aside0.mk hc0_0
 clear hr0_0 hc0_0
 have HR1_0 := Aside0.mk hr1_0
 have HC1_0 := Aside0.mk hc1_0
 clear hr1_0 hc1_0
 have HB := Aside0.mk (Below.refl w.heap.size w)
 have H : ((spec_GlueOf.f k l0_0 l1_0 a2 a3).bind fun bt744 => (if bt744.2 = true then ((spec_FrobeniusOf.f k l0_0).bind fun t749 => ((spec_FrobeniusOf.f k l1_0).bind fun t750 => (some (wrap64 ((wrap64 ((wrap64 (a2 * t749)) + (wrap64 (a3 * t750)))) + (wrap64 (a2 * a3))))))) else (some (-1)))) = some r := h
 clear h
 replace H := Option.bind_eq_some_iff.mp H
 obtain ⟨⟨t744, t747⟩, A50, H⟩ := H
 replace H : (if t747 = true then ((spec_FrobeniusOf.f k l0_0).bind fun t749 => ((spec_FrobeniusOf.f k l1_0).bind fun t750 => (some (wrap64 ((wrap64 ((wrap64 (a2 * t749)) + (wrap64 (a3 * t750)))) + (wrap64 (a2 * a3))))))) else (some (-1))) = some r := H
 have A5 := Aside0.mk A50
 clear A50
 by_cases c6 : t747 = true
 · subst c6
   have H1 : ((spec_FrobeniusOf.f k l0_0).bind fun t749 => ((spec_FrobeniusOf.f k l1_0).bind fun t750 => (some (wrap64 ((wrap64 ((wrap64 (a2 * t749)) + (wrap64 (a3 * t750)))) + (wrap64 (a2 * a3))))))) = some r := by rw [if_pos rfl] at H; exact H
   clear H
   have H := H1
   clear H1
   replace H := Option.bind_eq_some_iff.mp H
   obtain ⟨t749, A70, H⟩ := H
   replace H : ((spec_FrobeniusOf.f k l1_0).bind fun t750 => (some (wrap64 ((wrap64 ((wrap64 (a2 * t749)) + (wrap64 (a3 * t750)))) + (wrap64 (a2 * a3)))))) = some r := H
   have A7 := Aside0.mk A70
   clear A70
   replace H := Option.bind_eq_some_iff.mp H
   obtain ⟨t750, A80, H⟩ := H
   replace H : (some (wrap64 ((wrap64 ((wrap64 (a2 * t749)) + (wrap64 (a3 * t750)))) + (wrap64 (a2 * a3))))) = some r := H
   have A8 := Aside0.mk A80
   clear A80
   as_aux_lemma =>
    obtain rfl := Option.some.inj H
    go_enter Try.func35, Try.ntmps35
    try go_wp2_with (first | ((with_reducible refine gate_dst (N := 4) rfl ?_); refine box_event ?hg (N := 4) ?hd (cs := #[.slice A0_0 l0_0.length c0_0]) (t := 44) ?hr ?_; (case hd => rfl); (case hg => rfl); (case hr => first | (go_simp; done) | (go_simp; rfl)); intro gb742 hg w9 hbox hb; have n0_ := Aside0.mk (below_step (bl_ HB.out) hb); have n1_ := Aside0.mk (hbox); have n2_ := Aside0.mk ((by rw [hg]; exact (below_size (bl_ HB.out)) : w.heap.size ≤ gb742)); have n3_ := Aside0.mk ((by rw [hg]; exact (below_size (bl_ HB.out)) : w.heap.size ≤ gb742)); clear HB; have HB := n0_; have BK742 := n1_; have GW742 := n2_; have GE742 := n3_; clear n0_ n1_ n2_ n3_; clear hb hbox hg) | ((with_reducible refine gate_dst (N := 5) rfl ?_); refine box_event ?hg (N := 5) ?hd (cs := #[.slice A1_0 l1_0.length c1_0]) (t := 44) ?hr ?_; (case hd => rfl); (case hg => rfl); (case hr => first | (go_simp; done) | (go_simp; rfl)); intro gb743 hg w10 hbox hb; have n0_ := Aside0.mk (blk_below (g := gb742) (o := .cells #[.slice A0_0 l0_0.length c0_0] 44 (0, 0)) (be_ BK742.out) hb); have n1_ := Aside0.mk (below_step (by repeat (first | (with_reducible first | exact HB.out | apply below_alloc | apply pw_below_drewN | apply below_drew1 | refine below_set ?_ GE742.out) | exact HB.out)) hb); have n2_ := Aside0.mk (hbox); have n3_ := Aside0.mk ((by rw [hg]; exact (below_size (by repeat (first | (with_reducible first | exact HB.out | apply below_alloc | apply pw_below_drewN | apply below_drew1 | refine below_set ?_ GE742.out) | exact HB.out))) : w.heap.size ≤ gb743)); have n4_ := Aside0.mk ((by rw [hg]; exact (below_size (by repeat (first | (with_reducible first | exact HB.out | apply below_alloc | apply pw_below_drewN | apply below_drew1 | refine below_set ?_ GE742.out) | exact HB.out))) : w.heap.size ≤ gb743)); have n5_ := Aside0.mk ((by rw [hg]; exact Nat.ne_of_lt (blk_lt (g := gb742) (o := .cells #[.slice A0_0 l0_0.length c0_0] 44 (0, 0)) (be_ BK742.out)) : gb742 ≠ gb743)); have n6_ := Aside0.mk ((by rw [hg]; exact Nat.ne_of_gt (blk_lt (g := gb742) (o := .cells #[.slice A0_0 l0_0.length c0_0] 44 (0, 0)) (be_ BK742.out)) : gb743 ≠ gb742)); clear BK742; clear HB; have BK742 := n0_; have HB := n1_; have BK743 := n2_; have GW743 := n3_; have GE743 := n4_; have NB742_743 := n5_; have NB743_742 := n6_; clear n0_ n1_ n2_ n3_ n4_ n5_ n6_; clear hb hbox hg; have hnb11 := NB742_743.out; have hnc11 := NB743_742.out; have hcz12_0 : w10.cell? ⟨gb742, 0, none⟩ = some (.slice A0_0 l0_0.length c0_0) := (blk_cell BK742.out 0).trans rfl; have hfz12_0 := blk_frozen BK742.out 0; have hcz13_0 : w10.cell? ⟨gb743, 0, none⟩ = some (.slice A1_0 l1_0.length c1_0) := (blk_cell BK743.out 0).trans rfl; have hfz13_0 := blk_frozen BK743.out 0) | ((with_reducible refine gate_callee (f := 32) rfl ?_); refine goesL_ (some 16) rfl rfl Try.func32 (by kernel_rfl) rfl #[.agg #[.slice A0_0 l0_0.length c0_0], .agg #[.slice A1_0 l1_0.length c1_0], .int .i64 a2, .int .i64 a3] rfl (by (try simp only [List.map_toArray, List.map_cons, List.map_nil]); first | done | rfl | (simp only [List.length_drop, List.length_take]; rfl)) ?_; (with_reducible refine (spec_GlueOf.calls k _ _ l0_0 _ _ l1_0 a2 a3 t744 true _ ?side1 ?side2 ?side3 ?side4 A5.out).mono ?_); (case side1 => exact ce_ ((Kd.C_below HR0_0.out HB.out))); (case side2 => exact HC0_0.out); (case side3 => exact ce_ ((Kd.C_below HR1_0.out HB.out))); (case side4 => exact HC1_0.out); rintro e w14 ⟨v745, rfl, ho0, hb⟩; refine ⟨_, rfl, ?_⟩; have n0_ := Aside0.mk (Kd.R_lower ho0 (below_size (by repeat (first | (with_reducible first | exact HB.out | apply below_alloc | apply pw_below_drewN | apply below_drew1 | refine below_set ?_ GE742.out | refine below_set ?_ GE743.out) | exact HB.out)))); have n1_ := Aside0.mk (blk_below (g := gb742) (o := .cells #[.slice A0_0 l0_0.length c0_0] 44 (0, 0)) (be_ BK742.out) hb); have n2_ := Aside0.mk (blk_below (g := gb743) (o := .cells #[.slice A1_0 l1_0.length c1_0] 44 (0, 0)) (be_ BK743.out) hb); have n3_ := Aside0.mk (below_step (by repeat (first | (with_reducible first | exact HB.out | apply below_alloc | apply pw_below_drewN | apply below_drew1 | refine below_set ?_ GE742.out | refine below_set ?_ GE743.out) | exact HB.out)) hb); clear BK742; clear BK743; clear HB; have HO746 := n0_; have BK742 := n1_; have BK743 := n2_; have HB := n3_; clear n0_ n1_ n2_ n3_; (try clear hb); (try clear hb2); (try clear hk); (try clear hi); (try clear ho0)) | ((with_reducible refine gate_dst (N := 9) rfl ?_); refine box_event ?hg (N := 9) ?hd (cs := #[.slice none 0 0]) (t := 44) ?hr ?_; (case hd => rfl); (case hg => rfl); (case hr => first | (go_simp; done) | (go_simp; rfl)); intro gb748 hg w15 hbox hb; have n0_ := Aside0.mk (Kd.R_below (re_ HO746.out) hb); have n1_ := Aside0.mk (blk_below (g := gb742) (o := .cells #[.slice A0_0 l0_0.length c0_0] 44 (0, 0)) (be_ BK742.out) hb); have n2_ := Aside0.mk (blk_below (g := gb743) (o := .cells #[.slice A1_0 l1_0.length c1_0] 44 (0, 0)) (be_ BK743.out) hb); have n3_ := Aside0.mk (below_step (by repeat (first | (with_reducible first | exact HB.out | apply below_alloc | apply pw_below_drewN | apply below_drew1 | refine below_set ?_ GE742.out | refine below_set ?_ GE743.out) | exact HB.out)) hb); have n4_ := Aside0.mk (hbox); have n5_ := Aside0.mk ((by rw [hg]; exact (below_size (by repeat (first | (with_reducible first | exact HB.out | apply below_alloc | apply pw_below_drewN | apply below_drew1 | refine below_set ?_ GE742.out | refine below_set ?_ GE743.out) | exact HB.out))) : w.heap.size ≤ gb748)); have n6_ := Aside0.mk ((by rw [hg]; exact (below_size (by repeat (first | (with_reducible first | exact HB.out | apply below_alloc | apply pw_below_drewN | apply below_drew1 | refine below_set ?_ GE742.out | refine below_set ?_ GE743.out) | exact HB.out))) : w.heap.size ≤ gb748)); have n7_ := Aside0.mk ((by rw [hg]; exact Nat.ne_of_lt (blk_lt (g := gb742) (o := .cells #[.slice A0_0 l0_0.length c0_0] 44 (0, 0)) (be_ BK742.out)) : gb742 ≠ gb748)); have n8_ := Aside0.mk ((by rw [hg]; exact Nat.ne_of_gt (blk_lt (g := gb742) (o := .cells #[.slice A0_0 l0_0.length c0_0] 44 (0, 0)) (be_ BK742.out)) : gb748 ≠ gb742)); have n9_ := Aside0.mk ((by rw [hg]; exact Nat.ne_of_lt (blk_lt (g := gb743) (o := .cells #[.slice A1_0 l1_0.length c1_0] 44 (0, 0)) (be_ BK743.out)) : gb743 ≠ gb748)); have n10_ := Aside0.mk ((by rw [hg]; exact Nat.ne_of_gt (blk_lt (g := gb743) (o := .cells #[.slice A1_0 l1_0.length c1_0] 44 (0, 0)) (be_ BK743.out)) : gb748 ≠ gb743)); clear HO746; clear BK742; clear BK743; clear HB; have HO746 := n0_; have BK742 := n1_; have BK743 := n2_; have HB := n3_; have BK748 := n4_; have GW748 := n5_; have GE748 := n6_; have NB742_748 := n7_; have NB748_742 := n8_; have NB743_748 := n9_; have NB748_743 := n10_; clear n0_ n1_ n2_ n3_ n4_ n5_ n6_ n7_ n8_ n9_ n10_; clear hb hbox hg; obtain ⟨Ao16, co16, eo16⟩ := Kd.R_slice HO746.out; subst eo16; have hnb17 := NB748_742.out; have hnc17 := NB742_748.out; have hnb18 := NB748_743.out; have hnc18 := NB743_748.out; have hcz19_0 : w15.cell? ⟨gb748, 0, none⟩ = some (.slice none 0 0) := (blk_cell BK748.out 0).trans rfl; have hfz19_0 := blk_frozen BK748.out 0))
    have n0_ : Aside0 (Kd.R (Kd.int .i64) 3 (w15.setCell ⟨gb748, 0, none⟩ (.slice Ao16 t744.length co16)) w.heap.size (fun _ => True) (.slice Ao16 t744.length co16) t744) := ⟨by (with_reducible repeat (first | apply Kd.R_alloc | apply Kd.R_drewN | apply Kd.R_drew)); exact Kd.R_mono (Kd.R_far (p := ⟨gb748, 0, none⟩) (Kd.R_types HO746.out BK748.out (by decide)) (fun _ hk => hk.2) (.slice Ao16 t744.length co16)) (fun _ hk => trivial)⟩
    have n1_ : Aside0 ((w15.setCell ⟨gb748, 0, none⟩ (.slice Ao16 t744.length co16)).heap[gb742]? = some (.cells #[.slice A0_0 l0_0.length c0_0] 44 (0, 0))) := ⟨by (with_reducible repeat (first | refine blk_drewN ?_ _ | refine blk_drew ?_ | refine blk_alloc ?_ _)); refine blk_far ?_ NB742_748.out _; (with_reducible repeat (first | refine blk_drewN ?_ _ | refine blk_drew ?_ | refine blk_alloc ?_ _)); exact BK742.out⟩
    have n2_ : Aside0 ((w15.setCell ⟨gb748, 0, none⟩ (.slice Ao16 t744.length co16)).heap[gb743]? = some (.cells #[.slice A1_0 l1_0.length c1_0] 44 (0, 0))) := ⟨by (with_reducible repeat (first | refine blk_drewN ?_ _ | refine blk_drew ?_ | refine blk_alloc ?_ _)); refine blk_far ?_ NB743_748.out _; (with_reducible repeat (first | refine blk_drewN ?_ _ | refine blk_drew ?_ | refine blk_alloc ?_ _)); exact BK743.out⟩
    have n3_ : Aside0 ((w15.setCell ⟨gb748, 0, none⟩ (.slice Ao16 t744.length co16)).heap[gb748]? = some (.cells #[.slice Ao16 t744.length co16] 44 (0, 0))) := ⟨by (with_reducible repeat (first | refine blk_drewN ?_ _ | refine blk_drew ?_ | refine blk_alloc ?_ _)); refine blk_put (cs := #[.slice none 0 0]) ?_ 0 _ rfl; (with_reducible repeat (first | refine blk_drewN ?_ _ | refine blk_drew ?_ | refine blk_alloc ?_ _)); exact BK748.out⟩
    have n4_ : Aside0 (Below w.heap.size w (w15.setCell ⟨gb748, 0, none⟩ (.slice Ao16 t744.length co16))) := ⟨by repeat (first | (with_reducible first | exact HB.out | apply below_alloc | apply pw_below_drewN | apply below_drew1 | refine below_set ?_ GE742.out | refine below_set ?_ GE743.out | refine below_set ?_ GE748.out) | exact HB.out)⟩
    (try clear HO746)
    (try clear BK742)
    (try clear BK743)
    (try clear BK748)
    (try clear HB)
    generalize (w15.setCell ⟨gb748, 0, none⟩ (.slice Ao16 t744.length co16)) = w20 at n0_ n1_ n2_ n3_ n4_ ⊢
    have HO746 := n0_
    have BK742 := n1_
    have BK743 := n2_
    have BK748 := n3_
    have HB := n4_
    clear n0_ n1_ n2_ n3_ n4_
    have n0_ := Aside0.mk (Kd.R_drew HO746.out)
    have n1_ := Aside0.mk (blk_drew BK742.out)
    have n2_ := Aside0.mk (blk_drew BK743.out)
    have n3_ := Aside0.mk (blk_drew BK748.out)
    have n4_ := Aside0.mk (below_drew1 HB.out)
    clear HO746
    clear BK742
    clear BK743
    clear BK748
    clear HB
    have HO746 := n0_
    have BK742 := n1_
    have BK743 := n2_
    have BK748 := n3_
    have HB := n4_
    clear n0_ n1_ n2_ n3_ n4_
    refine start_ (n := 14) (S := fun w' => w'.cell? ⟨gb742, 0, none⟩ = some (.slice A0_0 l0_0.length c0_0) ∧ w'.cell? ⟨gb743, 0, none⟩ = some (.slice A1_0 l1_0.length c1_0)) (ds := []) (B_ 0 14) (by kernel_rfl) rfl rfl ⟨(blk_cell BK742.out 0).trans rfl, (blk_cell BK743.out 0).trans rfl⟩ (fun hHeld => ?_); refine with_tabW spec_GlueFrobenius.tab4 spec_GlueFrobenius.bits4 (fun HT_ HW_ => ?_)
    generalize w20.drew = w21 at HO746 BK742 BK743 BK748 HB hHeld ⊢
    refine pu_ HT_ 0 21 (B_ 1 14) ?_
    refine pu_ HT_ 4 25 (B_ 17 14) ?_
    refine pu_ HT_ 9 30 (B_ 529 14) ?_
    refine pu_ HT_ 10 31 (B_ 1553 14) ?_
    refine pu_ HT_ 11 32 (B_ 3601 14) ?_
    refine tk2_ HT_ HW_ hHeld 1 22 (B_ 3603 14) ?_
    refine tk2_ HT_ HW_ hHeld 5 26 (B_ 3635 14) ?_
    refine one_ (i := 2) (N := some 23) (B_ 3639 14) rfl rfl (one_of HT_.out (by kernel_rfl)) (by decide) (fun K hK => ?_)
    refine goes_ Try.func68 (by kernel_rfl) rfl #[.agg #[.slice A0_0 l0_0.length c0_0]] (by rfl) rfl rfl (by (try simp only [List.map_toArray, List.map_cons, List.map_nil]); first | done | rfl | (simp only [List.length_drop, List.length_take]; rfl)) ?_
    with_reducible refine (spec_FrobeniusOf.calls k _ _ l0_0 t749 _ ?side1 ?side2 A7.out).mono ?_
    (case side1 => exact ce_ ((Kd.C_below HR0_0.out HB.out)))
    (case side2 => exact HC0_0.out)
    rintro e w22 ⟨rfl, hb⟩
    refine ⟨_, rfl, ?_⟩
    have n0_ := Aside0.mk (Kd.R_below (re_ HO746.out) hb)
    have n1_ := Aside0.mk (blk_below (g := gb742) (o := .cells #[.slice A0_0 l0_0.length c0_0] 44 (0, 0)) (be_ BK742.out) hb)
    have n2_ := Aside0.mk (blk_below (g := gb743) (o := .cells #[.slice A1_0 l1_0.length c1_0] 44 (0, 0)) (be_ BK743.out) hb)
    have n3_ := Aside0.mk (blk_below (g := gb748) (o := .cells #[.slice Ao16 t744.length co16] 44 (0, 0)) (be_ BK748.out) hb)
    have n4_ := Aside0.mk (below_step (by repeat (first | (with_reducible first | exact HB.out | apply below_alloc | apply pw_below_drewN | apply below_drew1 | refine below_set ?_ GE742.out | refine below_set ?_ GE743.out | refine below_set ?_ GE748.out) | exact HB.out)) hb)
    clear HO746
    clear BK742
    clear BK743
    clear BK748
    clear HB
    have HO746 := n0_
    have BK742 := n1_
    have BK743 := n2_
    have BK748 := n3_
    have HB := n4_
    clear n0_ n1_ n2_ n3_ n4_
    (try clear hb)
    (try clear hb2)
    (try clear hk)
    (try clear hi)
    refine hK.out _ _ ⟨(blk_cell BK742.out 0).trans rfl, (blk_cell BK743.out 0).trans rfl⟩ (fun hHeld => ?_)
    clear hK K
    refine norm_ (a' := ?_) ?_ ?_
    rotate_left
    · show Act.put _ (some 23) _ = _
      simp only [Act.put, z1_, z2_, z3_, i64_w, i32_w]
      rfl
    refine pu_ HT_ 3 24 (B_ 3647 14) ?_
    refine one_ (i := 6) (N := some 27) (B_ 3711 14) rfl rfl (one_of HT_.out (by kernel_rfl)) (by decide) (fun K hK => ?_)
    refine goes_ Try.func68 (by kernel_rfl) rfl #[.agg #[.slice A1_0 l1_0.length c1_0]] (by rfl) rfl rfl (by (try simp only [List.map_toArray, List.map_cons, List.map_nil]); first | done | rfl | (simp only [List.length_drop, List.length_take]; rfl)) ?_
    with_reducible refine (spec_FrobeniusOf.calls k _ _ l1_0 t750 _ ?side1 ?side2 A8.out).mono ?_
    (case side1 => exact ce_ ((Kd.C_below HR1_0.out HB.out)))
    (case side2 => exact HC1_0.out)
    rintro e w23 ⟨rfl, hb⟩
    refine ⟨_, rfl, ?_⟩
    have n0_ := Aside0.mk (Kd.R_below (re_ HO746.out) hb)
    have n1_ := Aside0.mk (blk_below (g := gb742) (o := .cells #[.slice A0_0 l0_0.length c0_0] 44 (0, 0)) (be_ BK742.out) hb)
    have n2_ := Aside0.mk (blk_below (g := gb743) (o := .cells #[.slice A1_0 l1_0.length c1_0] 44 (0, 0)) (be_ BK743.out) hb)
    have n3_ := Aside0.mk (blk_below (g := gb748) (o := .cells #[.slice Ao16 t744.length co16] 44 (0, 0)) (be_ BK748.out) hb)
    have n4_ := Aside0.mk (below_step (by repeat (first | (with_reducible first | exact HB.out | apply below_alloc | apply pw_below_drewN | apply below_drew1 | refine below_set ?_ GE742.out | refine below_set ?_ GE743.out | refine below_set ?_ GE748.out) | exact HB.out)) hb)
    clear HO746
    clear BK742
    clear BK743
    clear BK748
    clear HB
    have HO746 := n0_
    have BK742 := n1_
    have BK743 := n2_
    have BK748 := n3_
    have HB := n4_
    clear n0_ n1_ n2_ n3_ n4_
    (try clear hb)
    (try clear hb2)
    (try clear hk)
    (try clear hi)
    refine hK.out _ _ ⟨(blk_cell BK742.out 0).trans rfl, (blk_cell BK743.out 0).trans rfl⟩ (fun hHeld => ?_)
    clear hK K
    refine norm_ (a' := ?_) ?_ ?_
    rotate_left
    · show Act.put _ (some 27) _ = _
      simp only [Act.put, z1_, z2_, z3_, i64_w, i32_w]
      rfl
    refine pu_ HT_ 7 28 (B_ 3839 14) ?_
    refine pu_ HT_ 8 29 (B_ 4095 14) ?_
    refine pu_ HT_ 12 33 (B_ 8191 14) ?_
    refine pu_ HT_ 13 8 (B_ 16383 14) ?_
    refine done_ (done_of HT_.out (by kernel_rfl)) ?_
    try go_wp2
    go_ret
    exact ⟨by first | rfl | (simp [errW_none, errW_some] <;> rfl) | (simp [*, errW_none, errW_some] <;> rfl), by repeat (first | (with_reducible first | exact HB.out | apply below_alloc | apply pw_below_drewN | apply below_drew1 | refine below_set ?_ GE742.out | refine below_set ?_ GE743.out | refine below_set ?_ GE748.out) | exact HB.out)⟩
 · replace c6 := Bool.eq_false_iff.mpr c6
   subst c6
   have H1 : (some (-1)) = some r := by rw [if_neg (show ¬ (false = true) by decide)] at H; exact H
   clear H
   have H := H1
   clear H1
   as_aux_lemma =>
    obtain rfl := Option.some.inj H
    go_enter Try.func35, Try.ntmps35
    go_wp2_with (first | ((with_reducible refine gate_dst (N := 4) rfl ?_); refine box_event ?hg (N := 4) ?hd (cs := #[.slice A0_0 l0_0.length c0_0]) (t := 44) ?hr ?_; (case hd => rfl); (case hg => rfl); (case hr => first | (go_simp; done) | (go_simp; rfl)); intro gb742 hg w24 hbox hb; have n0_ := Aside0.mk (below_step (bl_ HB.out) hb); have n1_ := Aside0.mk (hbox); have n2_ := Aside0.mk ((by rw [hg]; exact (below_size (bl_ HB.out)) : w.heap.size ≤ gb742)); have n3_ := Aside0.mk ((by rw [hg]; exact (below_size (bl_ HB.out)) : w.heap.size ≤ gb742)); clear HB; have HB := n0_; have BK742 := n1_; have GW742 := n2_; have GE742 := n3_; clear n0_ n1_ n2_ n3_; clear hb hbox hg) | ((with_reducible refine gate_dst (N := 5) rfl ?_); refine box_event ?hg (N := 5) ?hd (cs := #[.slice A1_0 l1_0.length c1_0]) (t := 44) ?hr ?_; (case hd => rfl); (case hg => rfl); (case hr => first | (go_simp; done) | (go_simp; rfl)); intro gb743 hg w25 hbox hb; have n0_ := Aside0.mk (blk_below (g := gb742) (o := .cells #[.slice A0_0 l0_0.length c0_0] 44 (0, 0)) (be_ BK742.out) hb); have n1_ := Aside0.mk (below_step (by repeat (first | (with_reducible first | exact HB.out | apply below_alloc | apply pw_below_drewN | apply below_drew1 | refine below_set ?_ GE742.out) | exact HB.out)) hb); have n2_ := Aside0.mk (hbox); have n3_ := Aside0.mk ((by rw [hg]; exact (below_size (by repeat (first | (with_reducible first | exact HB.out | apply below_alloc | apply pw_below_drewN | apply below_drew1 | refine below_set ?_ GE742.out) | exact HB.out))) : w.heap.size ≤ gb743)); have n4_ := Aside0.mk ((by rw [hg]; exact (below_size (by repeat (first | (with_reducible first | exact HB.out | apply below_alloc | apply pw_below_drewN | apply below_drew1 | refine below_set ?_ GE742.out) | exact HB.out))) : w.heap.size ≤ gb743)); have n5_ := Aside0.mk ((by rw [hg]; exact Nat.ne_of_lt (blk_lt (g := gb742) (o := .cells #[.slice A0_0 l0_0.length c0_0] 44 (0, 0)) (be_ BK742.out)) : gb742 ≠ gb743)); have n6_ := Aside0.mk ((by rw [hg]; exact Nat.ne_of_gt (blk_lt (g := gb742) (o := .cells #[.slice A0_0 l0_0.length c0_0] 44 (0, 0)) (be_ BK742.out)) : gb743 ≠ gb742)); clear BK742; clear HB; have BK742 := n0_; have HB := n1_; have BK743 := n2_; have GW743 := n3_; have GE743 := n4_; have NB742_743 := n5_; have NB743_742 := n6_; clear n0_ n1_ n2_ n3_ n4_ n5_ n6_; clear hb hbox hg; have hnb26 := NB742_743.out; have hnc26 := NB743_742.out; have hcz27_0 : w25.cell? ⟨gb742, 0, none⟩ = some (.slice A0_0 l0_0.length c0_0) := (blk_cell BK742.out 0).trans rfl; have hfz27_0 := blk_frozen BK742.out 0; have hcz28_0 : w25.cell? ⟨gb743, 0, none⟩ = some (.slice A1_0 l1_0.length c1_0) := (blk_cell BK743.out 0).trans rfl; have hfz28_0 := blk_frozen BK743.out 0) | ((with_reducible refine gate_callee (f := 32) rfl ?_); refine goesL_ (some 16) rfl rfl Try.func32 (by kernel_rfl) rfl #[.agg #[.slice A0_0 l0_0.length c0_0], .agg #[.slice A1_0 l1_0.length c1_0], .int .i64 a2, .int .i64 a3] rfl (by (try simp only [List.map_toArray, List.map_cons, List.map_nil]); first | done | rfl | (simp only [List.length_drop, List.length_take]; rfl)) ?_; (with_reducible refine (spec_GlueOf.calls k _ _ l0_0 _ _ l1_0 a2 a3 t744 false _ ?side1 ?side2 ?side3 ?side4 A5.out).mono ?_); (case side1 => exact ce_ ((Kd.C_below HR0_0.out HB.out))); (case side2 => exact HC0_0.out); (case side3 => exact ce_ ((Kd.C_below HR1_0.out HB.out))); (case side4 => exact HC1_0.out); rintro e w29 ⟨v745, rfl, ho0, hb⟩; refine ⟨_, rfl, ?_⟩; have n0_ := Aside0.mk (Kd.R_lower ho0 (below_size (by repeat (first | (with_reducible first | exact HB.out | apply below_alloc | apply pw_below_drewN | apply below_drew1 | refine below_set ?_ GE742.out | refine below_set ?_ GE743.out) | exact HB.out)))); have n1_ := Aside0.mk (blk_below (g := gb742) (o := .cells #[.slice A0_0 l0_0.length c0_0] 44 (0, 0)) (be_ BK742.out) hb); have n2_ := Aside0.mk (blk_below (g := gb743) (o := .cells #[.slice A1_0 l1_0.length c1_0] 44 (0, 0)) (be_ BK743.out) hb); have n3_ := Aside0.mk (below_step (by repeat (first | (with_reducible first | exact HB.out | apply below_alloc | apply pw_below_drewN | apply below_drew1 | refine below_set ?_ GE742.out | refine below_set ?_ GE743.out) | exact HB.out)) hb); clear BK742; clear BK743; clear HB; have HO746 := n0_; have BK742 := n1_; have BK743 := n2_; have HB := n3_; clear n0_ n1_ n2_ n3_; (try clear hb); (try clear hb2); (try clear hk); (try clear hi); (try clear ho0)) | ((with_reducible refine gate_dst (N := 9) rfl ?_); refine box_event ?hg (N := 9) ?hd (cs := #[.slice none 0 0]) (t := 44) ?hr ?_; (case hd => rfl); (case hg => rfl); (case hr => first | (go_simp; done) | (go_simp; rfl)); intro gb748 hg w30 hbox hb; have n0_ := Aside0.mk (Kd.R_below (re_ HO746.out) hb); have n1_ := Aside0.mk (blk_below (g := gb742) (o := .cells #[.slice A0_0 l0_0.length c0_0] 44 (0, 0)) (be_ BK742.out) hb); have n2_ := Aside0.mk (blk_below (g := gb743) (o := .cells #[.slice A1_0 l1_0.length c1_0] 44 (0, 0)) (be_ BK743.out) hb); have n3_ := Aside0.mk (below_step (by repeat (first | (with_reducible first | exact HB.out | apply below_alloc | apply pw_below_drewN | apply below_drew1 | refine below_set ?_ GE742.out | refine below_set ?_ GE743.out) | exact HB.out)) hb); have n4_ := Aside0.mk (hbox); have n5_ := Aside0.mk ((by rw [hg]; exact (below_size (by repeat (first | (with_reducible first | exact HB.out | apply below_alloc | apply pw_below_drewN | apply below_drew1 | refine below_set ?_ GE742.out | refine below_set ?_ GE743.out) | exact HB.out))) : w.heap.size ≤ gb748)); have n6_ := Aside0.mk ((by rw [hg]; exact (below_size (by repeat (first | (with_reducible first | exact HB.out | apply below_alloc | apply pw_below_drewN | apply below_drew1 | refine below_set ?_ GE742.out | refine below_set ?_ GE743.out) | exact HB.out))) : w.heap.size ≤ gb748)); have n7_ := Aside0.mk ((by rw [hg]; exact Nat.ne_of_lt (blk_lt (g := gb742) (o := .cells #[.slice A0_0 l0_0.length c0_0] 44 (0, 0)) (be_ BK742.out)) : gb742 ≠ gb748)); have n8_ := Aside0.mk ((by rw [hg]; exact Nat.ne_of_gt (blk_lt (g := gb742) (o := .cells #[.slice A0_0 l0_0.length c0_0] 44 (0, 0)) (be_ BK742.out)) : gb748 ≠ gb742)); have n9_ := Aside0.mk ((by rw [hg]; exact Nat.ne_of_lt (blk_lt (g := gb743) (o := .cells #[.slice A1_0 l1_0.length c1_0] 44 (0, 0)) (be_ BK743.out)) : gb743 ≠ gb748)); have n10_ := Aside0.mk ((by rw [hg]; exact Nat.ne_of_gt (blk_lt (g := gb743) (o := .cells #[.slice A1_0 l1_0.length c1_0] 44 (0, 0)) (be_ BK743.out)) : gb748 ≠ gb743)); clear HO746; clear BK742; clear BK743; clear HB; have HO746 := n0_; have BK742 := n1_; have BK743 := n2_; have HB := n3_; have BK748 := n4_; have GW748 := n5_; have GE748 := n6_; have NB742_748 := n7_; have NB748_742 := n8_; have NB743_748 := n9_; have NB748_743 := n10_; clear n0_ n1_ n2_ n3_ n4_ n5_ n6_ n7_ n8_ n9_ n10_; clear hb hbox hg; obtain ⟨Ao31, co31, eo31⟩ := Kd.R_slice HO746.out; subst eo31; have hnb32 := NB748_742.out; have hnc32 := NB742_748.out; have hnb33 := NB748_743.out; have hnc33 := NB743_748.out; have hcz34_0 : w30.cell? ⟨gb748, 0, none⟩ = some (.slice none 0 0) := (blk_cell BK748.out 0).trans rfl; have hfz34_0 := blk_frozen BK748.out 0))
    go_ret
    exact ⟨by first | rfl | (simp [errW_none, errW_some] <;> rfl) | (simp [*, errW_none, errW_some] <;> rfl), by repeat (first | (with_reducible first | exact HB.out | apply below_alloc | apply pw_below_drewN | apply below_drew1 | refine below_set ?_ GE742.out | refine below_set ?_ GE743.out | refine below_set ?_ GE748.out) | exact HB.out)⟩
end Go.Proofs.Ythkhpejggdnkfaa.PA
end
section
namespace Go.Proofs.Ythkhpejggdnkfaa.PA
open Go.RowKit Go.Proofs.YthkhpejggdnkfaaW.PrintWords Go.Proofs.YthkhpejggdnkfaaW.PrintLast Go.Proofs.YthkhpejggdnkfaaW.PrintMore
set_option linter.unusedVariables false
set_option linter.unusedSimpArgs false
def impl_Contains.f (k : Nat) (l0_0 : List Int) (a1 : Int) : Option (Bool) := if a1 < 0 then (some false) else ((impl_IsSemigroup.f k l0_0).bind fun t624 => (if t624 = true then (if a1 ≥ 200 then (some true) else (if 0 < (l0_0.length : Int) then ((impl_leasts.f k l0_0 (rd l0_0 0)).bind fun t626 => (if (rd l0_0 0) = 0 then (none) else (if 0 ≤ (Int.tmod a1 (rd l0_0 0)) then (if (Int.tmod a1 (rd l0_0 0)) < (t626.length : Int) then (some (decide ((rd t626 (Int.tmod a1 (rd l0_0 0))) ≤ a1))) else (none)) else (none)))) else (none))) else (some false)))
def impl_Contains.T3 : Bool × List (List Nat × List Nat) := (true, [([], []), ([0], [0]), ([1], [1]), ([2], [2]), ([3, 2], [2, 3]), ([2], [2]), ([5, 2], [2, 5]), ([6, 2], [2, 6]), ([7, 2], [2, 7]), ([4, 8, 2, 2], [2, 4, 8]), ([2], [2]), ([2], [2]), ([11, 2], [2, 11]), ([12, 2], [2, 12]), ([13, 2], [2, 13]), ([10, 14, 2], [2, 10, 14]), ([9, 15, 2], [2, 9, 15]), ([16, 2], [2, 16]), ([2], [2]), ([17, 18, 2], [2, 17, 18]), ([2, 19], [2, 19]), ([20, 9, 0, 1, 2, 3, 4, 5, 6, 7, 8, 9, 10, 11, 12, 13, 14, 15, 16, 17, 18, 19, 20], [20])])
def impl_Contains.B3 : List Nat := [0, 1, 3, 7, 15, 7, 39, 103, 231, 511, 7, 7, 2055, 6151, 14343, 31751, 65535, 131071, 7, 524287, 1048575, 2097151]
theorem impl_Contains.tab3 : rtab .any (opsOf Try.f64 3) = impl_Contains.T3 := by kernel_rfl
theorem impl_Contains.bits3 : waitsOk impl_Contains.T3.2 impl_Contains.B3 = true := by kernel_rfl
set_option maxHeartbeats 8000000 in
set_option maxRecDepth 100000 in
theorem impl_Contains.calls (k : Nat) (A0_0 : Option Addr) (c0_0 : Nat) (l0_0 : List Int) (a1 : Int) (r : Bool) (w : World) (hr0_0 : Kd.C (Kd.int .i64) w A0_0 l0_0.length l0_0) (hc0_0 : l0_0.length ≤ c0_0) (h : impl_Contains.f k l0_0 a1 = some r) :
 Calls Try.prog 64 #[.agg #[.slice A0_0 l0_0.length c0_0], .int .i64 a1] w fun e w' => e = .returned (.bool r) ∧ Below w.heap.size w w' := by
 have hu44 := Try.underlying44
 have HR0_0 := Aside0.mk hr0_0
 have HC0_0 := Aside0.mk hc0_0
 clear hr0_0 hc0_0
 have HB := Aside0.mk (Below.refl w.heap.size w)
 have H : (if a1 < 0 then (some false) else ((impl_IsSemigroup.f k l0_0).bind fun t624 => (if t624 = true then (if a1 ≥ 200 then (some true) else (if 0 < (l0_0.length : Int) then ((impl_leasts.f k l0_0 (rd l0_0 0)).bind fun t626 => (if (rd l0_0 0) = 0 then (none) else (if 0 ≤ (Int.tmod a1 (rd l0_0 0)) then (if (Int.tmod a1 (rd l0_0 0)) < (t626.length : Int) then (some (decide ((rd t626 (Int.tmod a1 (rd l0_0 0))) ≤ a1))) else (none)) else (none)))) else (none))) else (some false)))) = some r := h
 clear h
 by_cases c3 : a1 < 0
 · rw [if_pos c3] at H
   have c3b0 : decide (a1 < 0) = true := decide_eq_true c3
   clear c3
   as_aux_lemma =>
    obtain rfl := Option.some.inj H
    go_enter Try.func64, Try.ntmps64
    go_wp2_with (first | ((with_reducible refine gate_dst (N := 2) rfl ?_); refine box_event ?hg (N := 2) ?hd (cs := #[.slice A0_0 l0_0.length c0_0]) (t := 44) ?hr ?_; (case hd => rfl); (case hg => rfl); (case hr => first | (go_simp; done) | (go_simp; rfl)); intro gb623 hg w4 hbox hb; have n0_ := Aside0.mk (below_step (bl_ HB.out) hb); have n1_ := Aside0.mk (hbox); have n2_ := Aside0.mk ((by rw [hg]; exact (below_size (bl_ HB.out)) : w.heap.size ≤ gb623)); have n3_ := Aside0.mk ((by rw [hg]; exact (below_size (bl_ HB.out)) : w.heap.size ≤ gb623)); clear HB; have HB := n0_; have BK623 := n1_; have GW623 := n2_; have GE623 := n3_; clear n0_ n1_ n2_ n3_; clear hb hbox hg))
    go_ret
    exact ⟨by first | rfl | (simp [errW_none, errW_some] <;> rfl) | (simp [*, errW_none, errW_some] <;> rfl), by repeat (first | (with_reducible first | exact HB.out | apply below_alloc | apply pw_below_drewN | apply below_drew1 | refine below_set ?_ GE623.out) | exact HB.out)⟩
 · rw [if_neg c3] at H
   have c3b0 : decide (a1 < 0) = false := decide_eq_false c3
   clear c3
   replace H := Option.bind_eq_some_iff.mp H
   obtain ⟨t624, A50, H⟩ := H
   replace H : (if t624 = true then (if a1 ≥ 200 then (some true) else (if 0 < (l0_0.length : Int) then ((impl_leasts.f k l0_0 (rd l0_0 0)).bind fun t626 => (if (rd l0_0 0) = 0 then (none) else (if 0 ≤ (Int.tmod a1 (rd l0_0 0)) then (if (Int.tmod a1 (rd l0_0 0)) < (t626.length : Int) then (some (decide ((rd t626 (Int.tmod a1 (rd l0_0 0))) ≤ a1))) else (none)) else (none)))) else (none))) else (some false)) = some r := H
   have A5 := Aside0.mk A50
   clear A50
   by_cases c6 : t624 = true
   · subst c6
     have H1 : (if a1 ≥ 200 then (some true) else (if 0 < (l0_0.length : Int) then ((impl_leasts.f k l0_0 (rd l0_0 0)).bind fun t626 => (if (rd l0_0 0) = 0 then (none) else (if 0 ≤ (Int.tmod a1 (rd l0_0 0)) then (if (Int.tmod a1 (rd l0_0 0)) < (t626.length : Int) then (some (decide ((rd t626 (Int.tmod a1 (rd l0_0 0))) ≤ a1))) else (none)) else (none)))) else (none))) = some r := by rw [if_pos rfl] at H; exact H
     clear H
     have H := H1
     clear H1
     by_cases c7 : a1 ≥ 200
     · rw [if_pos c7] at H
       have c7b0 : decide (200 ≤ a1) = true := decide_eq_true c7
       clear c7
       as_aux_lemma =>
        obtain rfl := Option.some.inj H
        go_enter Try.func64, Try.ntmps64
        try go_wp2_with (first | ((with_reducible refine gate_dst (N := 2) rfl ?_); refine box_event ?hg (N := 2) ?hd (cs := #[.slice A0_0 l0_0.length c0_0]) (t := 44) ?hr ?_; (case hd => rfl); (case hg => rfl); (case hr => first | (go_simp; done) | (go_simp; rfl)); intro gb623 hg w8 hbox hb; have n0_ := Aside0.mk (below_step (bl_ HB.out) hb); have n1_ := Aside0.mk (hbox); have n2_ := Aside0.mk ((by rw [hg]; exact (below_size (bl_ HB.out)) : w.heap.size ≤ gb623)); have n3_ := Aside0.mk ((by rw [hg]; exact (below_size (bl_ HB.out)) : w.heap.size ≤ gb623)); clear HB; have HB := n0_; have BK623 := n1_; have GW623 := n2_; have GE623 := n3_; clear n0_ n1_ n2_ n3_; clear hb hbox hg; have hcz9_0 : w8.cell? ⟨gb623, 0, none⟩ = some (.slice A0_0 l0_0.length c0_0) := (blk_cell BK623.out 0).trans rfl; have hfz9_0 := blk_frozen BK623.out 0) | (go_at_call 57; (with_reducible refine (impl_IsSemigroup.calls k _ _ l0_0 true _ ?side1 ?side2 A5.out).mono ?_); (case side1 => exact ce_ ((Kd.C_below HR0_0.out HB.out))); (case side2 => exact HC0_0.out); rintro e w10 ⟨rfl, hb⟩; have n0_ := Aside0.mk (blk_below (g := gb623) (o := .cells #[.slice A0_0 l0_0.length c0_0] 44 (0, 0)) (be_ BK623.out) hb); have n1_ := Aside0.mk (below_step (by repeat (first | (with_reducible first | exact HB.out | apply below_alloc | apply pw_below_drewN | apply below_drew1 | refine below_set ?_ GE623.out) | exact HB.out)) hb); clear BK623; clear HB; have BK623 := n0_; have HB := n1_; clear n0_ n1_; (try clear hb); (try clear hb2); (try clear hk); (try clear hi)))
        have n0_ := Aside0.mk (blk_drew BK623.out)
        have n1_ := Aside0.mk (below_drew1 HB.out)
        clear BK623
        clear HB
        have BK623 := n0_
        have HB := n1_
        clear n0_ n1_
        refine start_ (n := 22) (S := fun w' => True) (ds := []) (B_ 0 22) (by kernel_rfl) rfl rfl trivial (fun hHeld => ?_); refine with_tabW impl_Contains.tab3 impl_Contains.bits3 (fun HT_ HW_ => ?_)
        generalize w10.drew = w11 at BK623 HB hHeld ⊢
        refine pu_ HT_ 0 12 (B_ 1 22) ?_
        refine pu_ HT_ 1 13 (B_ 3 22) ?_
        refine pu_ HT_ 2 14 (B_ 7 22) ?_
        refine pn_ HT_ 3 15 (B_ 15 22) ?_
        refine pn_ HT_ 4 16 (B_ 31 22) ?_
        refine pn_ HT_ 5 17 (B_ 63 22) ?_
        refine pn_ HT_ 6 18 (B_ 127 22) ?_
        refine pn_ HT_ 7 19 (B_ 255 22) ?_
        refine pn_ HT_ 8 20 (B_ 511 22) ?_
        refine pn_ HT_ 9 21 (B_ 1023 22) ?_
        refine pn_ HT_ 10 22 (B_ 2047 22) ?_
        refine pn_ HT_ 11 23 (B_ 4095 22) ?_
        refine pn_ HT_ 12 24 (B_ 8191 22) ?_
        refine pn_ HT_ 13 25 (B_ 16383 22) ?_
        refine pn_ HT_ 14 26 (B_ 32767 22) ?_
        refine pn_ HT_ 15 27 (B_ 65535 22) ?_
        refine pn_ HT_ 16 28 (B_ 131071 22) ?_
        refine pn_ HT_ 17 29 (B_ 262143 22) ?_
        refine pn_ HT_ 18 30 (B_ 524287 22) ?_
        refine pn_ HT_ 19 31 (B_ 1048575 22) ?_
        refine pu_ HT_ 20 32 (B_ 2097151 22) ?_
        refine pu_ HT_ 21 4 (B_ 4194303 22) ?_
        refine done_ (done_of HT_.out (by kernel_rfl)) ?_
        try go_wp2
        go_ret
        exact ⟨by first | rfl | (simp [errW_none, errW_some] <;> rfl) | (simp [*, errW_none, errW_some] <;> rfl), by repeat (first | (with_reducible first | exact HB.out | apply below_alloc | apply pw_below_drewN | apply below_drew1 | refine below_set ?_ GE623.out) | exact HB.out)⟩
     · rw [if_neg c7] at H
       have c7b0 : decide (200 ≤ a1) = false := decide_eq_false c7
       clear c7
       by_cases c12 : 0 < (l0_0.length : Int)
       · rw [if_pos c12] at H
         have c12b0 : decide (0 < (l0_0.length : Int)) = true := decide_eq_true c12
         have c12b1 : decide (0 < l0_0.length) = true := decide_eq_true (by omega)
         clear c12
         replace H := Option.bind_eq_some_iff.mp H
         obtain ⟨t626, A130, H⟩ := H
         replace H : (if (rd l0_0 0) = 0 then (none) else (if 0 ≤ (Int.tmod a1 (rd l0_0 0)) then (if (Int.tmod a1 (rd l0_0 0)) < (t626.length : Int) then (some (decide ((rd t626 (Int.tmod a1 (rd l0_0 0))) ≤ a1))) else (none)) else (none))) = some r := H
         have A13 := Aside0.mk A130
         clear A130
         by_cases c14 : (rd l0_0 0) = 0
         · rw [if_pos c14] at H
           exact absurd H (by simp)
         · rw [if_neg c14] at H
           have c14b0 : ((rd l0_0 0) == 0) = false := beq_eq_false_iff_ne.mpr c14
           have c14b1 : ((rd l0_0 0) != 0) = true := bne_iff_ne.mpr c14
           obtain ⟨ji15, hji15⟩ : ∃ j_ : Int, (Int.tmod a1 (rd l0_0 0)) = j_ := ⟨_, rfl⟩
           replace H : (if 0 ≤ (ji15) then (if (ji15) < (t626.length : Int) then (some (decide ((rd t626 (ji15)) ≤ a1))) else (none)) else (none)) = some r := by first | (rw [hji15] at H; exact H) | (simp only [hji15] at H ⊢; exact H)
           (try rw [hji15] at A5)
           (try rw [hji15] at A13)
           by_cases c16 : 0 ≤ (ji15)
           · rw [if_pos c16] at H
             have c16b0 : decide (0 ≤ (ji15)) = true := decide_eq_true c16
             clear c16
             by_cases c17 : (ji15) < (t626.length : Int)
             · rw [if_pos c17] at H
               have c17b0 : decide ((ji15) < (t626.length : Int)) = true := decide_eq_true c17
               clear c17
               as_aux_lemma =>
                obtain rfl := Option.some.inj H
                go_enter Try.func64, Try.ntmps64
                try go_wp2_with (first | ((with_reducible refine gate_dst (N := 2) rfl ?_); refine box_event ?hg (N := 2) ?hd (cs := #[.slice A0_0 l0_0.length c0_0]) (t := 44) ?hr ?_; (case hd => rfl); (case hg => rfl); (case hr => first | (go_simp; done) | (go_simp; rfl)); intro gb623 hg w18 hbox hb; have n0_ := Aside0.mk (below_step (bl_ HB.out) hb); have n1_ := Aside0.mk (hbox); have n2_ := Aside0.mk ((by rw [hg]; exact (below_size (bl_ HB.out)) : w.heap.size ≤ gb623)); have n3_ := Aside0.mk ((by rw [hg]; exact (below_size (bl_ HB.out)) : w.heap.size ≤ gb623)); clear HB; have HB := n0_; have BK623 := n1_; have GW623 := n2_; have GE623 := n3_; clear n0_ n1_ n2_ n3_; clear hb hbox hg; have hcz19_0 : w18.cell? ⟨gb623, 0, none⟩ = some (.slice A0_0 l0_0.length c0_0) := (blk_cell BK623.out 0).trans rfl; have hfz19_0 := blk_frozen BK623.out 0) | (go_at_call 57; (with_reducible refine (impl_IsSemigroup.calls k _ _ l0_0 true _ ?side1 ?side2 A5.out).mono ?_); (case side1 => exact ce_ ((Kd.C_below HR0_0.out HB.out))); (case side2 => exact HC0_0.out); rintro e w20 ⟨rfl, hb⟩; have n0_ := Aside0.mk (blk_below (g := gb623) (o := .cells #[.slice A0_0 l0_0.length c0_0] 44 (0, 0)) (be_ BK623.out) hb); have n1_ := Aside0.mk (below_step (by repeat (first | (with_reducible first | exact HB.out | apply below_alloc | apply pw_below_drewN | apply below_drew1 | refine below_set ?_ GE623.out) | exact HB.out)) hb); clear BK623; clear HB; have BK623 := n0_; have HB := n1_; clear n0_ n1_; (try clear hb); (try clear hb2); (try clear hk); (try clear hi)))
                have n0_ := Aside0.mk (blk_drew BK623.out)
                have n1_ := Aside0.mk (below_drew1 HB.out)
                clear BK623
                clear HB
                have BK623 := n0_
                have HB := n1_
                clear n0_ n1_
                have p625 : 0 ≤ (0 : Int) := (by omega)
                have q625 : 0 < (l0_0.length : Int) := of_decide_eq_true (by first | (with_reducible assumption) | assumption)
                obtain ⟨ad625, e625, hx625_0⟩ := Kd.at_int HR0_0.out 0 p625 q625
                have hw625_0 := hx625_0
                (try rw [show ((0 : Int)).toNat = 0 from rfl] at hw625_0)
                (try rw [show 0 * 1 = 0 from rfl] at hw625_0)
                (try rw [Addr.add_zero'] at hw625_0)
                cases e625
                have qi625 : (0 < l0_0.length) = True := eq_true (by omega)
                (try rw [show ((0 : Int)).toNat = 0 from rfl] at hx625_0)
                (try rw [Addr.add_zero'] at hx625_0)
                (try replace hx625_0 := (HB.out.cell (World.block_lt_of_cell? w _ hx625_0)).trans hx625_0)
                replace p625 := eq_true p625
                replace q625 := eq_true q625
                have p629 : 0 ≤ (0 : Int) := (by omega)
                have q629 : 0 < (l0_0.length : Int) := of_decide_eq_true (by first | (with_reducible assumption) | assumption)
                obtain ⟨ad629, e629, hx629_0⟩ := Kd.at_int HR0_0.out 0 p629 q629
                have hw629_0 := hx629_0
                (try rw [show ((0 : Int)).toNat = 0 from rfl] at hw629_0)
                (try rw [show 0 * 1 = 0 from rfl] at hw629_0)
                (try rw [Addr.add_zero'] at hw629_0)
                obtain rfl : ad625 = ad629 := (by injection e629)
                have qi629 : (0 < l0_0.length) = True := eq_true (by omega)
                (try rw [show ((0 : Int)).toNat = 0 from rfl] at hx629_0)
                (try rw [Addr.add_zero'] at hx629_0)
                (try replace hx629_0 := (HB.out.cell (World.block_lt_of_cell? w _ hx629_0)).trans hx629_0)
                replace p629 := eq_true p629
                replace q629 := eq_true q629
                refine start_ (n := 22) (S := fun w' => w'.cell? ⟨gb623, 0, none⟩ = some (.slice (some ad625) l0_0.length c0_0) ∧ w'.cell? ad625 = some (.int .i64 (rd l0_0 0)) ∧ w'.cell? ad625 = some (.int .i64 (rd l0_0 0)) ∧ True) (ds := []) (B_ 0 22) (by kernel_rfl) rfl rfl ⟨(blk_cell BK623.out 0).trans rfl, ((HB.out.cell (World.block_lt_of_cell? w _ hw625_0)).trans hw625_0), ((HB.out.cell (World.block_lt_of_cell? w _ hw629_0)).trans hw629_0), trivial⟩ (fun hHeld => ?_); refine with_tabW impl_Contains.tab3 impl_Contains.bits3 (fun HT_ HW_ => ?_)
                generalize w20.drew = w21 at BK623 HB hx625_0 hx629_0 hHeld ⊢
                refine pu_ HT_ 0 12 (B_ 1 22) ?_
                refine pu_ HT_ 1 13 (B_ 3 22) ?_
                refine pu_ HT_ 2 14 (B_ 7 22) ?_
                refine pu_ HT_ 3 15 (B_ 15 22) ?_
                refine pu_ HT_ 5 17 (B_ 47 22) ?_
                refine pu_ HT_ 10 22 (B_ 1071 22) ?_
                refine pu_ HT_ 11 23 (B_ 3119 22) ?_
                refine pu_ HT_ 18 30 (B_ 265263 22) ?_
                refine take_ (i := 4) (N := some 16) (v := ?_) (a' := ?_) (B_ 265279 22) rfl rfl (take_ofW HT_.out HW_.out (by kernel_rfl)) (fun _ _ _ h => h) (Or.inl ⟨by rfl, ?_⟩) hHeld ?_ ?_
                rotate_left
                · rintro w' ⟨s0, s1, s2, s3⟩
                  go_simp
                  with_reducible rfl
                rotate_left
                · simp only [Act.put, z1_, z2_, z3_, i64_w, i32_w]
                  rfl
                refine take_ (i := 6) (N := some 18) (v := ?_) (a' := ?_) (B_ 265343 22) rfl rfl (take_ofW HT_.out HW_.out (by kernel_rfl)) (fun _ _ _ h => h) (Or.inl ⟨by rfl, ?_⟩) hHeld ?_ ?_
                rotate_left
                · rintro w' ⟨s0, s1, s2, s3⟩
                  go_simp
                  with_reducible rfl
                rotate_left
                · simp only [Act.put, z1_, z2_, z3_, i64_w, i32_w]
                  rfl
                refine pu_ HT_ 7 19 (B_ 265471 22) ?_
                refine take_ (i := 8) (N := some 20) (v := ?_) (a' := ?_) (B_ 265727 22) rfl rfl (take_ofW HT_.out HW_.out (by kernel_rfl)) (fun _ _ _ h => h) (Or.inl ⟨by rfl, ?_⟩) hHeld ?_ ?_
                rotate_left
                · rintro w' ⟨s0, s1, s2, s3⟩
                  go_simp
                  with_reducible rfl
                rotate_left
                · simp only [Act.put, z1_, z2_, z3_, i64_w, i32_w]
                  rfl
                refine take_ (i := 12) (N := some 24) (v := ?_) (a' := ?_) (B_ 269823 22) rfl rfl (take_ofW HT_.out HW_.out (by kernel_rfl)) (fun _ _ _ h => h) (Or.inl ⟨by rfl, ?_⟩) hHeld ?_ ?_
                rotate_left
                · rintro w' ⟨s0, s1, s2, s3⟩
                  go_simp
                  with_reducible rfl
                rotate_left
                · simp only [Act.put, z1_, z2_, z3_, i64_w, i32_w]
                  rfl
                refine pu_ HT_ 13 25 (B_ 278015 22) ?_
                refine take_ (i := 14) (N := some 26) (v := ?_) (a' := ?_) (B_ 294399 22) rfl rfl (take_ofW HT_.out HW_.out (by kernel_rfl)) (fun _ _ _ h => h) (Or.inl ⟨by rfl, ?_⟩) hHeld ?_ ?_
                rotate_left
                · rintro w' ⟨s0, s1, s2, s3⟩
                  go_simp
                  with_reducible rfl
                rotate_left
                · simp only [Act.put, z1_, z2_, z3_, i64_w, i32_w]
                  rfl
                refine pu_ HT_ 15 27 (B_ 327167 22) ?_
                refine one_ (i := 9) (N := some 21) (B_ 327679 22) rfl rfl (one_of HT_.out (by kernel_rfl)) (by decide) (fun K hK => ?_)
                refine goes_ Try.func79 (by kernel_rfl) rfl #[.slice (some ad625) l0_0.length c0_0, .int .i64 (rd l0_0 0)] (by rfl) rfl rfl (by (try simp only [List.map_toArray, List.map_cons, List.map_nil]); first | done | rfl | (simp only [List.length_drop, List.length_take]; rfl)) ?_
                with_reducible refine (impl_leasts.calls k _ _ l0_0 (rd l0_0 0) t626 _ ?side1 ?side2 A13.out).mono ?_
                (case side1 => exact ce_ ((Kd.C_below HR0_0.out HB.out)))
                (case side2 => exact HC0_0.out)
                rintro e w22 ⟨v627, rfl, ho0, hb⟩
                refine ⟨_, rfl, ?_⟩
                have n0_ := Aside0.mk (Kd.R_lower ho0 (below_size (by repeat (first | (with_reducible first | exact HB.out | apply below_alloc | apply pw_below_drewN | apply below_drew1 | refine below_set ?_ GE623.out) | exact HB.out))))
                have n1_ := Aside0.mk (blk_below (g := gb623) (o := .cells #[.slice (some ad625) l0_0.length c0_0] 44 (0, 0)) (be_ BK623.out) hb)
                have n2_ := Aside0.mk (below_step (by repeat (first | (with_reducible first | exact HB.out | apply below_alloc | apply pw_below_drewN | apply below_drew1 | refine below_set ?_ GE623.out) | exact HB.out)) hb)
                clear BK623
                clear HB
                have HO628 := n0_
                have BK623 := n1_
                have HB := n2_
                clear n0_ n1_ n2_
                (try clear hb)
                (try clear hb2)
                (try clear hk)
                (try clear hi)
                (try clear ho0)
                obtain ⟨Ao23, co23, eo23⟩ := Kd.R_slice HO628.out
                (first | subst eo23 | (injection eo23 with f1_ f2_ f3_; have f4_ := f1_.symm; have f5_ := f3_.symm; clear f1_ f2_ f3_; subst f4_; subst f5_))
                have p630 : 0 ≤ ((ji15) : Int) := of_decide_eq_true (by first | (with_reducible assumption) | assumption)
                have q630 : (ji15) < (t626.length : Int) := of_decide_eq_true (by first | (with_reducible assumption) | assumption)
                obtain ⟨ad630, e630, hx630_0⟩ := Kd.at_int (Kd.R_reads' HO628.out).2.2 (ji15) p630 q630
                cases e630
                replace p630 := eq_true p630
                replace q630 := eq_true q630
                refine hK.out _ _ ⟨(blk_cell BK623.out 0).trans rfl, ((HB.out.cell (World.block_lt_of_cell? w _ hw625_0)).trans hw625_0), ((HB.out.cell (World.block_lt_of_cell? w _ hw629_0)).trans hw629_0), trivial⟩ (fun _ => ?_); refine restart_ (S' := fun w' => w'.cell? ⟨gb623, 0, none⟩ = some (.slice (some ad625) l0_0.length c0_0) ∧ w'.cell? ad625 = some (.int .i64 (rd l0_0 0)) ∧ w'.cell? ad625 = some (.int .i64 (rd l0_0 0)) ∧ w'.cell? (ad630.add ((ji15)).toNat) = some (.int .i64 (rd t626 (ji15)))) (fun _ h => ⟨h.1, h.2.1, h.2.2.1, trivial⟩) ⟨(blk_cell BK623.out 0).trans rfl, ((HB.out.cell (World.block_lt_of_cell? w _ hw625_0)).trans hw625_0), ((HB.out.cell (World.block_lt_of_cell? w _ hw629_0)).trans hw629_0), hx630_0⟩ (fun hHeld => ?_)
                clear hK K
                refine norm_ (a' := ?_) ?_ ?_
                rotate_left
                · show Act.put _ (some 21) _ = _
                  simp only [Act.put, z1_, z2_, z3_, i64_w, i32_w]
                  rfl
                refine pu_ HT_ 16 28 (B_ 393215 22) ?_
                refine take_ (i := 17) (N := some 29) (v := ?_) (a' := ?_) (B_ 524287 22) rfl rfl (take_ofW HT_.out HW_.out (by kernel_rfl)) (fun _ _ _ h => h) (Or.inl ⟨by rfl, ?_⟩) hHeld ?_ ?_
                rotate_left
                · rintro w' ⟨s0, s1, s2, s3⟩
                  go_simp
                  with_reducible rfl
                rotate_left
                · simp only [Act.put, z1_, z2_, z3_, i64_w, i32_w]
                  rfl
                refine pu_ HT_ 19 31 (B_ 1048575 22) ?_
                refine pu_ HT_ 20 32 (B_ 2097151 22) ?_
                refine pu_ HT_ 21 4 (B_ 4194303 22) ?_
                refine done_ (done_of HT_.out (by kernel_rfl)) ?_
                try go_wp2
                go_ret
                exact ⟨by first | rfl | (simp [errW_none, errW_some] <;> rfl) | (simp only [← hji15]; first | rfl | (simp [errW_none, errW_some] <;> rfl)) | (simp [*, errW_none, errW_some] <;> rfl), by repeat (first | (with_reducible first | exact HB.out | apply below_alloc | apply pw_below_drewN | apply below_drew1 | refine below_set ?_ GE623.out) | exact HB.out)⟩
             · rw [if_neg c17] at H
               exact absurd H (by simp)
           · rw [if_neg c16] at H
             exact absurd H (by simp)
       · rw [if_neg c12] at H
         exact absurd H (by simp)
   · replace c6 := Bool.eq_false_iff.mpr c6
     subst c6
     have H1 : (some false) = some r := by rw [if_neg (show ¬ (false = true) by decide)] at H; exact H
     clear H
     have H := H1
     clear H1
     as_aux_lemma =>
      obtain rfl := Option.some.inj H
      go_enter Try.func64, Try.ntmps64
      go_wp2_with (first | ((with_reducible refine gate_dst (N := 2) rfl ?_); refine box_event ?hg (N := 2) ?hd (cs := #[.slice A0_0 l0_0.length c0_0]) (t := 44) ?hr ?_; (case hd => rfl); (case hg => rfl); (case hr => first | (go_simp; done) | (go_simp; rfl)); intro gb623 hg w24 hbox hb; have n0_ := Aside0.mk (below_step (bl_ HB.out) hb); have n1_ := Aside0.mk (hbox); have n2_ := Aside0.mk ((by rw [hg]; exact (below_size (bl_ HB.out)) : w.heap.size ≤ gb623)); have n3_ := Aside0.mk ((by rw [hg]; exact (below_size (bl_ HB.out)) : w.heap.size ≤ gb623)); clear HB; have HB := n0_; have BK623 := n1_; have GW623 := n2_; have GE623 := n3_; clear n0_ n1_ n2_ n3_; clear hb hbox hg; have hcz25_0 : w24.cell? ⟨gb623, 0, none⟩ = some (.slice A0_0 l0_0.length c0_0) := (blk_cell BK623.out 0).trans rfl; have hfz25_0 := blk_frozen BK623.out 0) | (go_at_call 57; (with_reducible refine (impl_IsSemigroup.calls k _ _ l0_0 false _ ?side1 ?side2 A5.out).mono ?_); (case side1 => exact ce_ ((Kd.C_below HR0_0.out HB.out))); (case side2 => exact HC0_0.out); rintro e w26 ⟨rfl, hb⟩; have n0_ := Aside0.mk (blk_below (g := gb623) (o := .cells #[.slice A0_0 l0_0.length c0_0] 44 (0, 0)) (be_ BK623.out) hb); have n1_ := Aside0.mk (below_step (by repeat (first | (with_reducible first | exact HB.out | apply below_alloc | apply pw_below_drewN | apply below_drew1 | refine below_set ?_ GE623.out) | exact HB.out)) hb); clear BK623; clear HB; have BK623 := n0_; have HB := n1_; clear n0_ n1_; (try clear hb); (try clear hb2); (try clear hk); (try clear hi)))
      go_ret
      exact ⟨by first | rfl | (simp [errW_none, errW_some] <;> rfl) | (simp [*, errW_none, errW_some] <;> rfl), by repeat (first | (with_reducible first | exact HB.out | apply below_alloc | apply pw_below_drewN | apply below_drew1 | refine below_set ?_ GE623.out) | exact HB.out)⟩
def slices_Index_int_int.l0 : Nat → List Int → Int → Int → Int → Option (Int)
 | 0, _, _, _, _ => none
 | k + 1, x0, x1, x7, x8 => if x8 < x7 then (if 0 ≤ x8 then (if x8 < (x0.length : Int) then (if x1 = (rd x0 x8) then (some x8) else (slices_Index_int_int.l0 k x0 x1 x7 (wrap64 (x8 + 1)))) else (none)) else (none)) else (some (-1))
def slices_Index_int_int.f (k : Nat) (l0 : List Int) (a1 : Int) : Option (Int) := slices_Index_int_int.l0 k l0 a1 (l0.length : Int) 0
set_option maxHeartbeats 8000000 in
set_option maxRecDepth 100000 in
theorem slices_Index_int_int.calls (k : Nat) (A0 : Option Addr) (c0 : Nat) (l0 : List Int) (a1 : Int) (r : Int) (w : World) (hr0 : Kd.C (Kd.int .i64) w A0 l0.length l0) (hc0 : l0.length ≤ c0) (h : slices_Index_int_int.f k l0 a1 = some r) :
 Calls Try.prog 83 #[.slice A0 l0.length c0, .int .i64 a1] w fun e w' => e = .returned (.int .i64 r) ∧ Drawn0 w w' := by
 have HR0 := Aside0.mk hr0
 have HC0 := Aside0.mk hc0
 clear hr0 hc0
 have H : (slices_Index_int_int.l0 k l0 a1 (l0.length : Int) 0) = some r := h
 clear h
 have H' := Aside0.mk H
 clear H
 go_enter Try.func83, Try.ntmps83
 go_wp2
 go_loopg [8] k (fun kq v8 w' => ∃ (x8_1 : Int), v8 = .int .i64 x8_1 ∧ Aside0 (slices_Index_int_int.l0 kq l0 a1 (l0.length : Int) x8_1 = some r) ∧ Aside0 (kq ≤ k) ∧ Drawn0 w w')
 case atStart => exact ⟨(0), (by first | rfl | (simp; done) | (simp [*]; done)), H', ⟨Nat.le_refl _⟩, by repeat (first | exact Drawn0.refl _ | apply Drawn0.step)⟩
 case round =>
  clear H'
  try clear p2
  obtain ⟨x8_1, rfl, HA, HK1, ⟨m1, rfl⟩⟩ := hrel
  cases gk with
  | zero => exact absurd HA.out (by simp [slices_Index_int_int.l0])
  | succ k1 =>
   have H := HA.out
   clear HA
   simp only [slices_Index_int_int.l0] at H
   by_cases c3 : x8_1 < (l0.length : Int)
   · rw [if_pos c3] at H
     have c3b0 : decide (x8_1 < (l0.length : Int)) = true := decide_eq_true c3
     clear c3
     by_cases c4 : 0 ≤ x8_1
     · rw [if_pos c4] at H
       have c4b0 : decide (0 ≤ x8_1) = true := decide_eq_true c4
       clear c4
       by_cases c5 : x8_1 < (l0.length : Int)
       · rw [if_pos c5] at H
         have c5b0 : decide (x8_1 < (l0.length : Int)) = true := decide_eq_true c5
         clear c5
         by_cases c6 : a1 = (rd l0 x8_1)
         · rw [if_pos c6] at H
           have c6b0 : (a1 == (rd l0 x8_1)) = true := beq_iff_eq.mpr c6
           have c6b1 : (a1 != (rd l0 x8_1)) = false := bne_eq_false_iff_eq.mpr c6
           clear c6
           as_aux_lemma =>
            obtain rfl := Option.some.inj H
            have p631 : 0 ≤ (x8_1 : Int) := of_decide_eq_true (by first | (with_reducible assumption) | assumption)
            have q631 : x8_1 < (l0.length : Int) := of_decide_eq_true (by first | (with_reducible assumption) | assumption)
            obtain ⟨ad631, e631, hx631_0⟩ := Kd.at_int HR0.out x8_1 p631 q631
            cases e631
            replace p631 := eq_true p631
            replace q631 := eq_true q631
            go_wp2
            go_ret
            exact ⟨by first | rfl | (simp; done) | (simp [*]; done), by repeat (first | exact Drawn0.refl _ | apply Drawn0.step)⟩
         · rw [if_neg c6] at H
           have c6b0 : (a1 == (rd l0 x8_1)) = false := beq_eq_false_iff_ne.mpr c6
           have c6b1 : (a1 != (rd l0 x8_1)) = true := bne_iff_ne.mpr c6
           as_aux_lemma =>
            have H' := Aside0.mk H
            clear H
            have p631 : 0 ≤ (x8_1 : Int) := of_decide_eq_true (by first | (with_reducible assumption) | assumption)
            have q631 : x8_1 < (l0.length : Int) := of_decide_eq_true (by first | (with_reducible assumption) | assumption)
            obtain ⟨ad631, e631, hx631_0⟩ := Kd.at_int HR0.out x8_1 p631 q631
            cases e631
            replace p631 := eq_true p631
            replace q631 := eq_true q631
            go_wp2
            go_roundg k1
            case measure => have := HK1.out; omega
            case rel => exact ⟨(wrap64 (x8_1 + 1)), (by first | rfl | (simp; done) | (simp [*]; done)), H', ⟨by have := HK1.out; omega⟩, by repeat (first | exact Drawn0.refl _ | apply Drawn0.step)⟩
       · rw [if_neg c5] at H
         exact absurd H (by simp)
     · rw [if_neg c4] at H
       exact absurd H (by simp)
   · rw [if_neg c3] at H
     have c3b0 : decide (x8_1 < (l0.length : Int)) = false := decide_eq_false c3
     clear c3
     as_aux_lemma =>
      obtain rfl := Option.some.inj H
      go_wp2
      go_ret
      exact ⟨by first | rfl | (simp; done) | (simp [*]; done), by repeat (first | exact Drawn0.refl _ | apply Drawn0.step)⟩
def slices_Contains_int_int.f (k : Nat) (l0 : List Int) (a1 : Int) : Option (Bool) := (slices_Index_int_int.f k l0 a1).bind fun t632 => (some (decide (t632 ≥ 0)))
set_option maxHeartbeats 8000000 in
set_option maxRecDepth 100000 in
theorem slices_Contains_int_int.calls (k : Nat) (A0 : Option Addr) (c0 : Nat) (l0 : List Int) (a1 : Int) (r : Bool) (w : World) (hr0 : Kd.C (Kd.int .i64) w A0 l0.length l0) (hc0 : l0.length ≤ c0) (h : slices_Contains_int_int.f k l0 a1 = some r) :
 Calls Try.prog 65 #[.slice A0 l0.length c0, .int .i64 a1] w fun e w' => e = .returned (.bool r) ∧ Drawn0 w w' := by
 have HR0 := Aside0.mk hr0
 have HC0 := Aside0.mk hc0
 clear hr0 hc0
 have H : ((slices_Index_int_int.f k l0 a1).bind fun t632 => (some (decide (t632 ≥ 0)))) = some r := h
 clear h
 replace H := Option.bind_eq_some_iff.mp H
 obtain ⟨t632, A30, H⟩ := H
 replace H : (some (decide (t632 ≥ 0))) = some r := H
 have A3 := Aside0.mk A30
 clear A30
 as_aux_lemma =>
  obtain rfl := Option.some.inj H
  go_enter Try.func65, Try.ntmps65
  go_wp2_with (first | ((with_reducible refine gate_callee (f := 83) rfl ?_); refine goesL_ (some 7) rfl rfl Try.func83 (by kernel_rfl) rfl #[.slice A0 l0.length c0, .int .i64 a1] rfl (by (try simp only [List.map_toArray, List.map_cons, List.map_nil]); first | done | rfl | (simp only [List.length_drop, List.length_take]; rfl)) ?_; (with_reducible refine (slices_Index_int_int.calls k _ _ l0 a1 t632 _ ?side1 ?side2 A3.out).mono ?_); (case side1 => exact ce_ (HR0.out)); (case side2 => exact HC0.out); rintro e w' ⟨rfl, ⟨nd, rfl⟩⟩; refine ⟨_, rfl, ?_⟩))
  go_ret
  exact ⟨by first | rfl | (simp; done) | (simp [*]; done), by repeat (first | exact Drawn0.refl _ | apply Drawn0.step)⟩
end Go.Proofs.Ythkhpejggdnkfaa.PA
end
