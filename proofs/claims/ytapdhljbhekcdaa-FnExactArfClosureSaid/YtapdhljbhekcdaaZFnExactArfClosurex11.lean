-- Bundled by shake.py from this session's printed and written texts; Lean checks it.
import Derived.Test.YtapdhljbhekcdaaZFnExactArfClosurex1
import Derived.Test.YtapdhljbhekcdaaZFnExactArfClosurex10
import Derived.Test.YtapdhljbhekcdaaZFnExactArfClosurex8
section
namespace Go.Proofs.Ytapdhljbhekcdaa.PB
open Go.RowKit Go.Proofs.YtapdhljbhekcdaaW.PrintWords Go.Proofs.YtapdhljbhekcdaaW.PrintLast Go.Proofs.YtapdhljbhekcdaaW.PrintMore
set_option linter.unusedVariables false
set_option linter.unusedSimpArgs false
mutual
def impl_ArfClosure.l0 : Nat → List Bool → Bool → Option (List Int × Bool)
 | 0, _, _ => none
 | k + 1, x4, x5 => if x5 = true then (impl_ArfClosure.l1 k x4 false (([] : List Int)) x4 (x4.length : Int) 0) else (impl_ArfClosure.l5 k (([] : List Int)) x4 (x4.length : Int) 0)
def impl_ArfClosure.l1 : Nat → List Bool → Bool → List Int → List Bool → Int → Int → Option (List Int × Bool)
 | 0, _, _, _, _, _, _ => none
 | k + 1, x4, x5, x6, x27, x28, x29 => if x29 < x28 then (if 0 ≤ x29 then (if x29 < (x27.length : Int) then (if rdOf false x27 x29 = true then (if x6.length < 17592186044416 then (impl_ArfClosure.l1 k x4 x5 (x6 ++ [x29]) x27 x28 (wrap64 (x29 + 1))) else (none)) else (impl_ArfClosure.l1 k x4 x5 x6 x27 x28 (wrap64 (x29 + 1)))) else (none)) else (none)) else (impl_ArfClosure.l2 k x4 x5 x6 x6 (x6.length : Int) 0)
def impl_ArfClosure.l2 : Nat → List Bool → Bool → List Int → List Int → Int → Int → Option (List Int × Bool)
 | 0, _, _, _, _, _, _ => none
 | k + 1, x4, x5, x6, x40, x41, x42 => if x42 < x41 then (if 0 ≤ x42 then (if x42 < (x40.length : Int) then (if 0 ≤ (wrap64 (x42 + 1)) then (if (wrap64 (x42 + 1)) ≤ (x6.length : Int) then ((some (x6.take ((wrap64 (x42 + 1)) : Int).toNat : List Int)).bind fun y850 => (impl_ArfClosure.l3 k x4 x5 x6 (rd x40 x42) x40 x41 x42 y850 (y850.length : Int) 0)) else (none)) else (none)) else (none)) else (none)) else (impl_ArfClosure.l0 k x4 x5)
def impl_ArfClosure.l3 : Nat → List Bool → Bool → List Int → Int → List Int → Int → Int → List Int → Int → Int → Option (List Int × Bool)
 | 0, _, _, _, _, _, _, _, _, _, _ => none
 | k + 1, x4, x5, x6, x10, x40, x41, x42, x50, x51, x52 => if x52 < x51 then (if 0 ≤ x52 then (if x52 < (x50.length : Int) then (if 0 ≤ (wrap64 (x52 + 1)) then (if (wrap64 (x52 + 1)) ≤ (x6.length : Int) then ((some (x6.take ((wrap64 (x52 + 1)) : Int).toNat : List Int)).bind fun y855 => (impl_ArfClosure.l4 k x4 x5 x6 x10 (rd x50 x52) x40 x41 x42 x50 x51 x52 y855 (y855.length : Int) 0)) else (none)) else (none)) else (none)) else (none)) else (impl_ArfClosure.l2 k x4 x5 x6 x40 x41 (wrap64 (x42 + 1)))
def impl_ArfClosure.l4 : Nat → List Bool → Bool → List Int → Int → Int → List Int → Int → Int → List Int → Int → Int → List Int → Int → Int → Option (List Int × Bool)
 | 0, _, _, _, _, _, _, _, _, _, _, _, _, _, _ => none
 | k + 1, x4, x5, x6, x10, x12, x40, x41, x42, x50, x51, x52, x60, x61, x62 => if x62 < x61 then (if 0 ≤ x62 then (if x62 < (x60.length : Int) then (if (wrap64 ((wrap64 (x10 + x12)) - (rd x60 x62))) < (x4.length : Int) then (if 0 ≤ (wrap64 ((wrap64 (x10 + x12)) - (rd x60 x62))) then (if (rdOf false x4 (wrap64 ((wrap64 (x10 + x12)) - (rd x60 x62))) = true) then (impl_ArfClosure.l4 k x4 x5 x6 x10 x12 x40 x41 x42 x50 x51 x52 x60 x61 (wrap64 (x62 + 1))) else (impl_ArfClosure.l4 k (x4.set ((wrap64 ((wrap64 (x10 + x12)) - (rd x60 x62))) : Int).toNat true) true x6 x10 x12 x40 x41 x42 x50 x51 x52 x60 x61 (wrap64 (x62 + 1)))) else (none)) else (impl_ArfClosure.l4 k x4 x5 x6 x10 x12 x40 x41 x42 x50 x51 x52 x60 x61 (wrap64 (x62 + 1)))) else (none)) else (none)) else (impl_ArfClosure.l3 k x4 x5 x6 x10 x40 x41 x42 x50 x51 (wrap64 (x52 + 1)))
def impl_ArfClosure.l5 : Nat → List Int → List Bool → Int → Int → Option (List Int × Bool)
 | 0, _, _, _, _ => none
 | k + 1, x16, x89, x90, x91 => if x91 < x90 then (if 0 ≤ x91 then (if x91 < (x89.length : Int) then (if rdOf false x89 x91 = true then (impl_ArfClosure.l5 k x16 x89 x90 (wrap64 (x91 + 1))) else (if x16.length < 17592186044416 then (impl_ArfClosure.l5 k (x16 ++ [x91]) x89 x90 (wrap64 (x91 + 1))) else (none))) else (none)) else (none)) else ((impl_FromGaps.f k x16).bind fun bt869 => (some (bt869.1, bt869.2)))
end
def impl_ArfClosure.f (k : Nat) (l0_0 : List Int) : Option (List Int × Bool) := (impl_IsSemigroup.f k l0_0).bind fun t838 => (if t838 = true then ((impl_table.f k l0_0 200).bind fun t839 => (impl_ArfClosure.l0 k t839 true)) else (some (([] : List Int), false)))
set_option maxHeartbeats 8000000 in
set_option maxRecDepth 100000 in
theorem impl_ArfClosure.calls (k : Nat) (A0_0 : Option Addr) (c0_0 : Nat) (l0_0 : List Int) (r1 : List Int) (r2 : Bool) (w : World) (hr0_0 : Kd.C (Kd.int .i64) w A0_0 l0_0.length l0_0) (hc0_0 : l0_0.length ≤ c0_0) (h : impl_ArfClosure.f k l0_0 = some (r1, r2)) :
 Calls Try.prog 46 #[.agg #[.slice A0_0 l0_0.length c0_0]] w fun e w' => ∃ v0_ : Value, e = .returned (.tuple #[.agg #[v0_], .bool r2]) ∧ Kd.R (Kd.int .i64) 3 w' w.heap.size (fun _ => True) v0_ r1 ∧ Below w.heap.size w w' := by
 have hu27 := Try.underlying27
 have HR0_0 := Aside0.mk hr0_0
 have HC0_0 := Aside0.mk hc0_0
 clear hr0_0 hc0_0
 have HB := Aside0.mk (Below.refl w.heap.size w)
 have H : ((impl_IsSemigroup.f k l0_0).bind fun t838 => (if t838 = true then ((impl_table.f k l0_0 200).bind fun t839 => (impl_ArfClosure.l0 k t839 true)) else (some (([] : List Int), false)))) = some (r1, r2) := h
 clear h
 replace H := Option.bind_eq_some_iff.mp H
 obtain ⟨t838, A20, H⟩ := H
 replace H : (if t838 = true then ((impl_table.f k l0_0 200).bind fun t839 => (impl_ArfClosure.l0 k t839 true)) else (some (([] : List Int), false))) = some (r1, r2) := H
 have A2 := Aside0.mk A20
 clear A20
 by_cases c3 : t838 = true
 · subst c3
   have H1 : ((impl_table.f k l0_0 200).bind fun t839 => (impl_ArfClosure.l0 k t839 true)) = some (r1, r2) := by rw [if_pos rfl] at H; exact H
   clear H
   have H := H1
   clear H1
   replace H := Option.bind_eq_some_iff.mp H
   obtain ⟨t839, A40, H⟩ := H
   replace H : (impl_ArfClosure.l0 k t839 true) = some (r1, r2) := H
   have A4 := Aside0.mk A40
   clear A40
   have H' := Aside0.mk H
   clear H
   go_enter Try.func46, Try.ntmps46
   go_wp2_with (first | ((with_reducible refine gate_dst (N := 1) rfl ?_); refine box_event ?hg (N := 1) ?hd (cs := #[.slice A0_0 l0_0.length c0_0]) (t := 27) ?hr ?_; (case hd => rfl); (case hg => rfl); (case hr => first | (go_simp; done) | (go_simp; rfl)); intro gb836 hg w5 hbox hb; have n0_ := Aside0.mk (below_step (bl_ HB.out) hb); have n1_ := Aside0.mk (hbox); have n2_ := Aside0.mk ((by rw [hg]; exact (below_size (bl_ HB.out)) : w.heap.size ≤ gb836)); have n3_ := Aside0.mk ((by rw [hg]; exact (below_size (bl_ HB.out)) : w.heap.size ≤ gb836)); clear HB; have HB := n0_; have BK836 := n1_; have GW836 := n2_; have GE836 := n3_; clear n0_ n1_ n2_ n3_; clear hb hbox hg) | ((with_reducible refine gate_dst (N := 2) rfl ?_); refine box_event ?hg (N := 2) ?hd (cs := #[.slice none 0 0]) (t := 27) ?hr ?_; (case hd => rfl); (case hg => rfl); (case hr => first | (go_simp; done) | (go_simp; rfl)); intro gb837 hg w6 hbox hb; have n0_ := Aside0.mk (blk_below (g := gb836) (o := .cells #[.slice A0_0 l0_0.length c0_0] 27 (0, 0)) (be_ BK836.out) hb); have n1_ := Aside0.mk (below_step (by repeat (first | (with_reducible first | exact HB.out | apply below_alloc | apply pw_below_drewN | apply below_drew1 | refine below_set ?_ GE836.out) | exact HB.out)) hb); have n2_ := Aside0.mk (hbox); have n3_ := Aside0.mk ((by rw [hg]; exact (below_size (by repeat (first | (with_reducible first | exact HB.out | apply below_alloc | apply pw_below_drewN | apply below_drew1 | refine below_set ?_ GE836.out) | exact HB.out))) : w.heap.size ≤ gb837)); have n4_ := Aside0.mk ((by rw [hg]; exact (below_size (by repeat (first | (with_reducible first | exact HB.out | apply below_alloc | apply pw_below_drewN | apply below_drew1 | refine below_set ?_ GE836.out) | exact HB.out))) : w.heap.size ≤ gb837)); have n5_ := Aside0.mk ((by rw [hg]; exact Nat.ne_of_lt (blk_lt (g := gb836) (o := .cells #[.slice A0_0 l0_0.length c0_0] 27 (0, 0)) (be_ BK836.out)) : gb836 ≠ gb837)); have n6_ := Aside0.mk ((by rw [hg]; exact Nat.ne_of_gt (blk_lt (g := gb836) (o := .cells #[.slice A0_0 l0_0.length c0_0] 27 (0, 0)) (be_ BK836.out)) : gb837 ≠ gb836)); clear BK836; clear HB; have BK836 := n0_; have HB := n1_; have BK837 := n2_; have GW837 := n3_; have GE837 := n4_; have NB836_837 := n5_; have NB837_836 := n6_; clear n0_ n1_ n2_ n3_ n4_ n5_ n6_; clear hb hbox hg; have hnb7 := NB836_837.out; have hnc7 := NB837_836.out; have hcz8_0 : w6.cell? ⟨gb836, 0, none⟩ = some (.slice A0_0 l0_0.length c0_0) := (blk_cell BK836.out 0).trans rfl; have hfz8_0 := blk_frozen BK836.out 0) | ((with_reducible refine gate_callee (f := 56) rfl ?_); refine goesL_ (some 20) rfl rfl Try.func56 (by kernel_rfl) rfl #[.agg #[.slice A0_0 l0_0.length c0_0]] rfl (by (try simp only [List.map_toArray, List.map_cons, List.map_nil]); first | done | rfl | (simp only [List.length_drop, List.length_take]; rfl)) ?_; (with_reducible refine (impl_IsSemigroup.calls k _ _ l0_0 true _ ?side1 ?side2 A2.out).mono ?_); (case side1 => exact ce_ ((Kd.C_below HR0_0.out HB.out))); (case side2 => exact HC0_0.out); rintro e w9 ⟨rfl, hb⟩; refine ⟨_, rfl, ?_⟩; have n0_ := Aside0.mk (blk_below (g := gb836) (o := .cells #[.slice A0_0 l0_0.length c0_0] 27 (0, 0)) (be_ BK836.out) hb); have n1_ := Aside0.mk (blk_below (g := gb837) (o := .cells #[.slice none 0 0] 27 (0, 0)) (be_ BK837.out) hb); have n2_ := Aside0.mk (below_step (by repeat (first | (with_reducible first | exact HB.out | apply below_alloc | apply pw_below_drewN | apply below_drew1 | refine below_set ?_ GE836.out | refine below_set ?_ GE837.out) | exact HB.out)) hb); clear BK836; clear BK837; clear HB; have BK836 := n0_; have BK837 := n1_; have HB := n2_; clear n0_ n1_ n2_; (try clear hb); (try clear hb2); (try clear hk); (try clear hi); have hcz10_0 : w9.cell? ⟨gb836, 0, none⟩ = some (.slice A0_0 l0_0.length c0_0) := (blk_cell BK836.out 0).trans rfl; have hfz10_0 := blk_frozen BK836.out 0) | ((with_reducible refine gate_callee (f := 88) rfl ?_); refine goesL_ (some 24) rfl rfl Try.func88 (by kernel_rfl) rfl #[.agg #[.slice A0_0 l0_0.length c0_0], .int .i64 200] rfl (by (try simp only [List.map_toArray, List.map_cons, List.map_nil]); first | done | rfl | (simp only [List.length_drop, List.length_take]; rfl)) ?_; (with_reducible refine (impl_table.calls k _ _ l0_0 200 t839 _ ?side1 ?side2 A4.out).mono ?_); (case side1 => exact ce_ ((Kd.C_below HR0_0.out HB.out))); (case side2 => exact HC0_0.out); rintro e w11 ⟨v840, rfl, ho0, hb⟩; refine ⟨_, rfl, ?_⟩; have n0_ := Aside0.mk (Kd.R_lower ho0 (below_size (by repeat (first | (with_reducible first | exact HB.out | apply below_alloc | apply pw_below_drewN | apply below_drew1 | refine below_set ?_ GE836.out | refine below_set ?_ GE837.out) | exact HB.out)))); have n1_ := Aside0.mk (blk_below (g := gb836) (o := .cells #[.slice A0_0 l0_0.length c0_0] 27 (0, 0)) (be_ BK836.out) hb); have n2_ := Aside0.mk (blk_below (g := gb837) (o := .cells #[.slice none 0 0] 27 (0, 0)) (be_ BK837.out) hb); have n3_ := Aside0.mk (below_step (by repeat (first | (with_reducible first | exact HB.out | apply below_alloc | apply pw_below_drewN | apply below_drew1 | refine below_set ?_ GE836.out | refine below_set ?_ GE837.out) | exact HB.out)) hb); clear BK836; clear BK837; clear HB; have HO841 := n0_; have BK836 := n1_; have BK837 := n2_; have HB := n3_; clear n0_ n1_ n2_ n3_; (try clear hb); (try clear hb2); (try clear hk); (try clear hi); (try clear ho0)))
   go_loopg [5] k (fun kq v5 w' => ∃ (x4_1 : List Bool) (x5_1 : Bool), v5 = .bool x5_1 ∧ Aside0 (impl_ArfClosure.l0 kq x4_1 x5_1 = some (r1, r2)) ∧ Aside0 (kq ≤ k) ∧ Aside0 (Kd.R Kd.bool 4 w' w.heap.size (fun _ => True) v840 x4_1) ∧ Aside0 (w'.heap[gb836]? = some (.cells #[(.slice A0_0 l0_0.length c0_0)] 27 (0, 0))) ∧ Aside0 (w'.heap[gb837]? = some (.cells #[(.slice none 0 0)] 27 (0, 0))) ∧ Aside0 (Below w.heap.size w w'))
   case atStart => exact ⟨(t839), (true), (by first | rfl | (simp; done) | (simp [*]; done)), H', ⟨Nat.le_refl _⟩, ⟨re_ HO841.out⟩, ⟨be_ BK836.out⟩, ⟨be_ BK837.out⟩, ⟨by repeat (first | (with_reducible first | exact HB.out | apply below_alloc | apply pw_below_drewN | apply below_drew1 | refine below_set ?_ GE836.out | refine below_set ?_ GE837.out) | exact HB.out)⟩⟩
   case round =>
    clear H'
    try clear p2
    try clear c3
    try clear c4
    try clear c5
    try clear c7
    try clear c8
    try clear hcz10_0
    try clear hcz8_0
    try clear hfz10_0
    try clear hfz8_0
    obtain ⟨x4_1, x5_1, rfl, HA, HK1, HO_4, BK836, BK837, HB⟩ := hrel
    cases gk with
    | zero => exact absurd HA.out (by simp [impl_ArfClosure.l0])
    | succ k1 =>
     have H := HA.out
     clear HA
     simp only [impl_ArfClosure.l0] at H
     by_cases c12 : x5_1 = true
     · subst c12
       have H1 : (impl_ArfClosure.l1 k1 x4_1 false (([] : List Int)) x4_1 (x4_1.length : Int) 0) = some (r1, r2) := by rw [if_pos rfl] at H; exact H
       clear H
       have H := H1
       clear H1
       obtain ⟨y842, hy842⟩ : ∃ y_ : List Int, y_ = (([] : List Int)) := ⟨_, rfl⟩
       replace H : (impl_ArfClosure.l1 k1 x4_1 false y842 x4_1 (x4_1.length : Int) 0) = some (r1, r2) := by first | (rw [hy842]; with_reducible exact H) | (have H2_ := (Option.bind_some _ _).symm.trans H; rw [hy842]; with_reducible exact H2_) | (have H2_ := (Option.bind_some _ _).symm.trans H; with_reducible exact H2_) | with_reducible exact H | (rw [hy842]; exact H) | exact H
       have Ny842 := Aside0.mk hy842
       clear hy842
       have H' := Aside0.mk H
       clear H
       go_wp2_with (first | ((with_reducible refine gate_dst (N := 26) rfl ?_); refine Kd.R_lit (Kd.int .i64) _ 3 ?hg (N := 26) ?hd (xs := ([] : List Int)) (inner := []) (ok := fun _ => True) (okp := fun _ => True) ?hr ?hp (fun _ hk => hk) trivial (Below.refl _ _) (Nat.le_refl _) (by simp) ?_; (case hd => rfl); (case hg => rfl); (case hr => first | (go_simp; done) | (go_simp; rfl)); (case hp => exact (Reps.none _ _)); intro v843 w13 ho14 hb hg_ hnew_; clear hg_ hnew_; (first | rw [← Ny842.out] at ho14 | (simp only [Int.reduceToNat] at ho14; rw [← Ny842.out] at ho14)); have n0_ := Aside0.mk (Kd.R_below (re_ HO_4.out) hb); have n1_ := Aside0.mk (Kd.R_lower ho14 (below_size (by repeat (first | (with_reducible first | exact HB.out | apply below_alloc | apply pw_below_drewN | apply below_drew1 | refine below_set ?_ GE836.out | refine below_set ?_ GE837.out) | exact HB.out)))); have n2_ := Aside0.mk (blk_below (g := gb836) (o := .cells #[.slice A0_0 l0_0.length c0_0] 27 (0, 0)) (be_ BK836.out) hb); have n3_ := Aside0.mk (blk_below (g := gb837) (o := .cells #[.slice none 0 0] 27 (0, 0)) (be_ BK837.out) hb); have n4_ := Aside0.mk (below_step (by repeat (first | (with_reducible first | exact HB.out | apply below_alloc | apply pw_below_drewN | apply below_drew1 | refine below_set ?_ GE836.out | refine below_set ?_ GE837.out) | exact HB.out)) hb); clear HO_4; clear BK836; clear BK837; clear HB; have HO_4 := n0_; have HO844 := n1_; have BK836 := n2_; have BK837 := n3_; have HB := n4_; clear n0_ n1_ n2_ n3_ n4_; clear hb ho14; obtain ⟨Ao15, co15, eo15⟩ := Kd.R_slice HO_4.out; subst eo15))
       go_loopg [6, 29] k1 (fun kq v6 v29 w' => ∃ (x6_2 : List Int) (x29_2 : Int), v29 = .int .i64 x29_2 ∧ Aside0 (impl_ArfClosure.l1 kq x4_1 false x6_2 x4_1 (x4_1.length : Int) x29_2 = some (r1, r2)) ∧ Aside0 (kq ≤ k1) ∧ Aside0 (Kd.R Kd.bool 4 w' w.heap.size (fun _ => True) (.slice Ao15 x4_1.length co15) x4_1) ∧ Aside0 (Kd.R (Kd.int .i64) 3 w' w.heap.size (fun _ => True) v6 x6_2) ∧ Aside0 (Kd.R Kd.bool 4 w' w.heap.size (fun _ => True) (.slice Ao15 x4_1.length co15) x4_1) ∧ Aside0 (w'.heap[gb836]? = some (.cells #[(.slice A0_0 l0_0.length c0_0)] 27 (0, 0))) ∧ Aside0 (w'.heap[gb837]? = some (.cells #[(.slice none 0 0)] 27 (0, 0))) ∧ Aside0 (Below w.heap.size w w'))
       case atStart => exact ⟨(y842), (0), (by first | rfl | (simp; done) | (simp [*]; done)), H', ⟨Nat.le_refl _⟩, ⟨re_ HO_4.out⟩, ⟨re_ HO844.out⟩, ⟨re_ HO_4.out⟩, ⟨be_ BK836.out⟩, ⟨be_ BK837.out⟩, ⟨by repeat (first | (with_reducible first | exact HB.out | apply below_alloc | apply pw_below_drewN | apply below_drew1 | refine below_set ?_ GE836.out | refine below_set ?_ GE837.out) | exact HB.out)⟩⟩
       case round =>
        clear H'
        try clear c1
        try clear p2
        try clear c3
        try clear c4
        try clear c5
        try clear c7
        try clear c8
        try clear c12
        try clear hcz10_0
        try clear hcz8_0
        try clear hfz10_0
        try clear hfz8_0
        try clear p2
        obtain ⟨x6_2, x29_2, rfl, HA, HK2, HO_4, HO_6, HO_27, BK836, BK837, HB⟩ := hrel
        cases gk with
        | zero => exact absurd HA.out (by simp [impl_ArfClosure.l1])
        | succ k2 =>
         have H := HA.out
         clear HA
         simp only [impl_ArfClosure.l1] at H
         by_cases c16 : x29_2 < (x4_1.length : Int)
         · rw [if_pos c16] at H
           have c16b0 : decide (x29_2 < (x4_1.length : Int)) = true := decide_eq_true c16
           clear c16
           by_cases c17 : 0 ≤ x29_2
           · rw [if_pos c17] at H
             have c17b0 : decide (0 ≤ x29_2) = true := decide_eq_true c17
             clear c17
             by_cases c18 : x29_2 < (x4_1.length : Int)
             · rw [if_pos c18] at H
               have c18b0 : decide (x29_2 < (x4_1.length : Int)) = true := decide_eq_true c18
               clear c18
               obtain ⟨bq19, hbq19⟩ : ∃ b_ : Bool, b_ = (rdOf false x4_1 x29_2) := ⟨_, rfl⟩
               replace H : (if bq19 = true then (if x6_2.length < 17592186044416 then (impl_ArfClosure.l1 k2 x4_1 false (x6_2 ++ [x29_2]) x4_1 (x4_1.length : Int) (wrap64 (x29_2 + 1))) else (none)) else (impl_ArfClosure.l1 k2 x4_1 false x6_2 x4_1 (x4_1.length : Int) (wrap64 (x29_2 + 1)))) = some (r1, r2) := by rw [← hbq19] at H; exact H
               have Nbq19 := Aside0.mk hbq19
               clear hbq19
               by_cases c20 : bq19 = true
               · subst c20
                 have H1 : (if x6_2.length < 17592186044416 then (impl_ArfClosure.l1 k2 x4_1 false (x6_2 ++ [x29_2]) x4_1 (x4_1.length : Int) (wrap64 (x29_2 + 1))) else (none)) = some (r1, r2) := by rw [if_pos rfl] at H; exact H
                 clear H
                 have H := H1
                 clear H1
                 by_cases c21 : x6_2.length < 17592186044416
                 · rw [if_pos c21] at H
                   have LMc21 := Aside0.mk c21
                   clear c21
                   obtain ⟨y846, hy846⟩ : ∃ y_ : List Int, y_ = (x6_2 ++ [x29_2]) := ⟨_, rfl⟩
                   replace H : (impl_ArfClosure.l1 k2 x4_1 false y846 x4_1 (x4_1.length : Int) (wrap64 (x29_2 + 1))) = some (r1, r2) := by first | (rw [hy846]; with_reducible exact H) | (have H2_ := (Option.bind_some _ _).symm.trans H; rw [hy846]; with_reducible exact H2_) | (have H2_ := (Option.bind_some _ _).symm.trans H; with_reducible exact H2_) | with_reducible exact H | (rw [hy846]; exact H) | exact H
                   have Ny846 := Aside0.mk hy846
                   clear hy846
                   have H' := Aside0.mk H
                   clear H
                   have p845 : 0 ≤ (x29_2 : Int) := of_decide_eq_true (by first | (with_reducible assumption) | assumption)
                   have q845 : x29_2 < (x4_1.length : Int) := of_decide_eq_true (by first | (with_reducible assumption) | assumption)
                   obtain ⟨ad845, e845, hx845_0⟩ := Kd.at_bool (Kd.R_reads' HO_27.out).2.2 x29_2 p845 q845
                   (try rw [← Nbq19.out] at hx845_0)
                   cases e845
                   replace p845 := eq_true p845
                   replace q845 := eq_true q845
                   go_wp2_with (first | ((with_reducible refine gate_builtin (b := .append) (xs := #[.tmp 35, .tmp 37]) rfl ?_); at_builtin; refine Kd.R_append (Kd.int .i64) (w0 := w) w.heap.size rfl (.tmp 35) (.tmp 37) 22 3 (.int .i64 0) 8 rfl Try.underlying22 info3 rfl (by decide) (by omega) u6 x6_2 x29_2 [.int .i64 x29_2] (fun _ => True) (fun _ => False) rfl rfl ?aP (fun _ hk => hk.elim) ?aF ?aO ?aB ?aS ?aL ?_; (case aP => exact rfl); (case aB => exact (by repeat (first | (with_reducible first | exact HB.out | apply below_alloc | apply pw_below_drewN | apply below_drew1 | refine below_set ?_ GE836.out | refine below_set ?_ GE837.out) | exact HB.out))); (case aF => exact (fun _ _ => trivial)); (case aO => exact (re_ HO_6.out)); (case aS => exact (below_size (by repeat (first | (with_reducible first | exact HB.out | apply below_alloc | apply pw_below_drewN | apply below_drew1 | refine below_set ?_ GE836.out | refine below_set ?_ GE837.out) | exact HB.out)))); (case aL => have := LMc21.out; omega); intro v847 w22 ho hb hg hat; rw [← Ny846.out] at ho; have n0_ := Aside0.mk (Kd.R_over' (re_ HO_4.out) (Kd.R_typed (re_ HO_6.out)) (by decide) hg); have n1_ := Aside0.mk (Kd.R_over' (re_ HO_27.out) (Kd.R_typed (re_ HO_6.out)) (by decide) hg); have n2_ := Aside0.mk (blk_grown (g := gb836) (o := .cells #[.slice A0_0 l0_0.length c0_0] 27 (0, 0)) (be_ BK836.out) hg (Kd.R_ne HO_6.out BK836.out (by decide))); have n3_ := Aside0.mk (blk_grown (g := gb837) (o := .cells #[.slice none 0 0] 27 (0, 0)) (be_ BK837.out) hg (Kd.R_ne HO_6.out BK837.out (by decide))); have n4_ := Aside0.mk (hb); have n5_ := Aside0.mk (ho); clear HO_4; clear HO_27; clear BK836; clear BK837; clear HB; clear HO_6; have HO_4 := n0_; have HO_27 := n1_; have BK836 := n2_; have BK837 := n3_; have HB := n4_; have HO848 := n5_; clear n0_ n1_ n2_ n3_ n4_ n5_; clear ho hb hg hat))
                   go_roundg k2
                   case measure => have := HK1.out; have := HK2.out; omega
                   case rel => exact ⟨(y846), (wrap64 (x29_2 + 1)), (by first | rfl | (simp; done) | (simp [*]; done)), H', ⟨by have := HK1.out; have := HK2.out; omega⟩, ⟨re_ HO_4.out⟩, ⟨re_ HO848.out⟩, ⟨re_ HO_27.out⟩, ⟨be_ BK836.out⟩, ⟨be_ BK837.out⟩, ⟨by repeat (first | (with_reducible first | exact HB.out | apply below_alloc | apply pw_below_drewN | apply below_drew1 | refine below_set ?_ GE836.out | refine below_set ?_ GE837.out) | exact HB.out)⟩⟩
                 · rw [if_neg c21] at H
                   exact absurd H (by simp)
               · replace c20 := Bool.eq_false_iff.mpr c20
                 subst c20
                 have H1 : (impl_ArfClosure.l1 k2 x4_1 false x6_2 x4_1 (x4_1.length : Int) (wrap64 (x29_2 + 1))) = some (r1, r2) := by rw [if_neg (show ¬ (false = true) by decide)] at H; exact H
                 clear H
                 have H := H1
                 clear H1
                 have H' := Aside0.mk H
                 clear H
                 have p845 : 0 ≤ (x29_2 : Int) := of_decide_eq_true (by first | (with_reducible assumption) | assumption)
                 have q845 : x29_2 < (x4_1.length : Int) := of_decide_eq_true (by first | (with_reducible assumption) | assumption)
                 obtain ⟨ad845, e845, hx845_0⟩ := Kd.at_bool (Kd.R_reads' HO_27.out).2.2 x29_2 p845 q845
                 (try rw [← Nbq19.out] at hx845_0)
                 cases e845
                 replace p845 := eq_true p845
                 replace q845 := eq_true q845
                 go_wp2
                 go_roundg k2
                 case measure => have := HK1.out; have := HK2.out; omega
                 case rel => exact ⟨(x6_2), (wrap64 (x29_2 + 1)), (by first | rfl | (simp; done) | (simp [*]; done)), H', ⟨by have := HK1.out; have := HK2.out; omega⟩, ⟨re_ HO_4.out⟩, ⟨re_ HO_6.out⟩, ⟨re_ HO_27.out⟩, ⟨be_ BK836.out⟩, ⟨be_ BK837.out⟩, ⟨by repeat (first | (with_reducible first | exact HB.out | apply below_alloc | apply pw_below_drewN | apply below_drew1 | refine below_set ?_ GE836.out | refine below_set ?_ GE837.out) | exact HB.out)⟩⟩
             · rw [if_neg c18] at H
               exact absurd H (by simp)
           · rw [if_neg c17] at H
             exact absurd H (by simp)
         · rw [if_neg c16] at H
           have c16b0 : decide (x29_2 < (x4_1.length : Int)) = false := decide_eq_false c16
           clear c16
           have H' := Aside0.mk H
           clear H
           obtain ⟨Ao23, co23, eo23⟩ := Kd.R_slice HO_6.out
           subst eo23
           go_wp2
           go_loopg [5, 42] k2 (fun kq v5 v42 w' => ∃ (x4_3 : List Bool) (x5_3 : Bool) (x42_3 : Int), v5 = .bool x5_3 ∧ v42 = .int .i64 x42_3 ∧ Aside0 (impl_ArfClosure.l2 kq x4_3 x5_3 x6_2 x6_2 (x6_2.length : Int) x42_3 = some (r1, r2)) ∧ Aside0 (kq ≤ k2) ∧ Aside0 (Kd.R Kd.bool 4 w' w.heap.size (fun _ => True) (.slice Ao15 x4_1.length co15) x4_3) ∧ Aside0 (Kd.R (Kd.int .i64) 3 w' w.heap.size (fun _ => True) (.slice Ao23 x6_2.length co23) x6_2) ∧ Aside0 (Kd.R (Kd.int .i64) 3 w' w.heap.size (fun _ => True) (.slice Ao23 x6_2.length co23) x6_2) ∧ Aside0 (w'.heap[gb836]? = some (.cells #[(.slice A0_0 l0_0.length c0_0)] 27 (0, 0))) ∧ Aside0 (w'.heap[gb837]? = some (.cells #[(.slice none 0 0)] 27 (0, 0))) ∧ Aside0 (Below w.heap.size w w'))
           case atStart => exact ⟨(x4_1), (false), (0), (by first | rfl | (simp; done) | (simp [*]; done)), (by first | rfl | (simp; done) | (simp [*]; done)), H', ⟨Nat.le_refl _⟩, ⟨re_ HO_4.out⟩, ⟨re_ HO_6.out⟩, ⟨re_ HO_6.out⟩, ⟨be_ BK836.out⟩, ⟨be_ BK837.out⟩, ⟨by repeat (first | (with_reducible first | exact HB.out | apply below_alloc | apply pw_below_drewN | apply below_drew1 | refine below_set ?_ GE836.out | refine below_set ?_ GE837.out) | exact HB.out)⟩⟩
           case round =>
            clear H'
            try clear c1
            try clear q1
            try clear c2
            try clear p2
            try clear c3
            try clear c4
            try clear c5
            try clear p6
            try clear c7
            try clear c8
            try clear p8
            try clear q8
            try clear hx8
            try clear c12
            try clear c16
            try clear c16b0
            try clear c17
            try clear c17b0
            try clear c18
            try clear c18b0
            try clear q19
            try clear c20
            try clear c21
            try clear hcz10_0
            try clear hcz8_0
            try clear hfz10_0
            try clear hfz8_0
            try clear hx845_0
            try clear p2
            try clear p845
            try clear q845
            obtain ⟨x4_3, x5_3, x42_3, rfl, rfl, HA, HK3, HO_4, HO_6, HO_40, BK836, BK837, HB⟩ := hrel
            have hl4_3 := (Kd.R_reads' HO_4.out).1
            rw [hl4_3] at HO_4
            (try simp only [hl4_3])
            (try simp only [hl4_3] at BK836)
            (try simp only [hl4_3] at BK837)
            (try simp only [hl4_3] at HO_6)
            (try simp only [hl4_3] at HO_40)
            cases gk with
            | zero => exact absurd HA.out (by simp [impl_ArfClosure.l2])
            | succ k3 =>
             have H := HA.out
             clear HA
             simp only [impl_ArfClosure.l2] at H
             by_cases c24 : x42_3 < (x6_2.length : Int)
             · rw [if_pos c24] at H
               have c24b0 : decide (x42_3 < (x6_2.length : Int)) = true := decide_eq_true c24
               (try (have c24h := c24b0; simp only [hl4_3] at c24h))
               clear c24
               by_cases c25 : 0 ≤ x42_3
               · rw [if_pos c25] at H
                 have c25b0 : decide (0 ≤ x42_3) = true := decide_eq_true c25
                 clear c25
                 by_cases c26 : x42_3 < (x6_2.length : Int)
                 · rw [if_pos c26] at H
                   have c26b0 : decide (x42_3 < (x6_2.length : Int)) = true := decide_eq_true c26
                   (try (have c26h := c26b0; simp only [hl4_3] at c26h))
                   clear c26
                   obtain ⟨ji27, hji27⟩ : ∃ j_ : Int, (wrap64 (x42_3 + 1)) = j_ := ⟨_, rfl⟩
                   replace H : (if 0 ≤ (ji27) then (if (ji27) ≤ (x6_2.length : Int) then ((some (x6_2.take ((ji27) : Int).toNat : List Int)).bind fun y850 => (impl_ArfClosure.l3 k3 x4_3 x5_3 x6_2 (rd x6_2 x42_3) x6_2 (x6_2.length : Int) x42_3 y850 (y850.length : Int) 0)) else (none)) else (none)) = some (r1, r2) := by first | (rw [hji27] at H; exact H) | (simp only [hji27] at H ⊢; exact H)
                   have hji27w : (IntKind.i64.wrap (x42_3 + 1)) = ji27 := (i64_w _).trans hji27
                   by_cases c28 : 0 ≤ (ji27)
                   · rw [if_pos c28] at H
                     have c28b0 := eq_true c28
                     have c28b1 : decide (0 ≤ (ji27)) = true := decide_eq_true c28
                     clear c28
                     by_cases c29 : (ji27) ≤ (x6_2.length : Int)
                     · rw [if_pos c29] at H
                       have c29b0 := eq_true c29
                       have c29b1 : decide ((ji27) ≤ (x6_2.length : Int)) = true := decide_eq_true c29
                       clear c29
                       obtain ⟨y850, hy850⟩ : ∃ y_ : List Int, y_ = (x6_2.take ((ji27) : Int).toNat) := ⟨_, rfl⟩
                       replace H : (impl_ArfClosure.l3 k3 x4_3 x5_3 x6_2 (rd x6_2 x42_3) x6_2 (x6_2.length : Int) x42_3 y850 (y850.length : Int) 0) = some (r1, r2) := by first | (rw [hy850]; with_reducible exact H) | (have H2_ := (Option.bind_some _ _).symm.trans H; rw [hy850]; with_reducible exact H2_) | (have H2_ := (Option.bind_some _ _).symm.trans H; with_reducible exact H2_) | with_reducible exact H | (rw [hy850]; exact H) | exact H
                       have Ny850 := Aside0.mk hy850
                       clear hy850
                       have H' := Aside0.mk H
                       clear H
                       have p849 : 0 ≤ (x42_3 : Int) := of_decide_eq_true (by first | (with_reducible assumption) | assumption)
                       have q849 : x42_3 < (x6_2.length : Int) := of_decide_eq_true (by first | (with_reducible assumption) | assumption)
                       obtain ⟨ad849, e849, hx849_0⟩ := Kd.at_int (Kd.R_reads' HO_40.out).2.2 x42_3 p849 q849
                       cases e849
                       replace p849 := eq_true p849
                       replace q849 := eq_true q849
                       have q30 : ((ji27) : Int) ≤ ((x6_2.length : Int) : Int) := of_decide_eq_true (by first | (with_reducible assumption) | assumption)
                       obtain ⟨i030, hi030, _, hsz30, _⟩ := info_parts info3
                       have hroom30 : x6_2.length ≤ co23 := (Kd.R_reads' HO_6.out).2.1
                       have hC30 : Kd.C (Kd.int .i64) _ (some ad849) x6_2.length x6_2 := (Kd.R_reads' HO_6.out).2.2
                       have hcut30 := cut_to (P := Try.prog) 22 3 .i64 Try.underlying22 hi030 (some ad849) x6_2.length co23 (ji27) (of_decide_eq_true (by first | (with_reducible assumption) | assumption)) q30 hroom30
                       have hr30 := Kd.C_take (m := ((ji27) : Int).toNat) hC30 (by omega)
                       have hy30 : y850.length = ((ji27) : Int).toNat := (by rw [Ny850.out, List.length_take]; omega)
                       rw [← Ny850.out] at hr30
                       rw [← hy30] at hcut30
                       have HR853 := Aside0.mk hr30
                       have HC853 := Aside0.mk (show y850.length ≤ co23 from by omega)
                       clear hr30 hC30 hroom30 hi030 hsz30
                       have KY30 := Aside0.mk hy30
                       clear hy30
                       have KL30 := Aside0.mk (show ((ji27) : Int).toNat ≤ x6_2.length from by omega)
                       replace q30 := eq_true q30
                       go_wp2
                       go_loopg [5, 52] k3 (fun kq v5 v52 w' => ∃ (x4_4 : List Bool) (x5_4 : Bool) (x52_4 : Int), v5 = .bool x5_4 ∧ v52 = .int .i64 x52_4 ∧ Aside0 (impl_ArfClosure.l3 kq x4_4 x5_4 x6_2 (rd x6_2 x42_3) x6_2 (x6_2.length : Int) x42_3 y850 (y850.length : Int) x52_4 = some (r1, r2)) ∧ Aside0 (kq ≤ k3) ∧ Aside0 (Kd.R Kd.bool 4 w' w.heap.size (fun _ => True) (.slice Ao15 x4_3.length co15) x4_4) ∧ Aside0 (Kd.R (Kd.int .i64) 3 w' w.heap.size (fun _ => True) (.slice (some ad849) x6_2.length co23) x6_2) ∧ Aside0 (Kd.R (Kd.int .i64) 3 w' w.heap.size (fun _ => True) (.slice (some ad849) x6_2.length co23) x6_2) ∧ Aside0 (w'.heap[gb836]? = some (.cells #[(.slice A0_0 l0_0.length c0_0)] 27 (0, 0))) ∧ Aside0 (w'.heap[gb837]? = some (.cells #[(.slice none 0 0)] 27 (0, 0))) ∧ Aside0 (Kd.C (Kd.int .i64) w' (some ad849) y850.length y850) ∧ Aside0 (Below w.heap.size w w'))
                       case atStart => exact ⟨(x4_3), (x5_3), (0), (by first | rfl | (simp; done) | (simp [*]; done)), (by first | rfl | (simp; done) | (simp [*]; done)), H', ⟨Nat.le_refl _⟩, ⟨by (try simp only [hl4_3]); (with_reducible repeat (first | apply Kd.R_alloc | apply Kd.R_drewN | apply Kd.R_drew)); exact HO_4.out⟩, ⟨by (try simp only [hl4_3]); (with_reducible repeat (first | apply Kd.R_alloc | apply Kd.R_drewN | apply Kd.R_drew)); exact HO_6.out⟩, ⟨by (try simp only [hl4_3]); (with_reducible repeat (first | apply Kd.R_alloc | apply Kd.R_drewN | apply Kd.R_drew)); exact HO_40.out⟩, ⟨by (try simp only [hl4_3]); (with_reducible repeat (first | refine blk_drewN ?_ _ | refine blk_drew ?_ | refine blk_alloc ?_ _)); exact BK836.out⟩, ⟨by (try simp only [hl4_3]); (with_reducible repeat (first | refine blk_drewN ?_ _ | refine blk_drew ?_ | refine blk_alloc ?_ _)); exact BK837.out⟩, ⟨by repeat (first | (with_reducible exact HR853.out) | (with_reducible refine Kd.C_alloc ?_ _) | (with_reducible refine Kd.C_drewN ?_ _) | (with_reducible refine Kd.C_drew ?_) | exact HR853.out)⟩, ⟨by repeat (first | (with_reducible first | exact HB.out | apply below_alloc | apply pw_below_drewN | apply below_drew1 | refine below_set ?_ GE836.out | refine below_set ?_ GE837.out) | exact HB.out)⟩⟩
                       case round =>
                        clear H'
                        try clear c1
                        try clear q1
                        try clear c2
                        try clear p2
                        try clear c3
                        try clear q3
                        try clear c4
                        try clear c5
                        try clear p6
                        try clear c7
                        try clear c8
                        try clear p8
                        try clear q8
                        try clear hx8
                        try clear c12
                        try clear c16
                        try clear c16b0
                        try clear c17
                        try clear c17b0
                        try clear c18
                        try clear c18b0
                        try clear q19
                        try clear c20
                        try clear c21
                        try clear c24
                        try clear c24b0
                        try clear c25
                        try clear c25b0
                        try clear c26
                        try clear c26b0
                        try clear c28
                        try clear c28b0
                        try clear c28b1
                        try clear c29
                        try clear c29b0
                        try clear c29b1
                        try clear q30
                        try clear hcz10_0
                        try clear hcz8_0
                        try clear hfz10_0
                        try clear hfz8_0
                        try clear hx845_0
                        try clear hx849_0
                        try clear p2
                        try clear p6
                        try clear p8
                        try clear p845
                        try clear p849
                        try clear q1
                        try clear q19
                        try clear q30
                        try clear q8
                        try clear q845
                        try clear q849
                        obtain ⟨x4_4, x5_4, x52_4, rfl, rfl, HA, HK4, HO_4, HO_6, HO_40, BK836, BK837, HR853, HB⟩ := hrel
                        have hl4_4 := (Kd.R_reads' HO_4.out).1
                        rw [hl4_4] at HO_4
                        (try simp only [hl4_4])
                        (try simp only [hl4_4] at BK836)
                        (try simp only [hl4_4] at BK837)
                        (try simp only [hl4_4] at HO_6)
                        (try simp only [hl4_4] at HO_40)
                        cases gk with
                        | zero => exact absurd HA.out (by simp [impl_ArfClosure.l3])
                        | succ k4 =>
                         have H := HA.out
                         clear HA
                         simp only [impl_ArfClosure.l3] at H
                         by_cases c31 : x52_4 < (y850.length : Int)
                         · rw [if_pos c31] at H
                           have c31b0 : decide (x52_4 < (y850.length : Int)) = true := decide_eq_true c31
                           (try (have c31h := c31b0; simp only [hl4_3, hl4_4] at c31h))
                           clear c31
                           by_cases c32 : 0 ≤ x52_4
                           · rw [if_pos c32] at H
                             have c32b0 : decide (0 ≤ x52_4) = true := decide_eq_true c32
                             clear c32
                             by_cases c33 : x52_4 < (y850.length : Int)
                             · rw [if_pos c33] at H
                               have c33b0 : decide (x52_4 < (y850.length : Int)) = true := decide_eq_true c33
                               (try (have c33h := c33b0; simp only [hl4_3, hl4_4] at c33h))
                               clear c33
                               obtain ⟨ji34, hji34⟩ : ∃ j_ : Int, (wrap64 (x52_4 + 1)) = j_ := ⟨_, rfl⟩
                               replace H : (if 0 ≤ (ji34) then (if (ji34) ≤ (x6_2.length : Int) then ((some (x6_2.take ((ji34) : Int).toNat : List Int)).bind fun y855 => (impl_ArfClosure.l4 k4 x4_4 x5_4 x6_2 (rd x6_2 x42_3) (rd y850 x52_4) x6_2 (x6_2.length : Int) x42_3 y850 (y850.length : Int) x52_4 y855 (y855.length : Int) 0)) else (none)) else (none)) = some (r1, r2) := by first | (rw [hji34] at H; exact H) | (simp only [hji34] at H ⊢; exact H)
                               have hji34w : (IntKind.i64.wrap (x52_4 + 1)) = ji34 := (i64_w _).trans hji34
                               by_cases c35 : 0 ≤ (ji34)
                               · rw [if_pos c35] at H
                                 have c35b0 := eq_true c35
                                 have c35b1 : decide (0 ≤ (ji34)) = true := decide_eq_true c35
                                 clear c35
                                 by_cases c36 : (ji34) ≤ (x6_2.length : Int)
                                 · rw [if_pos c36] at H
                                   have c36b0 := eq_true c36
                                   have c36b1 : decide ((ji34) ≤ (x6_2.length : Int)) = true := decide_eq_true c36
                                   clear c36
                                   obtain ⟨y855, hy855⟩ : ∃ y_ : List Int, y_ = (x6_2.take ((ji34) : Int).toNat) := ⟨_, rfl⟩
                                   replace H : (impl_ArfClosure.l4 k4 x4_4 x5_4 x6_2 (rd x6_2 x42_3) (rd y850 x52_4) x6_2 (x6_2.length : Int) x42_3 y850 (y850.length : Int) x52_4 y855 (y855.length : Int) 0) = some (r1, r2) := by first | (rw [hy855]; with_reducible exact H) | (have H2_ := (Option.bind_some _ _).symm.trans H; rw [hy855]; with_reducible exact H2_) | (have H2_ := (Option.bind_some _ _).symm.trans H; with_reducible exact H2_) | with_reducible exact H | (rw [hy855]; exact H) | exact H
                                   have Ny855 := Aside0.mk hy855
                                   clear hy855
                                   have H' := Aside0.mk H
                                   clear H
                                   have p854 : 0 ≤ (x52_4 : Int) := of_decide_eq_true (by first | (with_reducible assumption) | assumption)
                                   have q854 : x52_4 < (y850.length : Int) := of_decide_eq_true (by first | (with_reducible assumption) | assumption)
                                   obtain ⟨ad854, e854, hx854_0⟩ := Kd.at_int HR853.out x52_4 p854 q854
                                   obtain rfl : ad849 = ad854 := (by injection e854)
                                   (try replace hx854_0 := (HB.out.cell (World.block_lt_of_cell? w _ hx854_0)).trans hx854_0)
                                   replace p854 := eq_true p854
                                   replace q854 := eq_true q854
                                   have q37 : ((ji34) : Int) ≤ ((x6_2.length : Int) : Int) := of_decide_eq_true (by first | (with_reducible assumption) | assumption)
                                   obtain ⟨i037, hi037, _, hsz37, _⟩ := info_parts info3
                                   have hroom37 : x6_2.length ≤ co23 := (Kd.R_reads' HO_6.out).2.1
                                   have hC37 : Kd.C (Kd.int .i64) _ (some ad849) x6_2.length x6_2 := (Kd.R_reads' HO_6.out).2.2
                                   have hcut37 := cut_to (P := Try.prog) 22 3 .i64 Try.underlying22 hi037 (some ad849) x6_2.length co23 (ji34) (of_decide_eq_true (by first | (with_reducible assumption) | assumption)) q37 hroom37
                                   have hr37 := Kd.C_take (m := ((ji34) : Int).toNat) hC37 (by omega)
                                   have hy37 : y855.length = ((ji34) : Int).toNat := (by rw [Ny855.out, List.length_take]; omega)
                                   rw [← Ny855.out] at hr37
                                   rw [← hy37] at hcut37
                                   have HR858 := Aside0.mk hr37
                                   have HC858 := Aside0.mk (show y855.length ≤ co23 from by omega)
                                   clear hr37 hC37 hroom37 hi037 hsz37
                                   have KY37 := Aside0.mk hy37
                                   clear hy37
                                   have KL37 := Aside0.mk (show ((ji34) : Int).toNat ≤ x6_2.length from by omega)
                                   replace q37 := eq_true q37
                                   go_wp2
                                   go_loopg [5, 62] k4 (fun kq v5 v62 w' => ∃ (x4_5 : List Bool) (x5_5 : Bool) (x62_5 : Int), v5 = .bool x5_5 ∧ v62 = .int .i64 x62_5 ∧ Aside0 (impl_ArfClosure.l4 kq x4_5 x5_5 x6_2 (rd x6_2 x42_3) (rd y850 x52_4) x6_2 (x6_2.length : Int) x42_3 y850 (y850.length : Int) x52_4 y855 (y855.length : Int) x62_5 = some (r1, r2)) ∧ Aside0 (kq ≤ k4) ∧ Aside0 (Kd.R Kd.bool 4 w' w.heap.size (fun _ => True) (.slice Ao15 x4_4.length co15) x4_5) ∧ Aside0 (Kd.R (Kd.int .i64) 3 w' w.heap.size (fun _ => True) (.slice (some ad849) x6_2.length co23) x6_2) ∧ Aside0 (Kd.R (Kd.int .i64) 3 w' w.heap.size (fun _ => True) (.slice (some ad849) x6_2.length co23) x6_2) ∧ Aside0 (w'.heap[gb836]? = some (.cells #[(.slice A0_0 l0_0.length c0_0)] 27 (0, 0))) ∧ Aside0 (w'.heap[gb837]? = some (.cells #[(.slice none 0 0)] 27 (0, 0))) ∧ Aside0 (Kd.C (Kd.int .i64) w' (some ad849) y850.length y850) ∧ Aside0 (Kd.C (Kd.int .i64) w' (some ad849) y855.length y855) ∧ Aside0 (Below w.heap.size w w'))
                                   case atStart => exact ⟨(x4_4), (x5_4), (0), (by first | rfl | (simp; done) | (simp [*]; done)), (by first | rfl | (simp; done) | (simp [*]; done)), H', ⟨Nat.le_refl _⟩, ⟨by (try simp only [hl4_3]); (try simp only [hl4_4]); (with_reducible repeat (first | apply Kd.R_alloc | apply Kd.R_drewN | apply Kd.R_drew)); exact HO_4.out⟩, ⟨by (try simp only [hl4_3]); (try simp only [hl4_4]); (with_reducible repeat (first | apply Kd.R_alloc | apply Kd.R_drewN | apply Kd.R_drew)); exact HO_6.out⟩, ⟨by (try simp only [hl4_3]); (try simp only [hl4_4]); (with_reducible repeat (first | apply Kd.R_alloc | apply Kd.R_drewN | apply Kd.R_drew)); exact HO_40.out⟩, ⟨by (try simp only [hl4_3]); (try simp only [hl4_4]); (with_reducible repeat (first | refine blk_drewN ?_ _ | refine blk_drew ?_ | refine blk_alloc ?_ _)); exact BK836.out⟩, ⟨by (try simp only [hl4_3]); (try simp only [hl4_4]); (with_reducible repeat (first | refine blk_drewN ?_ _ | refine blk_drew ?_ | refine blk_alloc ?_ _)); exact BK837.out⟩, ⟨by repeat (first | (with_reducible exact HR853.out) | (with_reducible refine Kd.C_alloc ?_ _) | (with_reducible refine Kd.C_drewN ?_ _) | (with_reducible refine Kd.C_drew ?_) | exact HR853.out)⟩, ⟨by repeat (first | (with_reducible exact HR858.out) | (with_reducible refine Kd.C_alloc ?_ _) | (with_reducible refine Kd.C_drewN ?_ _) | (with_reducible refine Kd.C_drew ?_) | exact HR858.out)⟩, ⟨by repeat (first | (with_reducible first | exact HB.out | apply below_alloc | apply pw_below_drewN | apply below_drew1 | refine below_set ?_ GE836.out | refine below_set ?_ GE837.out) | exact HB.out)⟩⟩
                                   case round =>
                                    clear H'
                                    try clear c1
                                    try clear q1
                                    try clear c2
                                    try clear p2
                                    try clear c3
                                    try clear q3
                                    try clear c4
                                    try clear c5
                                    try clear p6
                                    try clear c7
                                    try clear c8
                                    try clear p8
                                    try clear q8
                                    try clear hx8
                                    try clear c12
                                    try clear c16
                                    try clear c16b0
                                    try clear c17
                                    try clear c17b0
                                    try clear c18
                                    try clear c18b0
                                    try clear q19
                                    try clear c20
                                    try clear c21
                                    try clear c24
                                    try clear c24b0
                                    try clear c25
                                    try clear c25b0
                                    try clear c26
                                    try clear c26b0
                                    try clear c28
                                    try clear c28b0
                                    try clear c28b1
                                    try clear c29
                                    try clear c29b0
                                    try clear c29b1
                                    try clear q30
                                    try clear c31
                                    try clear c31b0
                                    try clear c32
                                    try clear c32b0
                                    try clear c33
                                    try clear c33b0
                                    try clear c35
                                    try clear c35b0
                                    try clear c35b1
                                    try clear c36
                                    try clear c36b0
                                    try clear c36b1
                                    try clear q37
                                    try clear hcz10_0
                                    try clear hcz8_0
                                    try clear hfz10_0
                                    try clear hfz8_0
                                    try clear hx845_0
                                    try clear hx849_0
                                    try clear hx854_0
                                    try clear p2
                                    try clear p6
                                    try clear p8
                                    try clear p845
                                    try clear p849
                                    try clear p854
                                    try clear q1
                                    try clear q19
                                    try clear q3
                                    try clear q30
                                    try clear q37
                                    try clear q8
                                    try clear q845
                                    try clear q849
                                    try clear q854
                                    obtain ⟨x4_5, x5_5, x62_5, rfl, rfl, HA, HK5, HO_4, HO_6, HO_40, BK836, BK837, HR853, HR858, HB⟩ := hrel
                                    have hl4_5 := (Kd.R_reads' HO_4.out).1
                                    rw [hl4_5] at HO_4
                                    (try simp only [hl4_5])
                                    (try simp only [hl4_5] at BK836)
                                    (try simp only [hl4_5] at BK837)
                                    (try simp only [hl4_5] at HO_6)
                                    (try simp only [hl4_5] at HO_40)
                                    cases gk with
                                    | zero => exact absurd HA.out (by simp [impl_ArfClosure.l4])
                                    | succ k5 =>
                                     have H := HA.out
                                     clear HA
                                     simp only [impl_ArfClosure.l4] at H
                                     by_cases c38 : x62_5 < (y855.length : Int)
                                     · rw [if_pos c38] at H
                                       have c38b0 : decide (x62_5 < (y855.length : Int)) = true := decide_eq_true c38
                                       (try (have c38h := c38b0; simp only [hl4_3, hl4_4, hl4_5] at c38h))
                                       clear c38
                                       by_cases c39 : 0 ≤ x62_5
                                       · rw [if_pos c39] at H
                                         have c39b0 : decide (0 ≤ x62_5) = true := decide_eq_true c39
                                         clear c39
                                         by_cases c40 : x62_5 < (y855.length : Int)
                                         · rw [if_pos c40] at H
                                           have c40b0 : decide (x62_5 < (y855.length : Int)) = true := decide_eq_true c40
                                           (try (have c40h := c40b0; simp only [hl4_3, hl4_4, hl4_5] at c40h))
                                           clear c40
                                           by_cases c41 : (wrap64 ((wrap64 ((rd x6_2 x42_3) + (rd y850 x52_4))) - (rd y855 x62_5))) < (x4_5.length : Int)
                                           · rw [if_pos c41] at H
                                             have c41b0 : decide ((wrap64 ((wrap64 ((rd x6_2 x42_3) + (rd y850 x52_4))) - (rd y855 x62_5))) < (x4_5.length : Int)) = true := decide_eq_true c41
                                             (try (have c41h := c41b0; simp only [hl4_3, hl4_4, hl4_5] at c41h))
                                             clear c41
                                             obtain ⟨ji42, hji42⟩ : ∃ j_ : Int, (wrap64 ((wrap64 ((rd x6_2 x42_3) + (rd y850 x52_4))) - (rd y855 x62_5))) = j_ := ⟨_, rfl⟩
                                             replace H : (if 0 ≤ (ji42) then (if (rdOf false x4_5 (ji42) = true) then (impl_ArfClosure.l4 k5 x4_5 x5_5 x6_2 (rd x6_2 x42_3) (rd y850 x52_4) x6_2 (x6_2.length : Int) x42_3 y850 (y850.length : Int) x52_4 y855 (y855.length : Int) (wrap64 (x62_5 + 1))) else (impl_ArfClosure.l4 k5 (x4_5.set ((ji42) : Int).toNat true) true x6_2 (rd x6_2 x42_3) (rd y850 x52_4) x6_2 (x6_2.length : Int) x42_3 y850 (y850.length : Int) x52_4 y855 (y855.length : Int) (wrap64 (x62_5 + 1)))) else (none)) = some (r1, r2) := by first | (rw [hji42] at H; exact H) | (simp only [hji42] at H ⊢; exact H)
                                             (try rw [hji42] at c41b0)
                                             have hji42w : (IntKind.i64.wrap ((wrap64 ((rd x6_2 x42_3) + (rd y850 x52_4))) - (rd y855 x62_5))) = ji42 := (i64_w _).trans hji42
                                             by_cases c43 : 0 ≤ (ji42)
                                             · rw [if_pos c43] at H
                                               have c43b0 : decide (0 ≤ (ji42)) = true := decide_eq_true c43
                                               clear c43
                                               obtain ⟨bq44, hbq44⟩ : ∃ b_ : Bool, b_ = (rdOf false x4_5 (ji42)) := ⟨_, rfl⟩
                                               replace H : (if (bq44 = true) then (impl_ArfClosure.l4 k5 x4_5 x5_5 x6_2 (rd x6_2 x42_3) (rd y850 x52_4) x6_2 (x6_2.length : Int) x42_3 y850 (y850.length : Int) x52_4 y855 (y855.length : Int) (wrap64 (x62_5 + 1))) else (impl_ArfClosure.l4 k5 (x4_5.set ((ji42) : Int).toNat true) true x6_2 (rd x6_2 x42_3) (rd y850 x52_4) x6_2 (x6_2.length : Int) x42_3 y850 (y850.length : Int) x52_4 y855 (y855.length : Int) (wrap64 (x62_5 + 1)))) = some (r1, r2) := by rw [← hbq44] at H; exact H
                                               have Nbq44 := Aside0.mk hbq44
                                               clear hbq44
                                               by_cases c45 : (bq44 = true)
                                               · subst c45
                                                 have H1 : (impl_ArfClosure.l4 k5 x4_5 x5_5 x6_2 (rd x6_2 x42_3) (rd y850 x52_4) x6_2 (x6_2.length : Int) x42_3 y850 (y850.length : Int) x52_4 y855 (y855.length : Int) (wrap64 (x62_5 + 1))) = some (r1, r2) := by rw [if_pos rfl] at H; exact H
                                                 clear H
                                                 have H := H1
                                                 clear H1
                                                 have H' := Aside0.mk H
                                                 clear H
                                                 have p859 : 0 ≤ (x62_5 : Int) := of_decide_eq_true (by first | (with_reducible assumption) | assumption)
                                                 have q859 : x62_5 < (y855.length : Int) := of_decide_eq_true (by first | (with_reducible assumption) | assumption)
                                                 obtain ⟨ad859, e859, hx859_0⟩ := Kd.at_int HR858.out x62_5 p859 q859
                                                 obtain rfl : ad849 = ad859 := (by injection e859)
                                                 (try replace hx859_0 := (HB.out.cell (World.block_lt_of_cell? w _ hx859_0)).trans hx859_0)
                                                 replace p859 := eq_true p859
                                                 replace q859 := eq_true q859
                                                 have p860 : 0 ≤ ((ji42) : Int) := of_decide_eq_true (by first | (with_reducible assumption) | assumption)
                                                 have q860 : (ji42) < (x4_5.length : Int) := of_decide_eq_true (by first | (with_reducible assumption) | assumption)
                                                 obtain ⟨ad860, e860, hx860_0⟩ := Kd.at_bool (Kd.R_reads' HO_4.out).2.2 (ji42) p860 q860
                                                 (try rw [← Nbq44.out] at hx860_0)
                                                 cases e860
                                                 replace p860 := eq_true p860
                                                 replace q860 := eq_true q860
                                                 go_wp2
                                                 (try simp only [← hl4_5])
                                                 go_roundg k5
                                                 case measure => have := HK1.out; have := HK2.out; have := HK3.out; have := HK4.out; have := HK5.out; omega
                                                 case rel => exact ⟨(x4_5), (x5_5), (wrap64 (x62_5 + 1)), (by first | rfl | (simp; done) | (simp [*]; done)), (by first | rfl | (simp; done) | (simp [*]; done)), H', ⟨by have := HK1.out; have := HK2.out; have := HK3.out; have := HK4.out; have := HK5.out; omega⟩, ⟨by (try simp only [hl4_3]); (try simp only [hl4_4]); (try simp only [hl4_5]); (with_reducible repeat (first | apply Kd.R_alloc | apply Kd.R_drewN | apply Kd.R_drew)); exact HO_4.out⟩, ⟨by (try simp only [hl4_3]); (try simp only [hl4_4]); (try simp only [hl4_5]); (with_reducible repeat (first | apply Kd.R_alloc | apply Kd.R_drewN | apply Kd.R_drew)); exact HO_6.out⟩, ⟨by (try simp only [hl4_3]); (try simp only [hl4_4]); (try simp only [hl4_5]); (with_reducible repeat (first | apply Kd.R_alloc | apply Kd.R_drewN | apply Kd.R_drew)); exact HO_40.out⟩, ⟨by (try simp only [hl4_3]); (try simp only [hl4_4]); (try simp only [hl4_5]); (with_reducible repeat (first | refine blk_drewN ?_ _ | refine blk_drew ?_ | refine blk_alloc ?_ _)); exact BK836.out⟩, ⟨by (try simp only [hl4_3]); (try simp only [hl4_4]); (try simp only [hl4_5]); (with_reducible repeat (first | refine blk_drewN ?_ _ | refine blk_drew ?_ | refine blk_alloc ?_ _)); exact BK837.out⟩, ⟨by repeat (first | (with_reducible exact HR853.out) | (with_reducible refine Kd.C_alloc ?_ _) | (with_reducible refine Kd.C_drewN ?_ _) | (with_reducible refine Kd.C_drew ?_) | exact HR853.out)⟩, ⟨by repeat (first | (with_reducible exact HR858.out) | (with_reducible refine Kd.C_alloc ?_ _) | (with_reducible refine Kd.C_drewN ?_ _) | (with_reducible refine Kd.C_drew ?_) | exact HR858.out)⟩, ⟨by repeat (first | (with_reducible first | exact HB.out | apply below_alloc | apply pw_below_drewN | apply below_drew1 | refine below_set ?_ GE836.out | refine below_set ?_ GE837.out) | exact HB.out)⟩⟩
                                               · replace c45 := Bool.eq_false_iff.mpr c45
                                                 subst c45
                                                 have H1 : (impl_ArfClosure.l4 k5 (x4_5.set ((ji42) : Int).toNat true) true x6_2 (rd x6_2 x42_3) (rd y850 x52_4) x6_2 (x6_2.length : Int) x42_3 y850 (y850.length : Int) x52_4 y855 (y855.length : Int) (wrap64 (x62_5 + 1))) = some (r1, r2) := by rw [if_neg (show ¬ (false = true) by decide)] at H; exact H
                                                 clear H
                                                 have H := H1
                                                 clear H1
                                                 obtain ⟨y861, hy861⟩ : ∃ y_ : List Bool, y_ = (x4_5.set ((ji42) : Int).toNat true) := ⟨_, rfl⟩
                                                 replace H : (impl_ArfClosure.l4 k5 y861 true x6_2 (rd x6_2 x42_3) (rd y850 x52_4) x6_2 (x6_2.length : Int) x42_3 y850 (y850.length : Int) x52_4 y855 (y855.length : Int) (wrap64 (x62_5 + 1))) = some (r1, r2) := by first | (rw [hy861]; with_reducible exact H) | (have H2_ := (Option.bind_some _ _).symm.trans H; rw [hy861]; with_reducible exact H2_) | (have H2_ := (Option.bind_some _ _).symm.trans H; with_reducible exact H2_) | with_reducible exact H | (rw [hy861]; exact H) | exact H
                                                 have Ny861 := Aside0.mk hy861
                                                 clear hy861
                                                 have H' := Aside0.mk H
                                                 clear H
                                                 have p859 : 0 ≤ (x62_5 : Int) := of_decide_eq_true (by first | (with_reducible assumption) | assumption)
                                                 have q859 : x62_5 < (y855.length : Int) := of_decide_eq_true (by first | (with_reducible assumption) | assumption)
                                                 obtain ⟨ad859, e859, hx859_0⟩ := Kd.at_int HR858.out x62_5 p859 q859
                                                 obtain rfl : ad849 = ad859 := (by injection e859)
                                                 (try replace hx859_0 := (HB.out.cell (World.block_lt_of_cell? w _ hx859_0)).trans hx859_0)
                                                 replace p859 := eq_true p859
                                                 replace q859 := eq_true q859
                                                 have p860 : 0 ≤ ((ji42) : Int) := of_decide_eq_true (by first | (with_reducible assumption) | assumption)
                                                 have q860 : (ji42) < (x4_5.length : Int) := of_decide_eq_true (by first | (with_reducible assumption) | assumption)
                                                 obtain ⟨ad860, e860, hx860_0⟩ := Kd.at_bool (Kd.R_reads' HO_4.out).2.2 (ji42) p860 q860
                                                 (try rw [← Nbq44.out] at hx860_0)
                                                 cases e860
                                                 replace p860 := eq_true p860
                                                 replace q860 := eq_true q860
                                                 have p46 : 0 ≤ ((ji42) : Int) := of_decide_eq_true (by first | (with_reducible assumption) | assumption)
                                                 have q46 : ((ji42) : Int) < ((x4_5.length : Int) : Int) := of_decide_eq_true (by first | (with_reducible assumption) | assumption)
                                                 obtain ⟨go46, co46, eo46, gb46, gl46, cl46, HG46⟩ := Kd.R_form HO_4.out (by omega)
                                                 (first | cases eo46 | (injection eo46 with ea_ en_ ec_; (first | subst ea_ | (injection ea_ with ea_; subst ea_)); subst ec_; clear en_))
                                                 have GB46 := Aside0.mk gb46
                                                 have GG46 := Aside0.mk HG46
                                                 clear gb46 gl46 HG46
                                                 (first | simp only [add_plain] at hx860_0 | skip)
                                                 obtain ⟨hx46_0, hf46_0⟩ := Kd.R_celln false HO_4.out ((ji42) : Int) p46 q46
                                                 replace p46 := eq_true p46
                                                 replace q46 := eq_true q46
                                                 have HP47 := Kd.R_putg HO_4.out ((ji42) : Int) true
                                                 go_wp2_with (first | ((with_reducible refine gate_store (t := 4) (p := 84) rfl ?_); refine store_event (t := 4) (p := 84) (v := ?vo_w48) (w1 := (wr.setCell ⟨go46, ((ji42) : Int).toNat, none⟩ (.bool true))) ?hg ?ho ?hn ?hr ?_; (case ho => rfl); (case hg => rfl); (case hn => rfl); (case hr => first | (go_simp; done) | (go_simp; rfl)); intro w48 hw; have hg : wr.grownBy w48 (some go46) := (by rw [hw]; exact HP47.2); have hp_ : Kd.R Kd.bool 4 w48 w.heap.size (fun _ => True) (.slice (some ⟨go46, 0, none⟩) x4_5.length co15) y861 := (by rw [hw, Ny861.out]; exact HP47.1); clear HP47; have n0_ := Aside0.mk (hp_); have n1_ := Aside0.mk (Kd.R_over' (v := (.slice (some ⟨go46, 0, none⟩) x4_5.length co15)) (re_ HO_6.out) (Kd.R_typed HO_4.out) (by decide) hg); have n2_ := Aside0.mk (Kd.R_over' (v := (.slice (some ⟨go46, 0, none⟩) x4_5.length co15)) (re_ HO_40.out) (Kd.R_typed HO_4.out) (by decide) hg); have n3_ := Aside0.mk (blk_grown (g := gb836) (o := .cells #[.slice A0_0 l0_0.length c0_0] 27 (0, 0)) (be_ BK836.out) hg (Kd.R_ne HO_4.out BK836.out (by decide))); have n4_ := Aside0.mk (blk_grown (g := gb837) (o := .cells #[.slice none 0 0] 27 (0, 0)) (be_ BK837.out) hg (Kd.R_ne HO_4.out BK837.out (by decide))); have n5_ := Aside0.mk ((by rw [hw]; exact below_set (HB.out) GB46.out : Below w.heap.size w w48)); have n6_ := Aside0.mk ((show Kd.C (Kd.int .i64) w48 (some ad849) y850.length y850 from by rw [Ny850.out]; exact Kd.C_take (m := ((ji27) : Int).toNat) ((Kd.R_reads' (Kd.R_over' (v := (.slice (some ⟨go46, 0, none⟩) x4_5.length co15)) (re_ HO_6.out) (Kd.R_typed HO_4.out) (by decide) hg)).2.2) KL30.out)); have n7_ := Aside0.mk ((show Kd.C (Kd.int .i64) w48 (some ad849) y855.length y855 from by rw [Ny855.out]; exact Kd.C_take (m := ((ji34) : Int).toNat) ((Kd.R_reads' (Kd.R_over' (v := (.slice (some ⟨go46, 0, none⟩) x4_5.length co15)) (re_ HO_6.out) (Kd.R_typed HO_4.out) (by decide) hg)).2.2) KL37.out)); clear HO_4; clear HO_6; clear HO_40; clear BK836; clear BK837; clear HB; clear HR853; clear HR858; have HO_4 := n0_; have HO_6 := n1_; have HO_40 := n2_; have BK836 := n3_; have BK837 := n4_; have HB := n5_; have HR853 := n6_; have HR858 := n7_; clear n0_ n1_ n2_ n3_ n4_ n5_ n6_ n7_; clear hg hw hp_))
                                                 (try simp only [← hl4_5])
                                                 go_roundg k5
                                                 case measure => have := HK1.out; have := HK2.out; have := HK3.out; have := HK4.out; have := HK5.out; omega
                                                 case rel => exact ⟨(y861), (true), (wrap64 (x62_5 + 1)), (by first | rfl | (simp; done) | (simp [*]; done)), (by first | rfl | (simp; done) | (simp [*]; done)), H', ⟨by have := HK1.out; have := HK2.out; have := HK3.out; have := HK4.out; have := HK5.out; omega⟩, ⟨by (try simp only [hl4_3]); (try simp only [hl4_4]); (try simp only [hl4_5]); (with_reducible repeat (first | apply Kd.R_alloc | apply Kd.R_drewN | apply Kd.R_drew)); exact HO_4.out⟩, ⟨by (try simp only [hl4_3]); (try simp only [hl4_4]); (try simp only [hl4_5]); (with_reducible repeat (first | apply Kd.R_alloc | apply Kd.R_drewN | apply Kd.R_drew)); exact HO_6.out⟩, ⟨by (try simp only [hl4_3]); (try simp only [hl4_4]); (try simp only [hl4_5]); (with_reducible repeat (first | apply Kd.R_alloc | apply Kd.R_drewN | apply Kd.R_drew)); exact HO_40.out⟩, ⟨by (try simp only [hl4_3]); (try simp only [hl4_4]); (try simp only [hl4_5]); (with_reducible repeat (first | refine blk_drewN ?_ _ | refine blk_drew ?_ | refine blk_alloc ?_ _)); exact BK836.out⟩, ⟨by (try simp only [hl4_3]); (try simp only [hl4_4]); (try simp only [hl4_5]); (with_reducible repeat (first | refine blk_drewN ?_ _ | refine blk_drew ?_ | refine blk_alloc ?_ _)); exact BK837.out⟩, ⟨by repeat (first | (with_reducible exact HR853.out) | (with_reducible refine Kd.C_alloc ?_ _) | (with_reducible refine Kd.C_drewN ?_ _) | (with_reducible refine Kd.C_drew ?_) | exact HR853.out)⟩, ⟨by repeat (first | (with_reducible exact HR858.out) | (with_reducible refine Kd.C_alloc ?_ _) | (with_reducible refine Kd.C_drewN ?_ _) | (with_reducible refine Kd.C_drew ?_) | exact HR858.out)⟩, ⟨by repeat (first | (with_reducible first | exact HB.out | apply below_alloc | apply pw_below_drewN | apply below_drew1 | refine below_set ?_ GE836.out | refine below_set ?_ GE837.out) | exact HB.out)⟩⟩
                                             · rw [if_neg c43] at H
                                               exact absurd H (by simp)
                                           · rw [if_neg c41] at H
                                             have c41b0 : decide ((wrap64 ((wrap64 ((rd x6_2 x42_3) + (rd y850 x52_4))) - (rd y855 x62_5))) < (x4_5.length : Int)) = false := decide_eq_false c41
                                             (try (have c41h := c41b0; simp only [hl4_3, hl4_4, hl4_5] at c41h))
                                             clear c41
                                             have H' := Aside0.mk H
                                             clear H
                                             have p859 : 0 ≤ (x62_5 : Int) := of_decide_eq_true (by first | (with_reducible assumption) | assumption)
                                             have q859 : x62_5 < (y855.length : Int) := of_decide_eq_true (by first | (with_reducible assumption) | assumption)
                                             obtain ⟨ad859, e859, hx859_0⟩ := Kd.at_int HR858.out x62_5 p859 q859
                                             obtain rfl : ad849 = ad859 := (by injection e859)
                                             (try replace hx859_0 := (HB.out.cell (World.block_lt_of_cell? w _ hx859_0)).trans hx859_0)
                                             replace p859 := eq_true p859
                                             replace q859 := eq_true q859
                                             go_wp2
                                             (try simp only [← hl4_5])
                                             go_roundg k5
                                             case measure => have := HK1.out; have := HK2.out; have := HK3.out; have := HK4.out; have := HK5.out; omega
                                             case rel => exact ⟨(x4_5), (x5_5), (wrap64 (x62_5 + 1)), (by first | rfl | (simp; done) | (simp [*]; done)), (by first | rfl | (simp; done) | (simp [*]; done)), H', ⟨by have := HK1.out; have := HK2.out; have := HK3.out; have := HK4.out; have := HK5.out; omega⟩, ⟨by (try simp only [hl4_3]); (try simp only [hl4_4]); (try simp only [hl4_5]); (with_reducible repeat (first | apply Kd.R_alloc | apply Kd.R_drewN | apply Kd.R_drew)); exact HO_4.out⟩, ⟨by (try simp only [hl4_3]); (try simp only [hl4_4]); (try simp only [hl4_5]); (with_reducible repeat (first | apply Kd.R_alloc | apply Kd.R_drewN | apply Kd.R_drew)); exact HO_6.out⟩, ⟨by (try simp only [hl4_3]); (try simp only [hl4_4]); (try simp only [hl4_5]); (with_reducible repeat (first | apply Kd.R_alloc | apply Kd.R_drewN | apply Kd.R_drew)); exact HO_40.out⟩, ⟨by (try simp only [hl4_3]); (try simp only [hl4_4]); (try simp only [hl4_5]); (with_reducible repeat (first | refine blk_drewN ?_ _ | refine blk_drew ?_ | refine blk_alloc ?_ _)); exact BK836.out⟩, ⟨by (try simp only [hl4_3]); (try simp only [hl4_4]); (try simp only [hl4_5]); (with_reducible repeat (first | refine blk_drewN ?_ _ | refine blk_drew ?_ | refine blk_alloc ?_ _)); exact BK837.out⟩, ⟨by repeat (first | (with_reducible exact HR853.out) | (with_reducible refine Kd.C_alloc ?_ _) | (with_reducible refine Kd.C_drewN ?_ _) | (with_reducible refine Kd.C_drew ?_) | exact HR853.out)⟩, ⟨by repeat (first | (with_reducible exact HR858.out) | (with_reducible refine Kd.C_alloc ?_ _) | (with_reducible refine Kd.C_drewN ?_ _) | (with_reducible refine Kd.C_drew ?_) | exact HR858.out)⟩, ⟨by repeat (first | (with_reducible first | exact HB.out | apply below_alloc | apply pw_below_drewN | apply below_drew1 | refine below_set ?_ GE836.out | refine below_set ?_ GE837.out) | exact HB.out)⟩⟩
                                         · rw [if_neg c40] at H
                                           exact absurd H (by simp)
                                       · rw [if_neg c39] at H
                                         exact absurd H (by simp)
                                     · rw [if_neg c38] at H
                                       have c38b0 : decide (x62_5 < (y855.length : Int)) = false := decide_eq_false c38
                                       (try (have c38h := c38b0; simp only [hl4_3, hl4_4, hl4_5] at c38h))
                                       clear c38
                                       have H' := Aside0.mk H
                                       clear H
                                       go_wp2
                                       (try simp only [← hl4_4, ← hl4_5])
                                       go_roundg k5
                                       case measure => have := HK1.out; have := HK2.out; have := HK3.out; have := HK4.out; have := HK5.out; omega
                                       case rel => exact ⟨(x4_5), (x5_5), (wrap64 (x52_4 + 1)), (by first | rfl | (simp; done) | (simp [*]; done)), (by first | rfl | (simp; done) | (simp [*]; done)), H', ⟨by have := HK1.out; have := HK2.out; have := HK3.out; have := HK4.out; have := HK5.out; omega⟩, ⟨by (try simp only [hl4_3]); (try simp only [hl4_4]); (try simp only [hl4_5]); (with_reducible repeat (first | apply Kd.R_alloc | apply Kd.R_drewN | apply Kd.R_drew)); exact HO_4.out⟩, ⟨by (try simp only [hl4_3]); (try simp only [hl4_4]); (try simp only [hl4_5]); (with_reducible repeat (first | apply Kd.R_alloc | apply Kd.R_drewN | apply Kd.R_drew)); exact HO_6.out⟩, ⟨by (try simp only [hl4_3]); (try simp only [hl4_4]); (try simp only [hl4_5]); (with_reducible repeat (first | apply Kd.R_alloc | apply Kd.R_drewN | apply Kd.R_drew)); exact HO_40.out⟩, ⟨by (try simp only [hl4_3]); (try simp only [hl4_4]); (try simp only [hl4_5]); (with_reducible repeat (first | refine blk_drewN ?_ _ | refine blk_drew ?_ | refine blk_alloc ?_ _)); exact BK836.out⟩, ⟨by (try simp only [hl4_3]); (try simp only [hl4_4]); (try simp only [hl4_5]); (with_reducible repeat (first | refine blk_drewN ?_ _ | refine blk_drew ?_ | refine blk_alloc ?_ _)); exact BK837.out⟩, ⟨by repeat (first | (with_reducible exact HR853.out) | (with_reducible refine Kd.C_alloc ?_ _) | (with_reducible refine Kd.C_drewN ?_ _) | (with_reducible refine Kd.C_drew ?_) | exact HR853.out)⟩, ⟨by repeat (first | (with_reducible first | exact HB.out | apply below_alloc | apply pw_below_drewN | apply below_drew1 | refine below_set ?_ GE836.out | refine below_set ?_ GE837.out) | exact HB.out)⟩⟩
                                 · rw [if_neg c36] at H
                                   exact absurd H (by simp)
                               · rw [if_neg c35] at H
                                 exact absurd H (by simp)
                             · rw [if_neg c33] at H
                               exact absurd H (by simp)
                           · rw [if_neg c32] at H
                             exact absurd H (by simp)
                         · rw [if_neg c31] at H
                           have c31b0 : decide (x52_4 < (y850.length : Int)) = false := decide_eq_false c31
                           (try (have c31h := c31b0; simp only [hl4_3, hl4_4] at c31h))
                           clear c31
                           have H' := Aside0.mk H
                           clear H
                           go_wp2
                           (try simp only [← hl4_3, ← hl4_4])
                           go_roundg k4
                           case measure => have := HK1.out; have := HK2.out; have := HK3.out; have := HK4.out; omega
                           case rel => exact ⟨(x4_4), (x5_4), (wrap64 (x42_3 + 1)), (by first | rfl | (simp; done) | (simp [*]; done)), (by first | rfl | (simp; done) | (simp [*]; done)), H', ⟨by have := HK1.out; have := HK2.out; have := HK3.out; have := HK4.out; omega⟩, ⟨by (try simp only [hl4_3]); (try simp only [hl4_4]); (with_reducible repeat (first | apply Kd.R_alloc | apply Kd.R_drewN | apply Kd.R_drew)); exact HO_4.out⟩, ⟨by (try simp only [hl4_3]); (try simp only [hl4_4]); (with_reducible repeat (first | apply Kd.R_alloc | apply Kd.R_drewN | apply Kd.R_drew)); exact HO_6.out⟩, ⟨by (try simp only [hl4_3]); (try simp only [hl4_4]); (with_reducible repeat (first | apply Kd.R_alloc | apply Kd.R_drewN | apply Kd.R_drew)); exact HO_40.out⟩, ⟨by (try simp only [hl4_3]); (try simp only [hl4_4]); (with_reducible repeat (first | refine blk_drewN ?_ _ | refine blk_drew ?_ | refine blk_alloc ?_ _)); exact BK836.out⟩, ⟨by (try simp only [hl4_3]); (try simp only [hl4_4]); (with_reducible repeat (first | refine blk_drewN ?_ _ | refine blk_drew ?_ | refine blk_alloc ?_ _)); exact BK837.out⟩, ⟨by repeat (first | (with_reducible first | exact HB.out | apply below_alloc | apply pw_below_drewN | apply below_drew1 | refine below_set ?_ GE836.out | refine below_set ?_ GE837.out) | exact HB.out)⟩⟩
                     · rw [if_neg c29] at H
                       exact absurd H (by simp)
                   · rw [if_neg c28] at H
                     exact absurd H (by simp)
                 · rw [if_neg c26] at H
                   exact absurd H (by simp)
               · rw [if_neg c25] at H
                 exact absurd H (by simp)
             · rw [if_neg c24] at H
               have c24b0 : decide (x42_3 < (x6_2.length : Int)) = false := decide_eq_false c24
               (try (have c24h := c24b0; simp only [hl4_3] at c24h))
               clear c24
               have H' := Aside0.mk H
               clear H
               go_wp2
               (try simp only [← hl4_3])
               go_roundg k3
               case measure => have := HK1.out; have := HK2.out; have := HK3.out; omega
               case rel => exact ⟨(x4_3), (x5_3), (by first | rfl | (simp; done) | (simp [*]; done)), H', ⟨by have := HK1.out; have := HK2.out; have := HK3.out; omega⟩, ⟨by (try simp only [hl4_3]); (with_reducible repeat (first | apply Kd.R_alloc | apply Kd.R_drewN | apply Kd.R_drew)); exact HO_4.out⟩, ⟨by (try simp only [hl4_3]); (with_reducible repeat (first | refine blk_drewN ?_ _ | refine blk_drew ?_ | refine blk_alloc ?_ _)); exact BK836.out⟩, ⟨by (try simp only [hl4_3]); (with_reducible repeat (first | refine blk_drewN ?_ _ | refine blk_drew ?_ | refine blk_alloc ?_ _)); exact BK837.out⟩, ⟨by repeat (first | (with_reducible first | exact HB.out | apply below_alloc | apply pw_below_drewN | apply below_drew1 | refine below_set ?_ GE836.out | refine below_set ?_ GE837.out) | exact HB.out)⟩⟩
     · replace c12 := Bool.eq_false_iff.mpr c12
       subst c12
       have H1 : (impl_ArfClosure.l5 k1 (([] : List Int)) x4_1 (x4_1.length : Int) 0) = some (r1, r2) := by rw [if_neg (show ¬ (false = true) by decide)] at H; exact H
       clear H
       have H := H1
       clear H1
       obtain ⟨y862, hy862⟩ : ∃ y_ : List Int, y_ = (([] : List Int)) := ⟨_, rfl⟩
       replace H : (impl_ArfClosure.l5 k1 y862 x4_1 (x4_1.length : Int) 0) = some (r1, r2) := by first | (rw [hy862]; with_reducible exact H) | (have H2_ := (Option.bind_some _ _).symm.trans H; rw [hy862]; with_reducible exact H2_) | (have H2_ := (Option.bind_some _ _).symm.trans H; with_reducible exact H2_) | with_reducible exact H | (rw [hy862]; exact H) | exact H
       have Ny862 := Aside0.mk hy862
       clear hy862
       have H' := Aside0.mk H
       clear H
       go_wp2_with (first | ((with_reducible refine gate_dst (N := 88) rfl ?_); refine Kd.R_lit (Kd.int .i64) _ 3 ?hg (N := 88) ?hd (xs := ([] : List Int)) (inner := []) (ok := fun _ => True) (okp := fun _ => True) ?hr ?hp (fun _ hk => hk) trivial (Below.refl _ _) (Nat.le_refl _) (by simp) ?_; (case hd => rfl); (case hg => rfl); (case hr => first | (go_simp; done) | (go_simp; rfl)); (case hp => exact (Reps.none _ _)); intro v863 w49 ho50 hb hg_ hnew_; clear hg_ hnew_; (first | rw [← Ny862.out] at ho50 | (simp only [Int.reduceToNat] at ho50; rw [← Ny862.out] at ho50)); have n0_ := Aside0.mk (Kd.R_below (re_ HO_4.out) hb); have n1_ := Aside0.mk (Kd.R_lower ho50 (below_size (by repeat (first | (with_reducible first | exact HB.out | apply below_alloc | apply pw_below_drewN | apply below_drew1 | refine below_set ?_ GE836.out | refine below_set ?_ GE837.out) | exact HB.out)))); have n2_ := Aside0.mk (blk_below (g := gb836) (o := .cells #[.slice A0_0 l0_0.length c0_0] 27 (0, 0)) (be_ BK836.out) hb); have n3_ := Aside0.mk (blk_below (g := gb837) (o := .cells #[.slice none 0 0] 27 (0, 0)) (be_ BK837.out) hb); have n4_ := Aside0.mk (below_step (by repeat (first | (with_reducible first | exact HB.out | apply below_alloc | apply pw_below_drewN | apply below_drew1 | refine below_set ?_ GE836.out | refine below_set ?_ GE837.out) | exact HB.out)) hb); clear HO_4; clear BK836; clear BK837; clear HB; have HO_4 := n0_; have HO864 := n1_; have BK836 := n2_; have BK837 := n3_; have HB := n4_; clear n0_ n1_ n2_ n3_ n4_; clear hb ho50; obtain ⟨Ao51, co51, eo51⟩ := Kd.R_slice HO_4.out; subst eo51))
       go_loopg [16, 91] k1 (fun kq v16 v91 w' => ∃ (x16_2 : List Int) (x91_2 : Int), v91 = .int .i64 x91_2 ∧ Aside0 (impl_ArfClosure.l5 kq x16_2 x4_1 (x4_1.length : Int) x91_2 = some (r1, r2)) ∧ Aside0 (kq ≤ k1) ∧ Aside0 (Kd.R (Kd.int .i64) 3 w' w.heap.size (fun _ => True) v16 x16_2) ∧ Aside0 (Kd.R Kd.bool 4 w' w.heap.size (fun _ => True) (.slice Ao51 x4_1.length co51) x4_1) ∧ Aside0 (w'.heap[gb836]? = some (.cells #[(.slice A0_0 l0_0.length c0_0)] 27 (0, 0))) ∧ Aside0 (w'.heap[gb837]? = some (.cells #[(.slice none 0 0)] 27 (0, 0))) ∧ Aside0 (Below w.heap.size w w'))
       case atStart => exact ⟨(y862), (0), (by first | rfl | (simp; done) | (simp [*]; done)), H', ⟨Nat.le_refl _⟩, ⟨re_ HO864.out⟩, ⟨re_ HO_4.out⟩, ⟨be_ BK836.out⟩, ⟨be_ BK837.out⟩, ⟨by repeat (first | (with_reducible first | exact HB.out | apply below_alloc | apply pw_below_drewN | apply below_drew1 | refine below_set ?_ GE836.out | refine below_set ?_ GE837.out) | exact HB.out)⟩⟩
       case round =>
        clear H'
        try clear c1
        try clear q1
        try clear c2
        try clear p2
        try clear c3
        try clear q3
        try clear c4
        try clear p4
        try clear q4
        try clear hx4
        try clear hf4
        try clear c5
        try clear p6
        try clear c7
        try clear c8
        try clear p8
        try clear q8
        try clear hx8
        try clear c12
        try clear c16
        try clear c16b0
        try clear c17
        try clear c17b0
        try clear c18
        try clear c18b0
        try clear q19
        try clear c20
        try clear c21
        try clear c24
        try clear c24b0
        try clear c25
        try clear c25b0
        try clear c26
        try clear c26b0
        try clear c28
        try clear c28b0
        try clear c28b1
        try clear c29
        try clear c29b0
        try clear c29b1
        try clear q30
        try clear c31
        try clear c31b0
        try clear c32
        try clear c32b0
        try clear c33
        try clear c33b0
        try clear c35
        try clear c35b0
        try clear c35b1
        try clear c36
        try clear c36b0
        try clear c36b1
        try clear q37
        try clear c38
        try clear c38b0
        try clear c39
        try clear c39b0
        try clear c40
        try clear c40b0
        try clear c41
        try clear c41b0
        try clear c43
        try clear c43b0
        try clear q44
        try clear c45
        try clear p46
        try clear q46
        try clear hx46
        try clear hf46
        try clear hcz10_0
        try clear hcz8_0
        try clear hfz10_0
        try clear hfz8_0
        try clear hx46_0
        try clear hx845_0
        try clear hx849_0
        try clear hx854_0
        try clear hx859_0
        try clear hx860_0
        try clear p2
        try clear p46
        try clear p6
        try clear p8
        try clear p845
        try clear p849
        try clear p854
        try clear p859
        try clear p860
        try clear q1
        try clear q19
        try clear q3
        try clear q30
        try clear q37
        try clear q46
        try clear q8
        try clear q845
        try clear q849
        try clear q854
        try clear q859
        try clear q860
        obtain ⟨x16_2, x91_2, rfl, HA, HK2, HO_16, HO_89, BK836, BK837, HB⟩ := hrel
        cases gk with
        | zero => exact absurd HA.out (by simp [impl_ArfClosure.l5])
        | succ k2 =>
         have H := HA.out
         clear HA
         simp only [impl_ArfClosure.l5] at H
         by_cases c52 : x91_2 < (x4_1.length : Int)
         · rw [if_pos c52] at H
           have c52b0 : decide (x91_2 < (x4_1.length : Int)) = true := decide_eq_true c52
           clear c52
           by_cases c53 : 0 ≤ x91_2
           · rw [if_pos c53] at H
             have c53b0 : decide (0 ≤ x91_2) = true := decide_eq_true c53
             clear c53
             by_cases c54 : x91_2 < (x4_1.length : Int)
             · rw [if_pos c54] at H
               have c54b0 : decide (x91_2 < (x4_1.length : Int)) = true := decide_eq_true c54
               clear c54
               obtain ⟨bq55, hbq55⟩ : ∃ b_ : Bool, b_ = (rdOf false x4_1 x91_2) := ⟨_, rfl⟩
               replace H : (if bq55 = true then (impl_ArfClosure.l5 k2 x16_2 x4_1 (x4_1.length : Int) (wrap64 (x91_2 + 1))) else (if x16_2.length < 17592186044416 then (impl_ArfClosure.l5 k2 (x16_2 ++ [x91_2]) x4_1 (x4_1.length : Int) (wrap64 (x91_2 + 1))) else (none))) = some (r1, r2) := by rw [← hbq55] at H; exact H
               have Nbq55 := Aside0.mk hbq55
               clear hbq55
               by_cases c56 : bq55 = true
               · subst c56
                 have H1 : (impl_ArfClosure.l5 k2 x16_2 x4_1 (x4_1.length : Int) (wrap64 (x91_2 + 1))) = some (r1, r2) := by rw [if_pos rfl] at H; exact H
                 clear H
                 have H := H1
                 clear H1
                 have H' := Aside0.mk H
                 clear H
                 have p865 : 0 ≤ (x91_2 : Int) := of_decide_eq_true (by first | (with_reducible assumption) | assumption)
                 have q865 : x91_2 < (x4_1.length : Int) := of_decide_eq_true (by first | (with_reducible assumption) | assumption)
                 obtain ⟨ad865, e865, hx865_0⟩ := Kd.at_bool (Kd.R_reads' HO_89.out).2.2 x91_2 p865 q865
                 (try rw [← Nbq55.out] at hx865_0)
                 cases e865
                 replace p865 := eq_true p865
                 replace q865 := eq_true q865
                 go_wp2
                 go_roundg k2
                 case measure => have := HK1.out; have := HK2.out; omega
                 case rel => exact ⟨(x16_2), (wrap64 (x91_2 + 1)), (by first | rfl | (simp; done) | (simp [*]; done)), H', ⟨by have := HK1.out; have := HK2.out; omega⟩, ⟨re_ HO_16.out⟩, ⟨re_ HO_89.out⟩, ⟨be_ BK836.out⟩, ⟨be_ BK837.out⟩, ⟨by repeat (first | (with_reducible first | exact HB.out | apply below_alloc | apply pw_below_drewN | apply below_drew1 | refine below_set ?_ GE836.out | refine below_set ?_ GE837.out) | exact HB.out)⟩⟩
               · replace c56 := Bool.eq_false_iff.mpr c56
                 subst c56
                 have H1 : (if x16_2.length < 17592186044416 then (impl_ArfClosure.l5 k2 (x16_2 ++ [x91_2]) x4_1 (x4_1.length : Int) (wrap64 (x91_2 + 1))) else (none)) = some (r1, r2) := by rw [if_neg (show ¬ (false = true) by decide)] at H; exact H
                 clear H
                 have H := H1
                 clear H1
                 by_cases c57 : x16_2.length < 17592186044416
                 · rw [if_pos c57] at H
                   have LMc57 := Aside0.mk c57
                   clear c57
                   obtain ⟨y866, hy866⟩ : ∃ y_ : List Int, y_ = (x16_2 ++ [x91_2]) := ⟨_, rfl⟩
                   replace H : (impl_ArfClosure.l5 k2 y866 x4_1 (x4_1.length : Int) (wrap64 (x91_2 + 1))) = some (r1, r2) := by first | (rw [hy866]; with_reducible exact H) | (have H2_ := (Option.bind_some _ _).symm.trans H; rw [hy866]; with_reducible exact H2_) | (have H2_ := (Option.bind_some _ _).symm.trans H; with_reducible exact H2_) | with_reducible exact H | (rw [hy866]; exact H) | exact H
                   have Ny866 := Aside0.mk hy866
                   clear hy866
                   have H' := Aside0.mk H
                   clear H
                   have p865 : 0 ≤ (x91_2 : Int) := of_decide_eq_true (by first | (with_reducible assumption) | assumption)
                   have q865 : x91_2 < (x4_1.length : Int) := of_decide_eq_true (by first | (with_reducible assumption) | assumption)
                   obtain ⟨ad865, e865, hx865_0⟩ := Kd.at_bool (Kd.R_reads' HO_89.out).2.2 x91_2 p865 q865
                   (try rw [← Nbq55.out] at hx865_0)
                   cases e865
                   replace p865 := eq_true p865
                   replace q865 := eq_true q865
                   go_wp2_with (first | ((with_reducible refine gate_builtin (b := .append) (xs := #[.tmp 98, .tmp 100]) rfl ?_); at_builtin; refine Kd.R_append (Kd.int .i64) (w0 := w) w.heap.size rfl (.tmp 98) (.tmp 100) 22 3 (.int .i64 0) 8 rfl Try.underlying22 info3 rfl (by decide) (by omega) u16 x16_2 x91_2 [.int .i64 x91_2] (fun _ => True) (fun _ => False) rfl rfl ?aP (fun _ hk => hk.elim) ?aF ?aO ?aB ?aS ?aL ?_; (case aP => exact rfl); (case aB => exact (by repeat (first | (with_reducible first | exact HB.out | apply below_alloc | apply pw_below_drewN | apply below_drew1 | refine below_set ?_ GE836.out | refine below_set ?_ GE837.out) | exact HB.out))); (case aF => exact (fun _ _ => trivial)); (case aO => exact (re_ HO_16.out)); (case aS => exact (below_size (by repeat (first | (with_reducible first | exact HB.out | apply below_alloc | apply pw_below_drewN | apply below_drew1 | refine below_set ?_ GE836.out | refine below_set ?_ GE837.out) | exact HB.out)))); (case aL => have := LMc57.out; omega); intro v867 w58 ho hb hg hat; rw [← Ny866.out] at ho; have n0_ := Aside0.mk (Kd.R_over' (re_ HO_89.out) (Kd.R_typed (re_ HO_16.out)) (by decide) hg); have n1_ := Aside0.mk (blk_grown (g := gb836) (o := .cells #[.slice A0_0 l0_0.length c0_0] 27 (0, 0)) (be_ BK836.out) hg (Kd.R_ne HO_16.out BK836.out (by decide))); have n2_ := Aside0.mk (blk_grown (g := gb837) (o := .cells #[.slice none 0 0] 27 (0, 0)) (be_ BK837.out) hg (Kd.R_ne HO_16.out BK837.out (by decide))); have n3_ := Aside0.mk (hb); have n4_ := Aside0.mk (ho); clear HO_89; clear BK836; clear BK837; clear HB; clear HO_16; have HO_89 := n0_; have BK836 := n1_; have BK837 := n2_; have HB := n3_; have HO868 := n4_; clear n0_ n1_ n2_ n3_ n4_; clear ho hb hg hat))
                   go_roundg k2
                   case measure => have := HK1.out; have := HK2.out; omega
                   case rel => exact ⟨(y866), (wrap64 (x91_2 + 1)), (by first | rfl | (simp; done) | (simp [*]; done)), H', ⟨by have := HK1.out; have := HK2.out; omega⟩, ⟨re_ HO868.out⟩, ⟨re_ HO_89.out⟩, ⟨be_ BK836.out⟩, ⟨be_ BK837.out⟩, ⟨by repeat (first | (with_reducible first | exact HB.out | apply below_alloc | apply pw_below_drewN | apply below_drew1 | refine below_set ?_ GE836.out | refine below_set ?_ GE837.out) | exact HB.out)⟩⟩
                 · rw [if_neg c57] at H
                   exact absurd H (by simp)
             · rw [if_neg c54] at H
               exact absurd H (by simp)
           · rw [if_neg c53] at H
             exact absurd H (by simp)
         · rw [if_neg c52] at H
           have c52b0 : decide (x91_2 < (x4_1.length : Int)) = false := decide_eq_false c52
           clear c52
           replace H := Option.bind_eq_some_iff.mp H
           obtain ⟨⟨t869, t872⟩, A590, H⟩ := H
           replace H : (some (t869, t872)) = some (r1, r2) := H
           have A59 := Aside0.mk A590
           clear A590
           simp only [Option.some.injEq, Prod.mk.injEq] at H
           obtain ⟨rfl, rfl⟩ := H
           obtain ⟨Ao60, co60, eo60⟩ := Kd.R_slice HO_16.out
           subst eo60
           go_wp2_with (first | ((with_reducible refine gate_callee (f := 89) rfl ?_); refine goesL_ (some 104) rfl rfl Try.func89 (by kernel_rfl) rfl #[.slice Ao60 x16_2.length co60] rfl (by (try simp only [List.map_toArray, List.map_cons, List.map_nil]); first | done | rfl | (simp only [List.length_drop, List.length_take]; rfl)) ?_; (with_reducible refine (impl_FromGaps.calls k2 _ _ x16_2 t869 t872 _ ?side1 ?side2 A59.out).mono ?_); (case side1 => exact ce_ ((Kd.R_reads' HO_16.out).2.2)); (case side2 => exact (Kd.R_reads' HO_16.out).2.1); rintro e w61 ⟨v870, rfl, ho0, hb⟩; refine ⟨_, rfl, ?_⟩; have n0_ := Aside0.mk (Kd.R_elder' (re_ HO_16.out) (Kd.R_base ho0) hb); have n1_ := Aside0.mk (Kd.R_below (re_ HO_89.out) hb); have n2_ := Aside0.mk (Kd.R_lower (Kd.R_new' ho0 (Kd.R_lt (re_ HO_16.out))) (below_size (by repeat (first | (with_reducible first | exact HB.out | apply below_alloc | apply pw_below_drewN | apply below_drew1 | refine below_set ?_ GE836.out | refine below_set ?_ GE837.out) | exact HB.out)))); have n3_ := Aside0.mk (blk_below (g := gb836) (o := .cells #[.slice A0_0 l0_0.length c0_0] 27 (0, 0)) (be_ BK836.out) hb); have n4_ := Aside0.mk (blk_below (g := gb837) (o := .cells #[.slice none 0 0] 27 (0, 0)) (be_ BK837.out) hb); have n5_ := Aside0.mk (below_step (by repeat (first | (with_reducible first | exact HB.out | apply below_alloc | apply pw_below_drewN | apply below_drew1 | refine below_set ?_ GE836.out | refine below_set ?_ GE837.out) | exact HB.out)) hb); clear HO_16; clear HO_89; clear BK836; clear BK837; clear HB; have HO_16 := n0_; have HO_89 := n1_; have HO871 := n2_; have BK836 := n3_; have BK837 := n4_; have HB := n5_; clear n0_ n1_ n2_ n3_ n4_ n5_; (try clear hb); (try clear hb2); (try clear hk); (try clear hi); (try clear ho0); obtain ⟨Ao62, co62, eo62⟩ := Kd.R_slice HO871.out; subst eo62; have hnb63 := NB837_836.out; have hnc63 := NB836_837.out; have hcz64_0 : w61.cell? ⟨gb837, 0, none⟩ = some (.slice none 0 0) := (blk_cell BK837.out 0).trans rfl; have hfz64_0 := blk_frozen BK837.out 0))
           refine bodyPost_ret (results_ct rfl _ _ gb837 27 #[.slice Ao62 t869.length co62] (0, 0) _ rfl (by (with_reducible repeat (first | refine blk_drewN ?_ _ | refine blk_drew ?_ | refine blk_alloc ?_ _)); refine blk_put (cs := #[.slice none 0 0]) ?_ 0 _ rfl; (with_reducible repeat (first | refine blk_drewN ?_ _ | refine blk_drew ?_ | refine blk_alloc ?_ _)); exact BK837.out) Try.underlying27 rfl (by kernel_rfl)) rfl ?_
           exact ⟨_, by first | rfl | (simp [errW_none, errW_some] <;> rfl) | (simp [*, errW_none, errW_some] <;> rfl), by (with_reducible repeat (first | apply Kd.R_alloc | apply Kd.R_drewN | apply Kd.R_drew)); exact Kd.R_mono (Kd.R_far (p := ⟨gb837, 0, none⟩) (Kd.R_types HO871.out BK837.out (by decide)) (fun _ hk => hk.2) (.slice Ao62 t869.length co62)) (fun _ hk => trivial), by repeat (first | (with_reducible first | exact HB.out | apply below_alloc | apply pw_below_drewN | apply below_drew1 | refine below_set ?_ GE836.out | refine below_set ?_ GE837.out) | exact HB.out)⟩
 · replace c3 := Bool.eq_false_iff.mpr c3
   subst c3
   have H1 : (some (([] : List Int), false)) = some (r1, r2) := by rw [if_neg (show ¬ (false = true) by decide)] at H; exact H
   clear H
   have H := H1
   clear H1
   simp only [Option.some.injEq, Prod.mk.injEq] at H
   obtain ⟨rfl, rfl⟩ := H
   go_enter Try.func46, Try.ntmps46
   go_wp2_with (first | ((with_reducible refine gate_dst (N := 1) rfl ?_); refine box_event ?hg (N := 1) ?hd (cs := #[.slice A0_0 l0_0.length c0_0]) (t := 27) ?hr ?_; (case hd => rfl); (case hg => rfl); (case hr => first | (go_simp; done) | (go_simp; rfl)); intro gb836 hg w65 hbox hb; have n0_ := Aside0.mk (below_step (bl_ HB.out) hb); have n1_ := Aside0.mk (hbox); have n2_ := Aside0.mk ((by rw [hg]; exact (below_size (bl_ HB.out)) : w.heap.size ≤ gb836)); have n3_ := Aside0.mk ((by rw [hg]; exact (below_size (bl_ HB.out)) : w.heap.size ≤ gb836)); clear HB; have HB := n0_; have BK836 := n1_; have GW836 := n2_; have GE836 := n3_; clear n0_ n1_ n2_ n3_; clear hb hbox hg) | ((with_reducible refine gate_dst (N := 2) rfl ?_); refine box_event ?hg (N := 2) ?hd (cs := #[.slice none 0 0]) (t := 27) ?hr ?_; (case hd => rfl); (case hg => rfl); (case hr => first | (go_simp; done) | (go_simp; rfl)); intro gb837 hg w66 hbox hb; have n0_ := Aside0.mk (blk_below (g := gb836) (o := .cells #[.slice A0_0 l0_0.length c0_0] 27 (0, 0)) (be_ BK836.out) hb); have n1_ := Aside0.mk (below_step (by repeat (first | (with_reducible first | exact HB.out | apply below_alloc | apply pw_below_drewN | apply below_drew1 | refine below_set ?_ GE836.out) | exact HB.out)) hb); have n2_ := Aside0.mk (hbox); have n3_ := Aside0.mk ((by rw [hg]; exact (below_size (by repeat (first | (with_reducible first | exact HB.out | apply below_alloc | apply pw_below_drewN | apply below_drew1 | refine below_set ?_ GE836.out) | exact HB.out))) : w.heap.size ≤ gb837)); have n4_ := Aside0.mk ((by rw [hg]; exact (below_size (by repeat (first | (with_reducible first | exact HB.out | apply below_alloc | apply pw_below_drewN | apply below_drew1 | refine below_set ?_ GE836.out) | exact HB.out))) : w.heap.size ≤ gb837)); have n5_ := Aside0.mk ((by rw [hg]; exact Nat.ne_of_lt (blk_lt (g := gb836) (o := .cells #[.slice A0_0 l0_0.length c0_0] 27 (0, 0)) (be_ BK836.out)) : gb836 ≠ gb837)); have n6_ := Aside0.mk ((by rw [hg]; exact Nat.ne_of_gt (blk_lt (g := gb836) (o := .cells #[.slice A0_0 l0_0.length c0_0] 27 (0, 0)) (be_ BK836.out)) : gb837 ≠ gb836)); clear BK836; clear HB; have BK836 := n0_; have HB := n1_; have BK837 := n2_; have GW837 := n3_; have GE837 := n4_; have NB836_837 := n5_; have NB837_836 := n6_; clear n0_ n1_ n2_ n3_ n4_ n5_ n6_; clear hb hbox hg; have hnb67 := NB836_837.out; have hnc67 := NB837_836.out; have hcz68_0 : w66.cell? ⟨gb836, 0, none⟩ = some (.slice A0_0 l0_0.length c0_0) := (blk_cell BK836.out 0).trans rfl; have hfz68_0 := blk_frozen BK836.out 0) | ((with_reducible refine gate_callee (f := 56) rfl ?_); refine goesL_ (some 20) rfl rfl Try.func56 (by kernel_rfl) rfl #[.agg #[.slice A0_0 l0_0.length c0_0]] rfl (by (try simp only [List.map_toArray, List.map_cons, List.map_nil]); first | done | rfl | (simp only [List.length_drop, List.length_take]; rfl)) ?_; (with_reducible refine (impl_IsSemigroup.calls k _ _ l0_0 false _ ?side1 ?side2 A2.out).mono ?_); (case side1 => exact ce_ ((Kd.C_below HR0_0.out HB.out))); (case side2 => exact HC0_0.out); rintro e w69 ⟨rfl, hb⟩; refine ⟨_, rfl, ?_⟩; have n0_ := Aside0.mk (blk_below (g := gb836) (o := .cells #[.slice A0_0 l0_0.length c0_0] 27 (0, 0)) (be_ BK836.out) hb); have n1_ := Aside0.mk (blk_below (g := gb837) (o := .cells #[.slice none 0 0] 27 (0, 0)) (be_ BK837.out) hb); have n2_ := Aside0.mk (below_step (by repeat (first | (with_reducible first | exact HB.out | apply below_alloc | apply pw_below_drewN | apply below_drew1 | refine below_set ?_ GE836.out | refine below_set ?_ GE837.out) | exact HB.out)) hb); clear BK836; clear BK837; clear HB; have BK836 := n0_; have BK837 := n1_; have HB := n2_; clear n0_ n1_ n2_; (try clear hb); (try clear hb2); (try clear hk); (try clear hi); have hcz70_0 : w69.cell? ⟨gb837, 0, none⟩ = some (.slice none 0 0) := (blk_cell BK837.out 0).trans rfl; have hfz70_0 := blk_frozen BK837.out 0))
   refine bodyPost_ret (results_ct rfl _ _ gb837 27 #[.slice none 0 0] (0, 0) _ rfl (by (with_reducible repeat (first | refine blk_drewN ?_ _ | refine blk_drew ?_ | refine blk_alloc ?_ _)); refine blk_put (cs := #[.slice none 0 0]) ?_ 0 _ rfl; (with_reducible repeat (first | refine blk_drewN ?_ _ | refine blk_drew ?_ | refine blk_alloc ?_ _)); exact BK837.out) Try.underlying27 rfl (by kernel_rfl)) rfl ?_
   exact ⟨_, by first | rfl | (simp [errW_none, errW_some] <;> rfl) | (simp [*, errW_none, errW_some] <;> rfl), by first | exact Kd.R_nil _ _ _ _ _ | exact Kd.N_nil _ _ _ _ _ | exact Kd.V_nil _ _ _ _ _ | exact Kd.Q_nil _ _ _ _ _ | exact Kd.S_nil _ _ _ _ _, by repeat (first | (with_reducible first | exact HB.out | apply below_alloc | apply pw_below_drewN | apply below_drew1 | refine below_set ?_ GE836.out | refine below_set ?_ GE837.out) | exact HB.out)⟩
end Go.Proofs.Ytapdhljbhekcdaa.PB
end
