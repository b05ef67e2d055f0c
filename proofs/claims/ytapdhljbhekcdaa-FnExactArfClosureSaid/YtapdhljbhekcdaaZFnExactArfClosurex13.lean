-- Bundled by shake.py from this session's printed and written texts; Lean checks it.
import Derived.Test.YtapdhljbhekcdaaZFnExactArfClosurex1
import Derived.Test.YtapdhljbhekcdaaZFnExactArfClosurex11
import Derived.Test.YtapdhljbhekcdaaZFnExactArfClosurex12
import Derived.Test.YtapdhljbhekcdaaZFnExactArfClosurex6
import Derived.Test.YtapdhljbhekcdaaZFnExactArfClosurex7
section
namespace Go.Proofs.Ytapdhljbhekcdaa.PB
open Go.RowKit Go.Proofs.YtapdhljbhekcdaaW.PrintWords Go.Proofs.YtapdhljbhekcdaaW.PrintLast Go.Proofs.YtapdhljbhekcdaaW.PrintMore
set_option linter.unusedVariables false
set_option linter.unusedSimpArgs false
mutual
def laws_FnExactArfClosure.j0 : Nat → Bool → Bool → Bool → List Int → List Int → List Int → List Int → Option (Bool)
 | 0, _, _, _, _, _, _, _ => none
 | k + 1, x5, x8, x40, x881000, x890000, x894000, x899000 => if x40 = true then (some false) else ((laws_toSemigroup.f k x881000).bind fun t900 => ((laws_eqSemigroup.f k x894000 t900).bind fun t903 => (if t903 = true then ((laws_markSemigroup.f k x894000 1).bind fun bt904 => (if bt904.1 < 0 then (laws_FnExactArfClosure.j1 k x5 true x881000 x890000 x899000) else ((laws_eqSemigroup.f k x899000 x890000).bind fun t906 => (if t906 = true then (laws_FnExactArfClosure.j1 k x5 (x8 != x5) x881000 x890000 x899000) else (laws_FnExactArfClosure.j1 k x5 true x881000 x890000 x899000))))) else (some false))))
def laws_FnExactArfClosure.j1 : Nat → Bool → Bool → List Int → List Int → List Int → Option (Bool)
 | 0, _, _, _, _, _ => none
 | k + 1, x5, x61, x881000, x890000, x899000 => if x61 = true then (some false) else ((laws_markSemigroup.f k x899000 1).bind fun bt907 => ((laws_heldSemigroup.f k bt907.2 1).bind fun t909 => (if t909 < 0 then (some false) else (if t909 = bt907.1 then ((laws_toSemigroup.f k x881000).bind fun t910 => ((impl_ArfClosure.f k t910).bind fun bt913 => ((laws_eqSemigroup.f k bt913.1 x890000).bind fun t918 => (if t918 = true then (laws_FnExactArfClosure.j2 k bt907.1 (bt913.2 != x5) bt907.2) else (laws_FnExactArfClosure.j2 k bt907.1 true bt907.2))))) else (some false)))))
def laws_FnExactArfClosure.j2 : Nat → Int → Bool → List Int → Option (Bool)
 | 0, _, _, _ => none
 | k + 1, x10, x87, x899000 => if x87 = true then (some false) else ((laws_heldSemigroup.f k x899000 1).bind fun t919 => (if t919 < 0 then (some false) else (if t919 = x10 then (some true) else (some false))))
end
def laws_FnExactArfClosure.f (k : Nat) (l0_0 : List Int) : Option (Bool) := (laws_szSemigroup.f l0_0 1048576).bind fun t881 => (if t881 < 0 then (some true) else ((laws_toSemigroup.f k l0_0).bind fun t882 => ((spec_ArfClosure.f k t882).bind fun bt885 => ((laws_toSemigroup.f k l0_0).bind fun t890 => ((impl_ArfClosure.f k t890).bind fun bt894 => ((laws_eqSemigroup.f k bt894.1 bt885.1).bind fun t899 => (if t899 = true then (laws_FnExactArfClosure.j0 k bt885.2 bt894.2 (bt894.2 != bt885.2) l0_0 bt885.1 t890 bt894.1) else (laws_FnExactArfClosure.j0 k bt885.2 bt894.2 true l0_0 bt885.1 t890 bt894.1))))))))
set_option maxHeartbeats 8000000 in
set_option maxRecDepth 100000 in
theorem laws_FnExactArfClosure.calls (k : Nat) (A0_0 : Option Addr) (c0_0 : Nat) (l0_0 : List Int) (r : Bool) (w : World) (hr0_0 : Kd.C (Kd.int .i64) w A0_0 l0_0.length l0_0) (hc0_0 : l0_0.length ≤ c0_0) (h : laws_FnExactArfClosure.f k l0_0 = some true) :
 Calls Try.prog 12 #[.agg #[.slice A0_0 l0_0.length c0_0]] w fun e w' => e = .returned (.bool true) ∧ Below w.heap.size w w' := by
 have hu24 := Try.underlying24
 have hu27 := Try.underlying27
 have HR0_0 := Aside0.mk hr0_0
 have HC0_0 := Aside0.mk hc0_0
 clear hr0_0 hc0_0
 have HB := Aside0.mk (Below.refl w.heap.size w)
 have H : ((laws_szSemigroup.f l0_0 1048576).bind fun t881 => (if t881 < 0 then (some true) else ((laws_toSemigroup.f k l0_0).bind fun t882 => ((spec_ArfClosure.f k t882).bind fun bt885 => ((laws_toSemigroup.f k l0_0).bind fun t890 => ((impl_ArfClosure.f k t890).bind fun bt894 => ((laws_eqSemigroup.f k bt894.1 bt885.1).bind fun t899 => (if t899 = true then (laws_FnExactArfClosure.j0 k bt885.2 bt894.2 (bt894.2 != bt885.2) l0_0 bt885.1 t890 bt894.1) else (laws_FnExactArfClosure.j0 k bt885.2 bt894.2 true l0_0 bt885.1 t890 bt894.1))))))))) = some true := h
 clear h
 replace H := Option.bind_eq_some_iff.mp H
 obtain ⟨t881, A20, H⟩ := H
 replace H : (if t881 < 0 then (some true) else ((laws_toSemigroup.f k l0_0).bind fun t882 => ((spec_ArfClosure.f k t882).bind fun bt885 => ((laws_toSemigroup.f k l0_0).bind fun t890 => ((impl_ArfClosure.f k t890).bind fun bt894 => ((laws_eqSemigroup.f k bt894.1 bt885.1).bind fun t899 => (if t899 = true then (laws_FnExactArfClosure.j0 k bt885.2 bt894.2 (bt894.2 != bt885.2) l0_0 bt885.1 t890 bt894.1) else (laws_FnExactArfClosure.j0 k bt885.2 bt894.2 true l0_0 bt885.1 t890 bt894.1)))))))) = some true := H
 have A2 := Aside0.mk A20
 clear A20
 by_cases c3 : t881 < 0
 · rw [if_pos c3] at H
   have c3b0 : decide (t881 < 0) = true := decide_eq_true c3
   clear c3
   clear H
   go_enter Try.func12, Try.ntmps12
   go_wp2_with (first | ((with_reducible refine gate_dst (N := 1) rfl ?_); refine box_event ?hg (N := 1) ?hd (cs := #[.slice A0_0 l0_0.length c0_0]) (t := 24) ?hr ?_; (case hd => rfl); (case hg => rfl); (case hr => first | (go_simp; done) | (go_simp; rfl)); intro gb880 hg w4 hbox hb; have n0_ := Aside0.mk (below_step (bl_ HB.out) hb); have n1_ := Aside0.mk (hbox); have n2_ := Aside0.mk ((by rw [hg]; exact (below_size (bl_ HB.out)) : w.heap.size ≤ gb880)); have n3_ := Aside0.mk ((by rw [hg]; exact (below_size (bl_ HB.out)) : w.heap.size ≤ gb880)); clear HB; have HB := n0_; have BK880 := n1_; have GW880 := n2_; have GE880 := n3_; clear n0_ n1_ n2_ n3_; clear hb hbox hg; have hcz5_0 : w4.cell? ⟨gb880, 0, none⟩ = some (.slice A0_0 l0_0.length c0_0) := (blk_cell BK880.out 0).trans rfl; have hfz5_0 := blk_frozen BK880.out 0) | ((with_reducible refine gate_callee (f := 15) rfl ?_); refine goesL_ (some 16) rfl rfl Try.func15 (by kernel_rfl) rfl #[.agg #[.slice A0_0 l0_0.length c0_0], .int .i64 1048576] rfl (by (try simp only [List.map_toArray, List.map_cons, List.map_nil]); first | done | rfl | (simp only [List.length_drop, List.length_take]; rfl)) ?_; (with_reducible refine (laws_szSemigroup.calls _ _ l0_0 1048576 t881 _ ?side1 ?side2 A2.out).mono ?_); (case side1 => exact ce_ ((Kd.C_below HR0_0.out HB.out))); (case side2 => exact HC0_0.out); rintro e w6 ⟨rfl, hb⟩; refine ⟨_, rfl, ?_⟩; have n0_ := Aside0.mk (blk_below (g := gb880) (o := .cells #[.slice A0_0 l0_0.length c0_0] 24 (0, 0)) (be_ BK880.out) hb); have n1_ := Aside0.mk (below_step (by repeat (first | (with_reducible first | exact HB.out | apply below_alloc | apply pw_below_drewN | apply below_drew1 | refine below_set ?_ GE880.out) | exact HB.out)) hb); clear BK880; clear HB; have BK880 := n0_; have HB := n1_; clear n0_ n1_; (try clear hb); (try clear hb2); (try clear hk); (try clear hi)))
   go_ret
   exact ⟨by first | rfl | (simp [errW_none, errW_some] <;> rfl) | (simp [*, errW_none, errW_some] <;> rfl), by repeat (first | (with_reducible first | exact HB.out | apply below_alloc | apply pw_below_drewN | apply below_drew1 | refine below_set ?_ GE880.out) | exact HB.out)⟩
 · rw [if_neg c3] at H
   have c3b0 : decide (t881 < 0) = false := decide_eq_false c3
   clear c3
   replace H := Option.bind_eq_some_iff.mp H
   obtain ⟨t882, A70, H⟩ := H
   replace H : ((spec_ArfClosure.f k t882).bind fun bt885 => ((laws_toSemigroup.f k l0_0).bind fun t890 => ((impl_ArfClosure.f k t890).bind fun bt894 => ((laws_eqSemigroup.f k bt894.1 bt885.1).bind fun t899 => (if t899 = true then (laws_FnExactArfClosure.j0 k bt885.2 bt894.2 (bt894.2 != bt885.2) l0_0 bt885.1 t890 bt894.1) else (laws_FnExactArfClosure.j0 k bt885.2 bt894.2 true l0_0 bt885.1 t890 bt894.1)))))) = some true := H
   have A7 := Aside0.mk A70
   clear A70
   replace H := Option.bind_eq_some_iff.mp H
   obtain ⟨⟨t885, t888⟩, A80, H⟩ := H
   replace H : ((laws_toSemigroup.f k l0_0).bind fun t890 => ((impl_ArfClosure.f k t890).bind fun bt894 => ((laws_eqSemigroup.f k bt894.1 t885).bind fun t899 => (if t899 = true then (laws_FnExactArfClosure.j0 k t888 bt894.2 (bt894.2 != t888) l0_0 t885 t890 bt894.1) else (laws_FnExactArfClosure.j0 k t888 bt894.2 true l0_0 t885 t890 bt894.1))))) = some true := H
   have A8 := Aside0.mk A80
   clear A80
   replace H := Option.bind_eq_some_iff.mp H
   obtain ⟨t890, A90, H⟩ := H
   replace H : ((impl_ArfClosure.f k t890).bind fun bt894 => ((laws_eqSemigroup.f k bt894.1 t885).bind fun t899 => (if t899 = true then (laws_FnExactArfClosure.j0 k t888 bt894.2 (bt894.2 != t888) l0_0 t885 t890 bt894.1) else (laws_FnExactArfClosure.j0 k t888 bt894.2 true l0_0 t885 t890 bt894.1)))) = some true := H
   have A9 := Aside0.mk A90
   clear A90
   replace H := Option.bind_eq_some_iff.mp H
   obtain ⟨⟨t894, t897⟩, A100, H⟩ := H
   replace H : ((laws_eqSemigroup.f k t894 t885).bind fun t899 => (if t899 = true then (laws_FnExactArfClosure.j0 k t888 t897 (t897 != t888) l0_0 t885 t890 t894) else (laws_FnExactArfClosure.j0 k t888 t897 true l0_0 t885 t890 t894))) = some true := H
   have A10 := Aside0.mk A100
   clear A100
   have HC11 := Aside0.mk H
   clear H
   go_enter Try.func12, Try.ntmps12
   go_upto_region 8 with (first | ((with_reducible refine gate_dst (N := 1) rfl ?_); refine box_event ?hg (N := 1) ?hd (cs := #[.slice A0_0 l0_0.length c0_0]) (t := 24) ?hr ?_; (case hd => rfl); (case hg => rfl); (case hr => first | (go_simp; done) | (go_simp; rfl)); intro gb880 hg w12 hbox hb; have n0_ := Aside0.mk (below_step (bl_ HB.out) hb); have n1_ := Aside0.mk (hbox); have n2_ := Aside0.mk ((by rw [hg]; exact (below_size (bl_ HB.out)) : w.heap.size ≤ gb880)); have n3_ := Aside0.mk ((by rw [hg]; exact (below_size (bl_ HB.out)) : w.heap.size ≤ gb880)); clear HB; have HB := n0_; have BK880 := n1_; have GW880 := n2_; have GE880 := n3_; clear n0_ n1_ n2_ n3_; clear hb hbox hg; have hcz13_0 : w12.cell? ⟨gb880, 0, none⟩ = some (.slice A0_0 l0_0.length c0_0) := (blk_cell BK880.out 0).trans rfl; have hfz13_0 := blk_frozen BK880.out 0) | ((with_reducible refine gate_callee (f := 15) rfl ?_); refine goesL_ (some 16) rfl rfl Try.func15 (by kernel_rfl) rfl #[.agg #[.slice A0_0 l0_0.length c0_0], .int .i64 1048576] rfl (by (try simp only [List.map_toArray, List.map_cons, List.map_nil]); first | done | rfl | (simp only [List.length_drop, List.length_take]; rfl)) ?_; (with_reducible refine (laws_szSemigroup.calls _ _ l0_0 1048576 t881 _ ?side1 ?side2 A2.out).mono ?_); (case side1 => exact ce_ ((Kd.C_below HR0_0.out HB.out))); (case side2 => exact HC0_0.out); rintro e w14 ⟨rfl, hb⟩; refine ⟨_, rfl, ?_⟩; have n0_ := Aside0.mk (blk_below (g := gb880) (o := .cells #[.slice A0_0 l0_0.length c0_0] 24 (0, 0)) (be_ BK880.out) hb); have n1_ := Aside0.mk (below_step (by repeat (first | (with_reducible first | exact HB.out | apply below_alloc | apply pw_below_drewN | apply below_drew1 | refine below_set ?_ GE880.out) | exact HB.out)) hb); clear BK880; clear HB; have BK880 := n0_; have HB := n1_; clear n0_ n1_; (try clear hb); (try clear hb2); (try clear hk); (try clear hi); have hcz15_0 : w14.cell? ⟨gb880, 0, none⟩ = some (.slice A0_0 l0_0.length c0_0) := (blk_cell BK880.out 0).trans rfl; have hfz15_0 := blk_frozen BK880.out 0) | ((with_reducible refine gate_callee (f := 17) rfl ?_); refine goesL_ (some 21) rfl rfl Try.func17 (by kernel_rfl) rfl #[.agg #[.slice A0_0 l0_0.length c0_0]] rfl (by (try simp only [List.map_toArray, List.map_cons, List.map_nil]); first | done | rfl | (simp only [List.length_drop, List.length_take]; rfl)) ?_; (with_reducible refine (laws_toSemigroup.calls k _ _ l0_0 t882 _ ?side1 ?side2 A7.out).mono ?_); (case side1 => exact ce_ ((Kd.C_below HR0_0.out HB.out))); (case side2 => exact HC0_0.out); rintro e w16 ⟨v883, rfl, ho0, hb⟩; refine ⟨_, rfl, ?_⟩; have n0_ := Aside0.mk (Kd.R_lower ho0 (below_size (by repeat (first | (with_reducible first | exact HB.out | apply below_alloc | apply pw_below_drewN | apply below_drew1 | refine below_set ?_ GE880.out) | exact HB.out)))); have n1_ := Aside0.mk (blk_below (g := gb880) (o := .cells #[.slice A0_0 l0_0.length c0_0] 24 (0, 0)) (be_ BK880.out) hb); have n2_ := Aside0.mk (below_step (by repeat (first | (with_reducible first | exact HB.out | apply below_alloc | apply pw_below_drewN | apply below_drew1 | refine below_set ?_ GE880.out) | exact HB.out)) hb); clear BK880; clear HB; have HO884 := n0_; have BK880 := n1_; have HB := n2_; clear n0_ n1_ n2_; (try clear hb); (try clear hb2); (try clear hk); (try clear hi); (try clear ho0); obtain ⟨Ao17, co17, eo17⟩ := Kd.R_slice HO884.out; subst eo17) | ((with_reducible refine gate_callee (f := 45) rfl ?_); refine goesL_ (some 22) rfl rfl Try.func45 (by kernel_rfl) rfl #[.agg #[.slice Ao17 t882.length co17]] rfl (by (try simp only [List.map_toArray, List.map_cons, List.map_nil]); first | done | rfl | (simp only [List.length_drop, List.length_take]; rfl)) ?_; (with_reducible refine (spec_ArfClosure.calls k _ _ t882 t885 t888 _ ?side1 ?side2 A8.out).mono ?_); (case side1 => exact ce_ ((Kd.R_reads' HO884.out).2.2)); (case side2 => exact (Kd.R_reads' HO884.out).2.1); rintro e w18 ⟨v886, rfl, ho0, hb⟩; refine ⟨_, rfl, ?_⟩; have n0_ := Aside0.mk (Kd.R_elder' (re_ HO884.out) (Kd.R_base ho0) hb); have n1_ := Aside0.mk (Kd.R_lower (Kd.R_new' ho0 (Kd.R_lt (re_ HO884.out))) (below_size (by repeat (first | (with_reducible first | exact HB.out | apply below_alloc | apply pw_below_drewN | apply below_drew1 | refine below_set ?_ GE880.out) | exact HB.out)))); have n2_ := Aside0.mk (blk_below (g := gb880) (o := .cells #[.slice A0_0 l0_0.length c0_0] 24 (0, 0)) (be_ BK880.out) hb); have n3_ := Aside0.mk (below_step (by repeat (first | (with_reducible first | exact HB.out | apply below_alloc | apply pw_below_drewN | apply below_drew1 | refine below_set ?_ GE880.out) | exact HB.out)) hb); clear HO884; clear BK880; clear HB; have HO884 := n0_; have HO887 := n1_; have BK880 := n2_; have HB := n3_; clear n0_ n1_ n2_ n3_; (try clear hb); (try clear hb2); (try clear hk); (try clear hi); (try clear ho0)) | ((with_reducible refine gate_dst (N := 4) rfl ?_); refine box_event ?hg (N := 4) ?hd (cs := #[.slice none 0 0]) (t := 27) ?hr ?_; (case hd => rfl); (case hg => rfl); (case hr => first | (go_simp; done) | (go_simp; rfl)); intro gb889 hg w19 hbox hb; have n0_ := Aside0.mk (Kd.R_below (re_ HO884.out) hb); have n1_ := Aside0.mk (Kd.R_below (re_ HO887.out) hb); have n2_ := Aside0.mk (blk_below (g := gb880) (o := .cells #[.slice A0_0 l0_0.length c0_0] 24 (0, 0)) (be_ BK880.out) hb); have n3_ := Aside0.mk (below_step (by repeat (first | (with_reducible first | exact HB.out | apply below_alloc | apply pw_below_drewN | apply below_drew1 | refine below_set ?_ GE880.out) | exact HB.out)) hb); have n4_ := Aside0.mk (hbox); have n5_ := Aside0.mk ((by rw [hg]; exact (below_size (by repeat (first | (with_reducible first | exact HB.out | apply below_alloc | apply pw_below_drewN | apply below_drew1 | refine below_set ?_ GE880.out) | exact HB.out))) : w.heap.size ≤ gb889)); have n6_ := Aside0.mk ((by rw [hg]; exact (below_size (by repeat (first | (with_reducible first | exact HB.out | apply below_alloc | apply pw_below_drewN | apply below_drew1 | refine below_set ?_ GE880.out) | exact HB.out))) : w.heap.size ≤ gb889)); have n7_ := Aside0.mk ((by rw [hg]; exact Nat.ne_of_lt (blk_lt (g := gb880) (o := .cells #[.slice A0_0 l0_0.length c0_0] 24 (0, 0)) (be_ BK880.out)) : gb880 ≠ gb889)); have n8_ := Aside0.mk ((by rw [hg]; exact Nat.ne_of_gt (blk_lt (g := gb880) (o := .cells #[.slice A0_0 l0_0.length c0_0] 24 (0, 0)) (be_ BK880.out)) : gb889 ≠ gb880)); clear HO884; clear HO887; clear BK880; clear HB; have HO884 := n0_; have HO887 := n1_; have BK880 := n2_; have HB := n3_; have BK889 := n4_; have GW889 := n5_; have GE889 := n6_; have NB880_889 := n7_; have NB889_880 := n8_; clear n0_ n1_ n2_ n3_ n4_ n5_ n6_ n7_ n8_; clear hb hbox hg; obtain ⟨Ao20, co20, eo20⟩ := Kd.R_slice HO887.out; subst eo20; have hnb21 := NB889_880.out; have hnc21 := NB880_889.out; have hcz22_0 : w19.cell? ⟨gb889, 0, none⟩ = some (.slice none 0 0) := (blk_cell BK889.out 0).trans rfl; have hfz22_0 := blk_frozen BK889.out 0; have hcz23_0 : w19.cell? ⟨gb880, 0, none⟩ = some (.slice A0_0 l0_0.length c0_0) := (blk_cell BK880.out 0).trans rfl; have hfz23_0 := blk_frozen BK880.out 0) | ((with_reducible refine gate_callee (f := 17) rfl ?_); refine goesL_ (some 26) rfl rfl Try.func17 (by kernel_rfl) rfl #[.agg #[.slice A0_0 l0_0.length c0_0]] rfl (by (try simp only [List.map_toArray, List.map_cons, List.map_nil]); first | done | rfl | (simp only [List.length_drop, List.length_take]; rfl)) ?_; (with_reducible refine (laws_toSemigroup.calls k _ _ l0_0 t890 _ ?side1 ?side2 A9.out).mono ?_); (case side1 => exact Kd.C_below HR0_0.out (by repeat (first | (with_reducible first | exact HB.out | apply below_alloc | apply pw_below_drewN | apply below_drew1 | refine below_set ?_ GE880.out | refine below_set ?_ GE889.out) | exact HB.out))); (case side2 => exact HC0_0.out); rintro e w24 ⟨v891, rfl, ho0, hb⟩; refine ⟨_, rfl, ?_⟩; have n0_ := Aside0.mk (Kd.R_elder' (by (with_reducible repeat (first | apply Kd.R_alloc | apply Kd.R_drewN | apply Kd.R_drew)); exact (Kd.R_mono (Kd.R_far (p := ⟨gb889, 0, none⟩) (Kd.R_types HO884.out BK889.out (by decide)) (fun _ hk => hk.2) (.slice Ao20 t885.length co20)) (fun _ h_ => h_.1))) (Kd.R_base ho0) hb); have n1_ := Aside0.mk (Kd.R_elder' (by (with_reducible repeat (first | apply Kd.R_alloc | apply Kd.R_drewN | apply Kd.R_drew)); exact (Kd.R_mono (Kd.R_far (p := ⟨gb889, 0, none⟩) (Kd.R_types HO887.out BK889.out (by decide)) (fun _ hk => hk.2) (.slice Ao20 t885.length co20)) (fun _ h_ => h_.1))) (Kd.R_base ho0) hb); have n2_ := Aside0.mk (Kd.R_lower (Kd.R_new' (Kd.R_new' ho0 (Kd.R_lt (by (with_reducible repeat (first | apply Kd.R_alloc | apply Kd.R_drewN | apply Kd.R_drew)); exact (Kd.R_mono (Kd.R_far (p := ⟨gb889, 0, none⟩) (Kd.R_types HO884.out BK889.out (by decide)) (fun _ hk => hk.2) (.slice Ao20 t885.length co20)) (fun _ h_ => h_.1))))) (Kd.R_lt (by (with_reducible repeat (first | apply Kd.R_alloc | apply Kd.R_drewN | apply Kd.R_drew)); exact (Kd.R_mono (Kd.R_far (p := ⟨gb889, 0, none⟩) (Kd.R_types HO887.out BK889.out (by decide)) (fun _ hk => hk.2) (.slice Ao20 t885.length co20)) (fun _ h_ => h_.1))))) (below_size (by repeat (first | (with_reducible first | exact HB.out | apply below_alloc | apply pw_below_drewN | apply below_drew1 | refine below_set ?_ GE880.out | refine below_set ?_ GE889.out) | exact HB.out)))); have n3_ := Aside0.mk (blk_below (g := gb880) (o := .cells #[.slice A0_0 l0_0.length c0_0] 24 (0, 0)) (by (with_reducible repeat (first | refine blk_drewN ?_ _ | refine blk_drew ?_ | refine blk_alloc ?_ _)); refine blk_far ?_ NB880_889.out _; (with_reducible repeat (first | refine blk_drewN ?_ _ | refine blk_drew ?_ | refine blk_alloc ?_ _)); exact BK880.out) hb); have n4_ := Aside0.mk (blk_below (g := gb889) (o := .cells #[.slice Ao20 t885.length co20] 27 (0, 0)) (by (with_reducible repeat (first | refine blk_drewN ?_ _ | refine blk_drew ?_ | refine blk_alloc ?_ _)); refine blk_put (cs := #[.slice none 0 0]) ?_ 0 _ rfl; (with_reducible repeat (first | refine blk_drewN ?_ _ | refine blk_drew ?_ | refine blk_alloc ?_ _)); exact BK889.out) hb); have n5_ := Aside0.mk (below_step (by repeat (first | (with_reducible first | exact HB.out | apply below_alloc | apply pw_below_drewN | apply below_drew1 | refine below_set ?_ GE880.out | refine below_set ?_ GE889.out) | exact HB.out)) hb); clear HO884; clear HO887; clear BK880; clear BK889; clear HB; have HO884 := n0_; have HO887 := n1_; have HO892 := n2_; have BK880 := n3_; have BK889 := n4_; have HB := n5_; clear n0_ n1_ n2_ n3_ n4_ n5_; (try clear hb); (try clear hb2); (try clear hk); (try clear hi); (try clear ho0)) | ((with_reducible refine gate_dst (N := 6) rfl ?_); refine box_event ?hg (N := 6) ?hd (cs := #[.slice none 0 0]) (t := 27) ?hr ?_; (case hd => rfl); (case hg => rfl); (case hr => first | (go_simp; done) | (go_simp; rfl)); intro gb893 hg w25 hbox hb; have n0_ := Aside0.mk (Kd.R_below (re_ HO884.out) hb); have n1_ := Aside0.mk (Kd.R_below (re_ HO887.out) hb); have n2_ := Aside0.mk (Kd.R_below (re_ HO892.out) hb); have n3_ := Aside0.mk (blk_below (g := gb880) (o := .cells #[.slice A0_0 l0_0.length c0_0] 24 (0, 0)) (be_ BK880.out) hb); have n4_ := Aside0.mk (blk_below (g := gb889) (o := .cells #[.slice Ao20 t885.length co20] 27 (0, 0)) (be_ BK889.out) hb); have n5_ := Aside0.mk (below_step (by repeat (first | (with_reducible first | exact HB.out | apply below_alloc | apply pw_below_drewN | apply below_drew1 | refine below_set ?_ GE880.out | refine below_set ?_ GE889.out) | exact HB.out)) hb); have n6_ := Aside0.mk (hbox); have n7_ := Aside0.mk ((by rw [hg]; exact (below_size (by repeat (first | (with_reducible first | exact HB.out | apply below_alloc | apply pw_below_drewN | apply below_drew1 | refine below_set ?_ GE880.out | refine below_set ?_ GE889.out) | exact HB.out))) : w.heap.size ≤ gb893)); have n8_ := Aside0.mk ((by rw [hg]; exact (below_size (by repeat (first | (with_reducible first | exact HB.out | apply below_alloc | apply pw_below_drewN | apply below_drew1 | refine below_set ?_ GE880.out | refine below_set ?_ GE889.out) | exact HB.out))) : w.heap.size ≤ gb893)); have n9_ := Aside0.mk ((by rw [hg]; exact Nat.ne_of_lt (blk_lt (g := gb880) (o := .cells #[.slice A0_0 l0_0.length c0_0] 24 (0, 0)) (be_ BK880.out)) : gb880 ≠ gb893)); have n10_ := Aside0.mk ((by rw [hg]; exact Nat.ne_of_gt (blk_lt (g := gb880) (o := .cells #[.slice A0_0 l0_0.length c0_0] 24 (0, 0)) (be_ BK880.out)) : gb893 ≠ gb880)); have n11_ := Aside0.mk ((by rw [hg]; exact Nat.ne_of_lt (blk_lt (g := gb889) (o := .cells #[.slice Ao20 t885.length co20] 27 (0, 0)) (be_ BK889.out)) : gb889 ≠ gb893)); have n12_ := Aside0.mk ((by rw [hg]; exact Nat.ne_of_gt (blk_lt (g := gb889) (o := .cells #[.slice Ao20 t885.length co20] 27 (0, 0)) (be_ BK889.out)) : gb893 ≠ gb889)); clear HO884; clear HO887; clear HO892; clear BK880; clear BK889; clear HB; have HO884 := n0_; have HO887 := n1_; have HO892 := n2_; have BK880 := n3_; have BK889 := n4_; have HB := n5_; have BK893 := n6_; have GW893 := n7_; have GE893 := n8_; have NB880_893 := n9_; have NB893_880 := n10_; have NB889_893 := n11_; have NB893_889 := n12_; clear n0_ n1_ n2_ n3_ n4_ n5_ n6_ n7_ n8_ n9_ n10_ n11_ n12_; clear hb hbox hg; obtain ⟨Ao26, co26, eo26⟩ := Kd.R_slice HO892.out; subst eo26; have hnb27 := NB893_880.out; have hnc27 := NB880_893.out; have hnb28 := NB893_889.out; have hnc28 := NB889_893.out; have hcz29_0 : w25.cell? ⟨gb893, 0, none⟩ = some (.slice none 0 0) := (blk_cell BK893.out 0).trans rfl; have hfz29_0 := blk_frozen BK893.out 0) | ((with_reducible refine gate_callee (f := 46) rfl ?_); refine goesL_ (some 29) rfl rfl Try.func46 (by kernel_rfl) rfl #[.agg #[.slice Ao26 t890.length co26]] rfl (by (try simp only [List.map_toArray, List.map_cons, List.map_nil]); first | done | rfl | (simp only [List.length_drop, List.length_take]; rfl)) ?_; (with_reducible refine (impl_ArfClosure.calls k _ _ t890 t894 t897 _ ?side1 ?side2 A10.out).mono ?_); (case side1 => refine (Kd.R_reads' (e := 3) (base := w.heap.size) (ok := fun k_ => ((True ∧ some k_ ≠ (.slice Ao17 t882.length co17 : Value).ownBlock) ∧ some k_ ≠ (.slice Ao20 t885.length co20 : Value).ownBlock)) (n := t890.length) (c := co26) ?_).2.2; exact (by (with_reducible repeat (first | apply Kd.R_alloc | apply Kd.R_drewN | apply Kd.R_drew)); exact (Kd.R_mono (Kd.R_far (p := ⟨gb893, 0, none⟩) (Kd.R_types HO892.out BK893.out (by decide)) (fun _ hk => hk.2) (.slice Ao26 t890.length co26)) (fun _ h_ => h_.1)))); (case side2 => exact (Kd.R_reads' HO892.out).2.1); rintro e w30 ⟨v895, rfl, ho0, hb⟩; refine ⟨_, rfl, ?_⟩; have n0_ := Aside0.mk (Kd.R_elder' (by (with_reducible repeat (first | apply Kd.R_alloc | apply Kd.R_drewN | apply Kd.R_drew)); exact (Kd.R_mono (Kd.R_far (p := ⟨gb893, 0, none⟩) (Kd.R_types HO884.out BK893.out (by decide)) (fun _ hk => hk.2) (.slice Ao26 t890.length co26)) (fun _ h_ => h_.1))) (Kd.R_base ho0) hb); have n1_ := Aside0.mk (Kd.R_elder' (by (with_reducible repeat (first | apply Kd.R_alloc | apply Kd.R_drewN | apply Kd.R_drew)); exact (Kd.R_mono (Kd.R_far (p := ⟨gb893, 0, none⟩) (Kd.R_types HO887.out BK893.out (by decide)) (fun _ hk => hk.2) (.slice Ao26 t890.length co26)) (fun _ h_ => h_.1))) (Kd.R_base ho0) hb); have n2_ := Aside0.mk (Kd.R_elder' (by (with_reducible repeat (first | apply Kd.R_alloc | apply Kd.R_drewN | apply Kd.R_drew)); exact (Kd.R_mono (Kd.R_far (p := ⟨gb893, 0, none⟩) (Kd.R_types HO892.out BK893.out (by decide)) (fun _ hk => hk.2) (.slice Ao26 t890.length co26)) (fun _ h_ => h_.1))) (Kd.R_base ho0) hb); have n3_ := Aside0.mk (Kd.R_lower (Kd.R_new' (Kd.R_new' (Kd.R_new' ho0 (Kd.R_lt (by (with_reducible repeat (first | apply Kd.R_alloc | apply Kd.R_drewN | apply Kd.R_drew)); exact (Kd.R_mono (Kd.R_far (p := ⟨gb893, 0, none⟩) (Kd.R_types HO884.out BK893.out (by decide)) (fun _ hk => hk.2) (.slice Ao26 t890.length co26)) (fun _ h_ => h_.1))))) (Kd.R_lt (by (with_reducible repeat (first | apply Kd.R_alloc | apply Kd.R_drewN | apply Kd.R_drew)); exact (Kd.R_mono (Kd.R_far (p := ⟨gb893, 0, none⟩) (Kd.R_types HO887.out BK893.out (by decide)) (fun _ hk => hk.2) (.slice Ao26 t890.length co26)) (fun _ h_ => h_.1))))) (Kd.R_lt (by (with_reducible repeat (first | apply Kd.R_alloc | apply Kd.R_drewN | apply Kd.R_drew)); exact (Kd.R_mono (Kd.R_far (p := ⟨gb893, 0, none⟩) (Kd.R_types HO892.out BK893.out (by decide)) (fun _ hk => hk.2) (.slice Ao26 t890.length co26)) (fun _ h_ => h_.1))))) (below_size (by repeat (first | (with_reducible first | exact HB.out | apply below_alloc | apply pw_below_drewN | apply below_drew1 | refine below_set ?_ GE880.out | refine below_set ?_ GE889.out | refine below_set ?_ GE893.out) | exact HB.out)))); have n4_ := Aside0.mk (blk_below (g := gb880) (o := .cells #[.slice A0_0 l0_0.length c0_0] 24 (0, 0)) (by (with_reducible repeat (first | refine blk_drewN ?_ _ | refine blk_drew ?_ | refine blk_alloc ?_ _)); refine blk_far ?_ NB880_893.out _; (with_reducible repeat (first | refine blk_drewN ?_ _ | refine blk_drew ?_ | refine blk_alloc ?_ _)); exact BK880.out) hb); have n5_ := Aside0.mk (blk_below (g := gb889) (o := .cells #[.slice Ao20 t885.length co20] 27 (0, 0)) (by (with_reducible repeat (first | refine blk_drewN ?_ _ | refine blk_drew ?_ | refine blk_alloc ?_ _)); refine blk_far ?_ NB889_893.out _; (with_reducible repeat (first | refine blk_drewN ?_ _ | refine blk_drew ?_ | refine blk_alloc ?_ _)); exact BK889.out) hb); have n6_ := Aside0.mk (blk_below (g := gb893) (o := .cells #[.slice Ao26 t890.length co26] 27 (0, 0)) (by (with_reducible repeat (first | refine blk_drewN ?_ _ | refine blk_drew ?_ | refine blk_alloc ?_ _)); refine blk_put (cs := #[.slice none 0 0]) ?_ 0 _ rfl; (with_reducible repeat (first | refine blk_drewN ?_ _ | refine blk_drew ?_ | refine blk_alloc ?_ _)); exact BK893.out) hb); have n7_ := Aside0.mk (below_step (by repeat (first | (with_reducible first | exact HB.out | apply below_alloc | apply pw_below_drewN | apply below_drew1 | refine below_set ?_ GE880.out | refine below_set ?_ GE889.out | refine below_set ?_ GE893.out) | exact HB.out)) hb); clear HO884; clear HO887; clear HO892; clear BK880; clear BK889; clear BK893; clear HB; have HO884 := n0_; have HO887 := n1_; have HO892 := n2_; have HO896 := n3_; have BK880 := n4_; have BK889 := n5_; have BK893 := n6_; have HB := n7_; clear n0_ n1_ n2_ n3_ n4_ n5_ n6_ n7_; (try clear hb); (try clear hb2); (try clear hk); (try clear hi); (try clear ho0)) | ((with_reducible refine gate_dst (N := 7) rfl ?_); refine box_event ?hg (N := 7) ?hd (cs := #[.slice none 0 0]) (t := 27) ?hr ?_; (case hd => rfl); (case hg => rfl); (case hr => first | (go_simp; done) | (go_simp; rfl)); intro gb898 hg w31 hbox hb; have n0_ := Aside0.mk (Kd.R_below (re_ HO884.out) hb); have n1_ := Aside0.mk (Kd.R_below (re_ HO887.out) hb); have n2_ := Aside0.mk (Kd.R_below (re_ HO892.out) hb); have n3_ := Aside0.mk (Kd.R_below (re_ HO896.out) hb); have n4_ := Aside0.mk (blk_below (g := gb880) (o := .cells #[.slice A0_0 l0_0.length c0_0] 24 (0, 0)) (be_ BK880.out) hb); have n5_ := Aside0.mk (blk_below (g := gb889) (o := .cells #[.slice Ao20 t885.length co20] 27 (0, 0)) (be_ BK889.out) hb); have n6_ := Aside0.mk (blk_below (g := gb893) (o := .cells #[.slice Ao26 t890.length co26] 27 (0, 0)) (be_ BK893.out) hb); have n7_ := Aside0.mk (below_step (by repeat (first | (with_reducible first | exact HB.out | apply below_alloc | apply pw_below_drewN | apply below_drew1 | refine below_set ?_ GE880.out | refine below_set ?_ GE889.out | refine below_set ?_ GE893.out) | exact HB.out)) hb); have n8_ := Aside0.mk (hbox); have n9_ := Aside0.mk ((by rw [hg]; exact (below_size (by repeat (first | (with_reducible first | exact HB.out | apply below_alloc | apply pw_below_drewN | apply below_drew1 | refine below_set ?_ GE880.out | refine below_set ?_ GE889.out | refine below_set ?_ GE893.out) | exact HB.out))) : w.heap.size ≤ gb898)); have n10_ := Aside0.mk ((by rw [hg]; exact (below_size (by repeat (first | (with_reducible first | exact HB.out | apply below_alloc | apply pw_below_drewN | apply below_drew1 | refine below_set ?_ GE880.out | refine below_set ?_ GE889.out | refine below_set ?_ GE893.out) | exact HB.out))) : w.heap.size ≤ gb898)); have n11_ := Aside0.mk ((by rw [hg]; exact Nat.ne_of_lt (blk_lt (g := gb880) (o := .cells #[.slice A0_0 l0_0.length c0_0] 24 (0, 0)) (be_ BK880.out)) : gb880 ≠ gb898)); have n12_ := Aside0.mk ((by rw [hg]; exact Nat.ne_of_gt (blk_lt (g := gb880) (o := .cells #[.slice A0_0 l0_0.length c0_0] 24 (0, 0)) (be_ BK880.out)) : gb898 ≠ gb880)); have n13_ := Aside0.mk ((by rw [hg]; exact Nat.ne_of_lt (blk_lt (g := gb889) (o := .cells #[.slice Ao20 t885.length co20] 27 (0, 0)) (be_ BK889.out)) : gb889 ≠ gb898)); have n14_ := Aside0.mk ((by rw [hg]; exact Nat.ne_of_gt (blk_lt (g := gb889) (o := .cells #[.slice Ao20 t885.length co20] 27 (0, 0)) (be_ BK889.out)) : gb898 ≠ gb889)); have n15_ := Aside0.mk ((by rw [hg]; exact Nat.ne_of_lt (blk_lt (g := gb893) (o := .cells #[.slice Ao26 t890.length co26] 27 (0, 0)) (be_ BK893.out)) : gb893 ≠ gb898)); have n16_ := Aside0.mk ((by rw [hg]; exact Nat.ne_of_gt (blk_lt (g := gb893) (o := .cells #[.slice Ao26 t890.length co26] 27 (0, 0)) (be_ BK893.out)) : gb898 ≠ gb893)); clear HO884; clear HO887; clear HO892; clear HO896; clear BK880; clear BK889; clear BK893; clear HB; have HO884 := n0_; have HO887 := n1_; have HO892 := n2_; have HO896 := n3_; have BK880 := n4_; have BK889 := n5_; have BK893 := n6_; have HB := n7_; have BK898 := n8_; have GW898 := n9_; have GE898 := n10_; have NB880_898 := n11_; have NB898_880 := n12_; have NB889_898 := n13_; have NB898_889 := n14_; have NB893_898 := n15_; have NB898_893 := n16_; clear n0_ n1_ n2_ n3_ n4_ n5_ n6_ n7_ n8_ n9_ n10_ n11_ n12_ n13_ n14_ n15_ n16_; clear hb hbox hg; obtain ⟨Ao32, co32, eo32⟩ := Kd.R_slice HO896.out; subst eo32; have hnb33 := NB898_880.out; have hnc33 := NB880_898.out; have hnb34 := NB898_889.out; have hnc34 := NB889_898.out; have hnb35 := NB898_893.out; have hnc35 := NB893_898.out; have hcz36_0 : w31.cell? ⟨gb898, 0, none⟩ = some (.slice none 0 0) := (blk_cell BK898.out 0).trans rfl; have hfz36_0 := blk_frozen BK898.out 0))
   (try simp only [Act.put, z1_, z2_, z3_])
   go_cut [40] (fun v40 wc => ∃ (kq : Nat) (x40_10 : Bool), v40 = .bool x40_10 ∧ Aside0 (laws_FnExactArfClosure.j0 kq t888 t897 x40_10 l0_0 t885 t890 t894 = some true) ∧ Aside0 (kq ≤ k) ∧ Aside0 (Kd.R (Kd.int .i64) 3 wc w.heap.size (fun k_ => some k_ ≠ ((.slice Ao26 t890.length co26) : Value).ownBlock ∧ some k_ ≠ ((.slice Ao32 t894.length co32) : Value).ownBlock) (.slice Ao20 t885.length co20) t885) ∧ Aside0 (Kd.R (Kd.int .i64) 3 wc w.heap.size (fun k_ => some k_ ≠ ((.slice Ao20 t885.length co20) : Value).ownBlock ∧ some k_ ≠ ((.slice Ao32 t894.length co32) : Value).ownBlock) (.slice Ao26 t890.length co26) t890) ∧ Aside0 (Kd.R (Kd.int .i64) 3 wc w.heap.size (fun k_ => some k_ ≠ ((.slice Ao20 t885.length co20) : Value).ownBlock ∧ some k_ ≠ ((.slice Ao26 t890.length co26) : Value).ownBlock) (.slice Ao32 t894.length co32) t894) ∧ Aside0 (wc.heap[gb880]? = some (.cells #[(.slice A0_0 l0_0.length c0_0)] 24 (0, 0))) ∧ Aside0 (wc.heap[gb889]? = some (.cells #[(.slice Ao20 t885.length co20)] 27 (0, 0))) ∧ Aside0 (wc.heap[gb893]? = some (.cells #[(.slice Ao26 t890.length co26)] 27 (0, 0))) ∧ Aside0 (wc.heap[gb898]? = some (.cells #[(.slice Ao32 t894.length co32)] 27 (0, 0))) ∧ Aside0 (Below w.heap.size w wc))
   case first =>
    have H := HC11.out
    clear HC11
    replace H := Option.bind_eq_some_iff.mp H
    obtain ⟨t899, A370, H⟩ := H
    replace H : (if t899 = true then (laws_FnExactArfClosure.j0 k t888 t897 (t897 != t888) l0_0 t885 t890 t894) else (laws_FnExactArfClosure.j0 k t888 t897 true l0_0 t885 t890 t894)) = some true := H
    have A37 := Aside0.mk A370
    clear A370
    by_cases c38 : t899 = true
    · subst c38
      have H1 : (laws_FnExactArfClosure.j0 k t888 t897 (t897 != t888) l0_0 t885 t890 t894) = some true := by rw [if_pos rfl] at H; exact H
      clear H
      have H := H1
      clear H1
      have H' := Aside0.mk H
      clear H
      have hnb39 := NB898_880.out
      have hnc39 := NB880_898.out
      have hnb40 := NB898_889.out
      have hnc40 := NB889_898.out
      have hnb41 := NB898_893.out
      have hnc41 := NB893_898.out
      have hcz42_0 : w31.cell? ⟨gb898, 0, none⟩ = some (.slice none 0 0) := (blk_cell BK898.out 0).trans rfl
      have hfz42_0 := blk_frozen BK898.out 0
      have hnb43 := NB889_880.out
      have hnc43 := NB880_889.out
      have hnb44 := NB889_893.out
      have hnc44 := NB893_889.out
      have hcz45_0 : w31.cell? ⟨gb889, 0, none⟩ = some (.slice Ao20 t885.length co20) := (blk_cell BK889.out 0).trans rfl
      have hfz45_0 := blk_frozen BK889.out 0
      go_wp2_with (first | ((with_reducible refine gate_callee (f := 19) rfl ?_); refine goesL_ (some 34) rfl rfl Try.func19 (by kernel_rfl) rfl #[.agg #[.slice Ao32 t894.length co32], .agg #[.slice Ao20 t885.length co20]] rfl (by (try simp only [List.map_toArray, List.map_cons, List.map_nil]); first | done | rfl | (simp only [List.length_drop, List.length_take]; rfl)) ?_; (with_reducible refine (laws_eqSemigroup.calls k _ _ t894 _ _ t885 true _ ?side1 ?side2 ?side3 ?side4 A37.out).mono ?_); (case side1 => refine (Kd.R_reads' (e := 3) (base := w.heap.size) (ok := fun k_ => (((True ∧ some k_ ≠ (.slice Ao17 t882.length co17 : Value).ownBlock) ∧ some k_ ≠ (.slice Ao20 t885.length co20 : Value).ownBlock) ∧ some k_ ≠ (.slice Ao26 t890.length co26 : Value).ownBlock)) (n := t894.length) (c := co32) ?_).2.2; exact (by (with_reducible repeat (first | apply Kd.R_alloc | apply Kd.R_drewN | apply Kd.R_drew)); exact (Kd.R_mono (Kd.R_far (p := ⟨gb898, 0, none⟩) (Kd.R_types HO896.out BK898.out (by decide)) (fun _ hk => hk.2) (.slice Ao32 t894.length co32)) (fun _ h_ => h_.1)))); (case side2 => exact (Kd.R_reads' HO896.out).2.1); (case side3 => refine (Kd.R_reads' (e := 3) (base := w.heap.size) (ok := fun k_ => (((True ∧ some k_ ≠ (.slice Ao17 t882.length co17 : Value).ownBlock) ∧ some k_ ≠ (.slice Ao26 t890.length co26 : Value).ownBlock) ∧ some k_ ≠ (.slice Ao32 t894.length co32 : Value).ownBlock)) (n := t885.length) (c := co20) ?_).2.2; exact (by (with_reducible repeat (first | apply Kd.R_alloc | apply Kd.R_drewN | apply Kd.R_drew)); exact (Kd.R_mono (Kd.R_far (p := ⟨gb898, 0, none⟩) (Kd.R_types HO887.out BK898.out (by decide)) (fun _ hk => hk.2) (.slice Ao32 t894.length co32)) (fun _ h_ => h_.1)))); (case side4 => exact (Kd.R_reads' HO887.out).2.1); rintro e w46 ⟨rfl, hb⟩; refine ⟨_, rfl, ?_⟩; have n0_ := Aside0.mk (Kd.R_below (by (with_reducible repeat (first | apply Kd.R_alloc | apply Kd.R_drewN | apply Kd.R_drew)); exact (Kd.R_mono (Kd.R_far (p := ⟨gb898, 0, none⟩) (Kd.R_types HO884.out BK898.out (by decide)) (fun _ hk => hk.2) (.slice Ao32 t894.length co32)) (fun _ h_ => h_.1))) hb); have n1_ := Aside0.mk (Kd.R_below (by (with_reducible repeat (first | apply Kd.R_alloc | apply Kd.R_drewN | apply Kd.R_drew)); exact (Kd.R_mono (Kd.R_far (p := ⟨gb898, 0, none⟩) (Kd.R_types HO887.out BK898.out (by decide)) (fun _ hk => hk.2) (.slice Ao32 t894.length co32)) (fun _ h_ => h_.1))) hb); have n2_ := Aside0.mk (Kd.R_below (by (with_reducible repeat (first | apply Kd.R_alloc | apply Kd.R_drewN | apply Kd.R_drew)); exact (Kd.R_mono (Kd.R_far (p := ⟨gb898, 0, none⟩) (Kd.R_types HO892.out BK898.out (by decide)) (fun _ hk => hk.2) (.slice Ao32 t894.length co32)) (fun _ h_ => h_.1))) hb); have n3_ := Aside0.mk (Kd.R_below (by (with_reducible repeat (first | apply Kd.R_alloc | apply Kd.R_drewN | apply Kd.R_drew)); exact (Kd.R_mono (Kd.R_far (p := ⟨gb898, 0, none⟩) (Kd.R_types HO896.out BK898.out (by decide)) (fun _ hk => hk.2) (.slice Ao32 t894.length co32)) (fun _ h_ => h_.1))) hb); have n4_ := Aside0.mk (blk_below (g := gb880) (o := .cells #[.slice A0_0 l0_0.length c0_0] 24 (0, 0)) (by (with_reducible repeat (first | refine blk_drewN ?_ _ | refine blk_drew ?_ | refine blk_alloc ?_ _)); refine blk_far ?_ NB880_898.out _; (with_reducible repeat (first | refine blk_drewN ?_ _ | refine blk_drew ?_ | refine blk_alloc ?_ _)); exact BK880.out) hb); have n5_ := Aside0.mk (blk_below (g := gb889) (o := .cells #[.slice Ao20 t885.length co20] 27 (0, 0)) (by (with_reducible repeat (first | refine blk_drewN ?_ _ | refine blk_drew ?_ | refine blk_alloc ?_ _)); refine blk_far ?_ NB889_898.out _; (with_reducible repeat (first | refine blk_drewN ?_ _ | refine blk_drew ?_ | refine blk_alloc ?_ _)); exact BK889.out) hb); have n6_ := Aside0.mk (blk_below (g := gb893) (o := .cells #[.slice Ao26 t890.length co26] 27 (0, 0)) (by (with_reducible repeat (first | refine blk_drewN ?_ _ | refine blk_drew ?_ | refine blk_alloc ?_ _)); refine blk_far ?_ NB893_898.out _; (with_reducible repeat (first | refine blk_drewN ?_ _ | refine blk_drew ?_ | refine blk_alloc ?_ _)); exact BK893.out) hb); have n7_ := Aside0.mk (blk_below (g := gb898) (o := .cells #[.slice Ao32 t894.length co32] 27 (0, 0)) (by (with_reducible repeat (first | refine blk_drewN ?_ _ | refine blk_drew ?_ | refine blk_alloc ?_ _)); refine blk_put (cs := #[.slice none 0 0]) ?_ 0 _ rfl; (with_reducible repeat (first | refine blk_drewN ?_ _ | refine blk_drew ?_ | refine blk_alloc ?_ _)); exact BK898.out) hb); have n8_ := Aside0.mk (below_step (by repeat (first | (with_reducible first | exact HB.out | apply below_alloc | apply pw_below_drewN | apply below_drew1 | refine below_set ?_ GE880.out | refine below_set ?_ GE889.out | refine below_set ?_ GE893.out | refine below_set ?_ GE898.out) | exact HB.out)) hb); clear HO884; clear HO887; clear HO892; clear HO896; clear BK880; clear BK889; clear BK893; clear BK898; clear HB; have HO884 := n0_; have HO887 := n1_; have HO892 := n2_; have HO896 := n3_; have BK880 := n4_; have BK889 := n5_; have BK893 := n6_; have BK898 := n7_; have HB := n8_; clear n0_ n1_ n2_ n3_ n4_ n5_ n6_ n7_ n8_; (try clear hb); (try clear hb2); (try clear hk); (try clear hi)))
      go_meet
      case rel => exact ⟨_, ((t897 != t888)), (by first | rfl | (simp; done) | (simp [*]; done)), H', ⟨by first | omega | exact Nat.le_refl _⟩, ⟨by (with_reducible repeat (first | apply Kd.R_alloc | apply Kd.R_drewN | apply Kd.R_drew)); exact Kd.R_mono HO887.out (fun _ hk => ⟨hk.1.2, hk.2⟩)⟩, ⟨by (with_reducible repeat (first | apply Kd.R_alloc | apply Kd.R_drewN | apply Kd.R_drew)); exact Kd.R_mono HO892.out (fun _ hk => ⟨hk.1.2, hk.2⟩)⟩, ⟨by (with_reducible repeat (first | apply Kd.R_alloc | apply Kd.R_drewN | apply Kd.R_drew)); exact Kd.R_mono HO896.out (fun _ hk => ⟨hk.1.2, hk.2⟩)⟩, ⟨be_ BK880.out⟩, ⟨be_ BK889.out⟩, ⟨be_ BK893.out⟩, ⟨be_ BK898.out⟩, ⟨by repeat (first | (with_reducible first | exact HB.out | apply below_alloc | apply pw_below_drewN | apply below_drew1 | refine below_set ?_ GE880.out | refine below_set ?_ GE889.out | refine below_set ?_ GE893.out | refine below_set ?_ GE898.out) | exact HB.out)⟩⟩
    · replace c38 := Bool.eq_false_iff.mpr c38
      subst c38
      have H1 : (laws_FnExactArfClosure.j0 k t888 t897 true l0_0 t885 t890 t894) = some true := by rw [if_neg (show ¬ (false = true) by decide)] at H; exact H
      exact absurd H1 (by cases k <;> simp [laws_FnExactArfClosure.j0])
   case rest =>
    clear HC11
    try clear c1
    try clear c2
    try clear p2
    try clear c3
    try clear c3b0
    try clear c4
    try clear c5
    try clear c12
    try clear c15
    try clear c17
    try clear c19
    try clear c21
    try clear c27
    try clear c28
    try clear c33
    try clear c34
    try clear c35
    try clear c38
    try clear c39
    try clear c40
    try clear c41
    try clear c43
    try clear c44
    try clear c45
    try clear c46
    try clear c47
    try clear c48
    try clear c49
    try clear c51
    try clear c52
    try clear hcz13_0
    try clear hcz15_0
    try clear hcz22_0
    try clear hcz23_0
    try clear hcz29_0
    try clear hcz36_0
    try clear hcz42_0
    try clear hcz45_0
    try clear hcz50_0
    try clear hcz53_0
    try clear hcz5_0
    try clear hfz13_0
    try clear hfz15_0
    try clear hfz22_0
    try clear hfz23_0
    try clear hfz29_0
    try clear hfz36_0
    try clear hfz42_0
    try clear hfz45_0
    try clear hfz50_0
    try clear hfz53_0
    try clear hfz5_0
    obtain ⟨kq, x40_10, rfl, HA, HJ10, HO_890000, HO_894000, HO_899000, BK880, BK889, BK893, BK898, HB⟩ := hcut
    cases kq with
    | zero => exact absurd HA.out (by simp [laws_FnExactArfClosure.j0])
    | succ kj10 =>
     have H := HA.out
     clear HA
     simp only [laws_FnExactArfClosure.j0] at H
     by_cases c55 : x40_10 = true
     · subst c55
       have H1 : (some false) = some true := by rw [if_pos rfl] at H; exact H
       exact absurd H1 (by simp)
     · replace c55 := Bool.eq_false_iff.mpr c55
       subst c55
       have H1 : ((laws_toSemigroup.f kj10 l0_0).bind fun t900 => ((laws_eqSemigroup.f kj10 t890 t900).bind fun t903 => (if t903 = true then ((laws_markSemigroup.f kj10 t890 1).bind fun bt904 => (if bt904.1 < 0 then (laws_FnExactArfClosure.j1 kj10 t888 true l0_0 t885 t894) else ((laws_eqSemigroup.f kj10 t894 t885).bind fun t906 => (if t906 = true then (laws_FnExactArfClosure.j1 kj10 t888 (t897 != t888) l0_0 t885 t894) else (laws_FnExactArfClosure.j1 kj10 t888 true l0_0 t885 t894))))) else (some false)))) = some true := by rw [if_neg (show ¬ (false = true) by decide)] at H; exact H
       clear H
       have H := H1
       clear H1
       replace H := Option.bind_eq_some_iff.mp H
       obtain ⟨t900, A560, H⟩ := H
       replace H : ((laws_eqSemigroup.f kj10 t890 t900).bind fun t903 => (if t903 = true then ((laws_markSemigroup.f kj10 t890 1).bind fun bt904 => (if bt904.1 < 0 then (laws_FnExactArfClosure.j1 kj10 t888 true l0_0 t885 t894) else ((laws_eqSemigroup.f kj10 t894 t885).bind fun t906 => (if t906 = true then (laws_FnExactArfClosure.j1 kj10 t888 (t897 != t888) l0_0 t885 t894) else (laws_FnExactArfClosure.j1 kj10 t888 true l0_0 t885 t894))))) else (some false))) = some true := H
       have A56 := Aside0.mk A560
       clear A560
       replace H := Option.bind_eq_some_iff.mp H
       obtain ⟨t903, A570, H⟩ := H
       replace H : (if t903 = true then ((laws_markSemigroup.f kj10 t890 1).bind fun bt904 => (if bt904.1 < 0 then (laws_FnExactArfClosure.j1 kj10 t888 true l0_0 t885 t894) else ((laws_eqSemigroup.f kj10 t894 t885).bind fun t906 => (if t906 = true then (laws_FnExactArfClosure.j1 kj10 t888 (t897 != t888) l0_0 t885 t894) else (laws_FnExactArfClosure.j1 kj10 t888 true l0_0 t885 t894))))) else (some false)) = some true := H
       have A57 := Aside0.mk A570
       clear A570
       by_cases c58 : t903 = true
       · subst c58
         have H1 : ((laws_markSemigroup.f kj10 t890 1).bind fun bt904 => (if bt904.1 < 0 then (laws_FnExactArfClosure.j1 kj10 t888 true l0_0 t885 t894) else ((laws_eqSemigroup.f kj10 t894 t885).bind fun t906 => (if t906 = true then (laws_FnExactArfClosure.j1 kj10 t888 (t897 != t888) l0_0 t885 t894) else (laws_FnExactArfClosure.j1 kj10 t888 true l0_0 t885 t894))))) = some true := by rw [if_pos rfl] at H; exact H
         clear H
         have H := H1
         clear H1
         replace H := Option.bind_eq_some_iff.mp H
         obtain ⟨⟨t904, t905⟩, A590, H⟩ := H
         replace H : (if t904 < 0 then (laws_FnExactArfClosure.j1 kj10 t888 true l0_0 t885 t894) else ((laws_eqSemigroup.f kj10 t894 t885).bind fun t906 => (if t906 = true then (laws_FnExactArfClosure.j1 kj10 t888 (t897 != t888) l0_0 t885 t894) else (laws_FnExactArfClosure.j1 kj10 t888 true l0_0 t885 t894)))) = some true := H
         have A59 := Aside0.mk A590
         clear A590
         have HC60 := Aside0.mk H
         clear H
         try go_wp2
         have n0_ := Aside0.mk (Kd.R_drew HO_890000.out)
         have n1_ := Aside0.mk (Kd.R_drew HO_894000.out)
         have n2_ := Aside0.mk (Kd.R_drew HO_899000.out)
         have n3_ := Aside0.mk (blk_drew BK880.out)
         have n4_ := Aside0.mk (blk_drew BK889.out)
         have n5_ := Aside0.mk (blk_drew BK893.out)
         have n6_ := Aside0.mk (blk_drew BK898.out)
         have n7_ := Aside0.mk (below_drew1 HB.out)
         clear HO_890000
         clear HO_894000
         clear HO_899000
         clear BK880
         clear BK889
         clear BK893
         clear BK898
         clear HB
         have HO_890000 := n0_
         have HO_894000 := n1_
         have HO_899000 := n2_
         have BK880 := n3_
         have BK889 := n4_
         have BK893 := n5_
         have BK898 := n6_
         have HB := n7_
         clear n0_ n1_ n2_ n3_ n4_ n5_ n6_ n7_
         refine start_ (n := 5) (S := fun w' => w'.cell? ⟨gb893, 0, none⟩ = some (.slice Ao26 t890.length co26) ∧ w'.cell? ⟨gb880, 0, none⟩ = some (.slice A0_0 l0_0.length c0_0)) (ds := []) (B_ 0 5) (by kernel_rfl) rfl rfl ⟨(blk_cell BK893.out 0).trans rfl, (blk_cell BK880.out 0).trans rfl⟩ (fun hHeld => ?_)
         generalize wc.drew = w61 at HO_890000 HO_894000 HO_899000 BK880 BK889 BK893 BK898 HB hHeld ⊢
         refine take_ (i := 0) (N := some 41) (v := ?_) (a' := ?_) (B_ 1 5) rfl rfl (by kernel_rfl) (fun _ _ _ h => h) (Or.inl ⟨by rfl, ?_⟩) hHeld ?_ ?_
         rotate_left
         · rintro w' ⟨s0, s1⟩
           go_simp
           with_reducible rfl
         rotate_left
         · simp only [Act.put, z1_, z2_, z3_, i64_w, i32_w]
           rfl
         refine take_ (i := 1) (N := some 42) (v := ?_) (a' := ?_) (B_ 3 5) rfl rfl (by kernel_rfl) (fun _ _ _ h => h) (Or.inl ⟨by rfl, ?_⟩) hHeld ?_ ?_
         rotate_left
         · rintro w' ⟨s0, s1⟩
           go_simp
           with_reducible rfl
         rotate_left
         · simp only [Act.put, z1_, z2_, z3_, i64_w, i32_w]
           rfl
         refine one_ (i := 2) (N := some 43) (B_ 7 5) rfl rfl (by kernel_rfl) (by decide) (fun K hK => ?_)
         refine goes_ Try.func17 (by kernel_rfl) rfl #[.agg #[.slice A0_0 l0_0.length c0_0]] (by rfl) rfl rfl (by (try simp only [List.map_toArray, List.map_cons, List.map_nil]); first | done | rfl | (simp only [List.length_drop, List.length_take]; rfl)) ?_
         with_reducible refine (laws_toSemigroup.calls kj10 _ _ l0_0 t900 _ ?side1 ?side2 A56.out).mono ?_
         (case side1 => exact ce_ ((Kd.C_below HR0_0.out HB.out)))
         (case side2 => exact HC0_0.out)
         rintro e w62 ⟨v901, rfl, ho0, hb⟩
         refine ⟨_, rfl, ?_⟩
         have n0_ := Aside0.mk (Kd.R_elder' (re_ HO_890000.out) (Kd.R_base ho0) hb)
         have n1_ := Aside0.mk (Kd.R_elder' (re_ HO_894000.out) (Kd.R_base ho0) hb)
         have n2_ := Aside0.mk (Kd.R_elder' (re_ HO_899000.out) (Kd.R_base ho0) hb)
         have n3_ := Aside0.mk (Kd.R_lower (Kd.R_new' (Kd.R_new' (Kd.R_new' ho0 (Kd.R_lt (re_ HO_890000.out))) (Kd.R_lt (re_ HO_894000.out))) (Kd.R_lt (re_ HO_899000.out))) (below_size (by repeat (first | (with_reducible first | exact HB.out | apply below_alloc | apply pw_below_drewN | apply below_drew1 | refine below_set ?_ GE880.out | refine below_set ?_ GE889.out | refine below_set ?_ GE893.out | refine below_set ?_ GE898.out) | exact HB.out))))
         have n4_ := Aside0.mk (blk_below (g := gb880) (o := .cells #[.slice A0_0 l0_0.length c0_0] 24 (0, 0)) (be_ BK880.out) hb)
         have n5_ := Aside0.mk (blk_below (g := gb889) (o := .cells #[.slice Ao20 t885.length co20] 27 (0, 0)) (be_ BK889.out) hb)
         have n6_ := Aside0.mk (blk_below (g := gb893) (o := .cells #[.slice Ao26 t890.length co26] 27 (0, 0)) (be_ BK893.out) hb)
         have n7_ := Aside0.mk (blk_below (g := gb898) (o := .cells #[.slice Ao32 t894.length co32] 27 (0, 0)) (be_ BK898.out) hb)
         have n8_ := Aside0.mk (below_step (by repeat (first | (with_reducible first | exact HB.out | apply below_alloc | apply pw_below_drewN | apply below_drew1 | refine below_set ?_ GE880.out | refine below_set ?_ GE889.out | refine below_set ?_ GE893.out | refine below_set ?_ GE898.out) | exact HB.out)) hb)
         clear HO_890000
         clear HO_894000
         clear HO_899000
         clear BK880
         clear BK889
         clear BK893
         clear BK898
         clear HB
         have HO_890000 := n0_
         have HO_894000 := n1_
         have HO_899000 := n2_
         have HO902 := n3_
         have BK880 := n4_
         have BK889 := n5_
         have BK893 := n6_
         have BK898 := n7_
         have HB := n8_
         clear n0_ n1_ n2_ n3_ n4_ n5_ n6_ n7_ n8_
         (try clear hb)
         (try clear hb2)
         (try clear hk)
         (try clear hi)
         (try clear ho0)
         obtain ⟨Ao63, co63, eo63⟩ := Kd.R_slice HO902.out
         (first | subst eo63 | (injection eo63 with f1_ f2_ f3_; have f4_ := f1_.symm; have f5_ := f3_.symm; clear f1_ f2_ f3_; subst f4_; subst f5_))
         refine hK.out _ _ ⟨(blk_cell BK893.out 0).trans rfl, (blk_cell BK880.out 0).trans rfl⟩ (fun hHeld => ?_)
         clear hK K
         refine norm_ (a' := ?_) ?_ ?_
         rotate_left
         · show Act.put _ (some 43) _ = _
           simp only [Act.put, z1_, z2_, z3_, i64_w, i32_w]
           rfl
         refine one_ (i := 3) (N := some 44) (B_ 15 5) rfl rfl (by kernel_rfl) (by decide) (fun K hK => ?_)
         refine goes_ Try.func19 (by kernel_rfl) rfl #[.agg #[.slice Ao26 t890.length co26], .agg #[.slice Ao63 t900.length co63]] (by rfl) rfl rfl (by (try simp only [List.map_toArray, List.map_cons, List.map_nil]); first | done | rfl | (simp only [List.length_drop, List.length_take]; rfl)) ?_
         with_reducible refine (laws_eqSemigroup.calls kj10 _ _ t890 _ _ t900 true _ ?side1 ?side2 ?side3 ?side4 A57.out).mono ?_
         (case side1 => exact ce_ ((Kd.R_reads' HO_894000.out).2.2))
         (case side2 => exact (Kd.R_reads' HO_894000.out).2.1)
         (case side3 => exact ce_ ((Kd.R_reads' HO902.out).2.2))
         (case side4 => exact (Kd.R_reads' HO902.out).2.1)
         rintro e w64 ⟨rfl, hb⟩
         refine ⟨_, rfl, ?_⟩
         have n0_ := Aside0.mk (Kd.R_below (re_ HO_890000.out) hb)
         have n1_ := Aside0.mk (Kd.R_below (re_ HO_894000.out) hb)
         have n2_ := Aside0.mk (Kd.R_below (re_ HO_899000.out) hb)
         have n3_ := Aside0.mk (Kd.R_below (re_ HO902.out) hb)
         have n4_ := Aside0.mk (blk_below (g := gb880) (o := .cells #[.slice A0_0 l0_0.length c0_0] 24 (0, 0)) (be_ BK880.out) hb)
         have n5_ := Aside0.mk (blk_below (g := gb889) (o := .cells #[.slice Ao20 t885.length co20] 27 (0, 0)) (be_ BK889.out) hb)
         have n6_ := Aside0.mk (blk_below (g := gb893) (o := .cells #[.slice Ao26 t890.length co26] 27 (0, 0)) (be_ BK893.out) hb)
         have n7_ := Aside0.mk (blk_below (g := gb898) (o := .cells #[.slice Ao32 t894.length co32] 27 (0, 0)) (be_ BK898.out) hb)
         have n8_ := Aside0.mk (below_step (by repeat (first | (with_reducible first | exact HB.out | apply below_alloc | apply pw_below_drewN | apply below_drew1 | refine below_set ?_ GE880.out | refine below_set ?_ GE889.out | refine below_set ?_ GE893.out | refine below_set ?_ GE898.out) | exact HB.out)) hb)
         clear HO_890000
         clear HO_894000
         clear HO_899000
         clear HO902
         clear BK880
         clear BK889
         clear BK893
         clear BK898
         clear HB
         have HO_890000 := n0_
         have HO_894000 := n1_
         have HO_899000 := n2_
         have HO902 := n3_
         have BK880 := n4_
         have BK889 := n5_
         have BK893 := n6_
         have BK898 := n7_
         have HB := n8_
         clear n0_ n1_ n2_ n3_ n4_ n5_ n6_ n7_ n8_
         (try clear hb)
         (try clear hb2)
         (try clear hk)
         (try clear hi)
         refine hK.out _ _ ⟨(blk_cell BK893.out 0).trans rfl, (blk_cell BK880.out 0).trans rfl⟩ (fun hHeld => ?_)
         clear hK K
         refine norm_ (a' := ?_) ?_ ?_
         rotate_left
         · show Act.put _ (some 44) _ = _
           simp only [Act.put, z1_, z2_, z3_, i64_w, i32_w]
           rfl
         refine pure_ (i := 4) (N := some 45) (v := ?_) (a' := ?_) (B_ 31 5) rfl rfl (by kernel_rfl) (fun _ _ _ h => h) (Or.inl ⟨by rfl, ?_⟩) ?_ ?_
         rotate_left
         · intro w'
           go_simp
           with_reducible rfl
         rotate_left
         · simp only [Act.put, z1_, z2_, z3_, i64_w, i32_w]
           rfl
         refine done_ (by kernel_rfl) ?_
         have hnb65 := NB893_880.out
         have hnc65 := NB880_893.out
         have hnb66 := NB893_889.out
         have hnc66 := NB889_893.out
         have hnb67 := NB893_898.out
         have hnc67 := NB898_893.out
         have hcz68_0 : w64.cell? ⟨gb893, 0, none⟩ = some (.slice Ao26 t890.length co26) := (blk_cell BK893.out 0).trans rfl
         have hfz68_0 := blk_frozen BK893.out 0
         go_upto_region 14 with (first | ((with_reducible refine gate_callee (f := 47) rfl ?_); refine goesL_ (some 48) rfl rfl Try.func47 (by kernel_rfl) rfl #[.agg #[.slice Ao26 t890.length co26], .int .i64 1] rfl (by (try simp only [List.map_toArray, List.map_cons, List.map_nil]); first | done | rfl | (simp only [List.length_drop, List.length_take]; rfl)) ?_; (with_reducible refine (laws_markSemigroup.calls kj10 (fun k_ => some k_ = (.slice Ao26 t890.length co26 : Value).ownBlock) (.slice Ao26 t890.length co26) t890 1 t904 t905 w _ ?side1 ?side2 A59.out).mono ?_); (case side1 => repeat (first | (with_reducible first | exact HB.out | apply below_alloc | apply pw_below_drewN | apply below_drew1 | refine below_set ?_ GE880.out | refine below_set ?_ GE889.out | refine below_set ?_ GE893.out | refine below_set ?_ GE898.out) | exact HB.out)); (case side2 => exact Kd.R_tight rfl HO_894000.out); rintro e w69 ⟨rfl, hy0, hb, hkp⟩; refine ⟨_, rfl, ?_⟩; have n0_ := Aside0.mk (Kd.R_mono (ok' := fun k_ => some k_ ≠ (.slice Ao26 t890.length co26 : Value).ownBlock ∧ some k_ ≠ (.slice Ao32 t894.length co32 : Value).ownBlock ∧ some k_ ≠ (.slice Ao63 t900.length co63 : Value).ownBlock) (Kd.R_keptB (HO_890000.out) hkp (fun k_ hk_ hs_ => (hk_.1.1) hs_)) (fun k_ hk_ => ⟨hk_.1.1.1, hk_.1.1.2, hk_.1.2⟩)); have n1_ := Aside0.mk (Kd.R_reok rfl hy0 (fun k_ e_ => HO_894000.out.1 k_ e_)); have n2_ := Aside0.mk (Kd.R_mono (ok' := fun k_ => some k_ ≠ (.slice Ao20 t885.length co20 : Value).ownBlock ∧ some k_ ≠ (.slice Ao26 t890.length co26 : Value).ownBlock ∧ some k_ ≠ (.slice Ao63 t900.length co63 : Value).ownBlock) (Kd.R_keptB (HO_899000.out) hkp (fun k_ hk_ hs_ => (hk_.1.2) hs_)) (fun k_ hk_ => ⟨hk_.1.1.1, hk_.1.1.2, hk_.1.2⟩)); have n3_ := Aside0.mk (blk_kept (be_ BK880.out) hkp (fun hs_ => (fun e_ => (Kd.R_ne HO_894000.out BK880.out (by decide)) e_) hs_)); have n4_ := Aside0.mk (blk_kept (be_ BK889.out) hkp (fun hs_ => (fun e_ => (Kd.R_ne HO_894000.out BK889.out (by decide)) e_) hs_)); have n5_ := Aside0.mk (blk_kept (be_ BK893.out) hkp (fun hs_ => (fun e_ => (Kd.R_ne HO_894000.out BK893.out (by decide)) e_) hs_)); have n6_ := Aside0.mk (blk_kept (be_ BK898.out) hkp (fun hs_ => (fun e_ => (Kd.R_ne HO_894000.out BK898.out (by decide)) e_) hs_)); have n7_ := Aside0.mk (Kd.R_mono (ok' := fun k_ => some k_ ≠ (.slice Ao20 t885.length co20 : Value).ownBlock ∧ some k_ ≠ (.slice Ao26 t890.length co26 : Value).ownBlock ∧ some k_ ≠ (.slice Ao32 t894.length co32 : Value).ownBlock) (Kd.R_keptB (HO902.out) hkp (fun k_ hk_ hs_ => (hk_.1.2) hs_)) (fun k_ hk_ => ⟨hk_.1.1.1.2, hk_.1.1.2, hk_.1.2⟩)); have n8_ := Aside0.mk (hb); clear HO_890000; clear HO_894000; clear HO_899000; clear BK880; clear BK889; clear BK893; clear BK898; clear HO902; clear HB; have HO_890000 := n0_; have HO_894000 := n1_; have HO_899000 := n2_; have BK880 := n3_; have BK889 := n4_; have BK893 := n5_; have BK898 := n6_; have HO902 := n7_; have HB := n8_; clear n0_ n1_ n2_ n3_ n4_ n5_ n6_ n7_ n8_; (try clear hb); (try clear hkp); (try clear hy0)))
         (try simp only [Act.put, z1_, z2_, z3_])
         go_cut [61] (fun v61 wc => ∃ (kq : Nat) (x61_59 : Bool), v61 = .bool x61_59 ∧ Aside0 (laws_FnExactArfClosure.j1 kq t888 x61_59 l0_0 t885 t894 = some true) ∧ Aside0 (kq ≤ kj10) ∧ Aside0 (Kd.R (Kd.int .i64) 3 wc w.heap.size (fun k_ => some k_ ≠ ((.slice Ao26 t890.length co26) : Value).ownBlock ∧ some k_ ≠ ((.slice Ao32 t894.length co32) : Value).ownBlock) (.slice Ao20 t885.length co20) t885) ∧ Aside0 (Kd.R (Kd.int .i64) 3 wc w.heap.size (fun k_ => some k_ ≠ ((.slice Ao20 t885.length co20) : Value).ownBlock ∧ some k_ ≠ ((.slice Ao32 t894.length co32) : Value).ownBlock) (.slice Ao26 t890.length co26) t905) ∧ Aside0 (Kd.R (Kd.int .i64) 3 wc w.heap.size (fun k_ => some k_ ≠ ((.slice Ao20 t885.length co20) : Value).ownBlock ∧ some k_ ≠ ((.slice Ao26 t890.length co26) : Value).ownBlock) (.slice Ao32 t894.length co32) t894) ∧ Aside0 (wc.heap[gb880]? = some (.cells #[(.slice A0_0 l0_0.length c0_0)] 24 (0, 0))) ∧ Aside0 (wc.heap[gb889]? = some (.cells #[(.slice Ao20 t885.length co20)] 27 (0, 0))) ∧ Aside0 (wc.heap[gb893]? = some (.cells #[(.slice Ao26 t890.length co26)] 27 (0, 0))) ∧ Aside0 (wc.heap[gb898]? = some (.cells #[(.slice Ao32 t894.length co32)] 27 (0, 0))) ∧ Aside0 (Below w.heap.size w wc))
         case first =>
          have H := HC60.out
          clear HC60
          by_cases c70 : t904 < 0
          · rw [if_pos c70] at H
            exact absurd H (by cases kj10 <;> simp [laws_FnExactArfClosure.j1])
          · rw [if_neg c70] at H
            have c70b0 : decide (t904 < 0) = false := decide_eq_false c70
            clear c70
            (first | rw [c70b0] | (simp only [i64_w, i32_w]; rw [c70b0]) | skip)
            replace H := Option.bind_eq_some_iff.mp H
            obtain ⟨t906, A710, H⟩ := H
            replace H : (if t906 = true then (laws_FnExactArfClosure.j1 kj10 t888 (t897 != t888) l0_0 t885 t894) else (laws_FnExactArfClosure.j1 kj10 t888 true l0_0 t885 t894)) = some true := H
            have A71 := Aside0.mk A710
            clear A710
            by_cases c72 : t906 = true
            · subst c72
              have H1 : (laws_FnExactArfClosure.j1 kj10 t888 (t897 != t888) l0_0 t885 t894) = some true := by rw [if_pos rfl] at H; exact H
              clear H
              have H := H1
              clear H1
              have H' := Aside0.mk H
              clear H
              have hnb73 := NB898_880.out
              have hnc73 := NB880_898.out
              have hnb74 := NB898_889.out
              have hnc74 := NB889_898.out
              have hnb75 := NB898_893.out
              have hnc75 := NB893_898.out
              have hcz76_0 : w69.cell? ⟨gb898, 0, none⟩ = some (.slice Ao32 t894.length co32) := (blk_cell BK898.out 0).trans rfl
              have hfz76_0 := blk_frozen BK898.out 0
              have hnb77 := NB889_880.out
              have hnc77 := NB880_889.out
              have hnb78 := NB889_893.out
              have hnc78 := NB893_889.out
              have hcz79_0 : w69.cell? ⟨gb889, 0, none⟩ = some (.slice Ao20 t885.length co20) := (blk_cell BK889.out 0).trans rfl
              have hfz79_0 := blk_frozen BK889.out 0
              go_wp2_with (first | (go_at_call 19; (with_reducible refine (laws_eqSemigroup.calls kj10 _ _ t894 _ _ t885 true _ ?side1 ?side2 ?side3 ?side4 A71.out).mono ?_); (case side1 => exact ce_ ((Kd.R_reads' HO_899000.out).2.2)); (case side2 => exact (Kd.R_reads' HO_899000.out).2.1); (case side3 => exact ce_ ((Kd.R_reads' HO_890000.out).2.2)); (case side4 => exact (Kd.R_reads' HO_890000.out).2.1); rintro e w80 ⟨rfl, hb⟩; have n0_ := Aside0.mk (Kd.R_below (re_ HO_890000.out) hb); have n1_ := Aside0.mk (Kd.R_below (re_ HO_894000.out) hb); have n2_ := Aside0.mk (Kd.R_below (re_ HO_899000.out) hb); have n3_ := Aside0.mk (Kd.R_below (re_ HO902.out) hb); have n4_ := Aside0.mk (blk_below (g := gb880) (o := .cells #[.slice A0_0 l0_0.length c0_0] 24 (0, 0)) (be_ BK880.out) hb); have n5_ := Aside0.mk (blk_below (g := gb889) (o := .cells #[.slice Ao20 t885.length co20] 27 (0, 0)) (be_ BK889.out) hb); have n6_ := Aside0.mk (blk_below (g := gb893) (o := .cells #[.slice Ao26 t890.length co26] 27 (0, 0)) (be_ BK893.out) hb); have n7_ := Aside0.mk (blk_below (g := gb898) (o := .cells #[.slice Ao32 t894.length co32] 27 (0, 0)) (be_ BK898.out) hb); have n8_ := Aside0.mk (below_step (by repeat (first | (with_reducible first | exact HB.out | apply below_alloc | apply pw_below_drewN | apply below_drew1 | refine below_set ?_ GE880.out | refine below_set ?_ GE889.out | refine below_set ?_ GE893.out | refine below_set ?_ GE898.out) | exact HB.out)) hb); clear HO_890000; clear HO_894000; clear HO_899000; clear HO902; clear BK880; clear BK889; clear BK893; clear BK898; clear HB; have HO_890000 := n0_; have HO_894000 := n1_; have HO_899000 := n2_; have HO902 := n3_; have BK880 := n4_; have BK889 := n5_; have BK893 := n6_; have BK898 := n7_; have HB := n8_; clear n0_ n1_ n2_ n3_ n4_ n5_ n6_ n7_ n8_; (try clear hb); (try clear hb2); (try clear hk); (try clear hi)))
              go_meet
              case rel => exact ⟨_, ((t897 != t888)), (by first | rfl | (simp; done) | (simp [*]; done)), H', ⟨by have := HJ10.out; first | omega | exact Nat.le_refl _⟩, ⟨by (with_reducible repeat (first | apply Kd.R_alloc | apply Kd.R_drewN | apply Kd.R_drew)); exact Kd.R_mono HO_890000.out (fun _ hk => ⟨hk.1, hk.2.1⟩)⟩, ⟨by (with_reducible repeat (first | apply Kd.R_alloc | apply Kd.R_drewN | apply Kd.R_drew)); exact Kd.R_mono HO_894000.out (fun _ hk => ⟨hk.1.1, hk.1.2⟩)⟩, ⟨by (with_reducible repeat (first | apply Kd.R_alloc | apply Kd.R_drewN | apply Kd.R_drew)); exact Kd.R_mono HO_899000.out (fun _ hk => ⟨hk.1, hk.2.1⟩)⟩, ⟨be_ BK880.out⟩, ⟨be_ BK889.out⟩, ⟨be_ BK893.out⟩, ⟨be_ BK898.out⟩, ⟨by repeat (first | (with_reducible first | exact HB.out | apply below_alloc | apply pw_below_drewN | apply below_drew1 | refine below_set ?_ GE880.out | refine below_set ?_ GE889.out | refine below_set ?_ GE893.out | refine below_set ?_ GE898.out) | exact HB.out)⟩⟩
            · replace c72 := Bool.eq_false_iff.mpr c72
              subst c72
              have H1 : (laws_FnExactArfClosure.j1 kj10 t888 true l0_0 t885 t894) = some true := by rw [if_neg (show ¬ (false = true) by decide)] at H; exact H
              exact absurd H1 (by cases kj10 <;> simp [laws_FnExactArfClosure.j1])
         case rest =>
          clear HC60
          try clear c1
          try clear c2
          try clear p2
          try clear c3
          try clear c3b0
          try clear c4
          try clear c5
          try clear c6
          try clear c7
          try clear c8
          try clear c12
          try clear c15
          try clear c17
          try clear c19
          try clear c21
          try clear c27
          try clear c28
          try clear c33
          try clear c34
          try clear c35
          try clear c38
          try clear c39
          try clear c40
          try clear c41
          try clear c43
          try clear c44
          try clear c45
          try clear c46
          try clear c47
          try clear c48
          try clear c49
          try clear c51
          try clear c52
          try clear c55
          try clear c58
          try clear c65
          try clear c66
          try clear c67
          try clear c70
          try clear c70b0
          try clear c72
          try clear c73
          try clear c74
          try clear c75
          try clear c77
          try clear c78
          try clear c81
          try clear c82
          try clear c83
          try clear c85
          try clear c86
          try clear hcz13_0
          try clear hcz15_0
          try clear hcz22_0
          try clear hcz23_0
          try clear hcz29_0
          try clear hcz36_0
          try clear hcz42_0
          try clear hcz45_0
          try clear hcz50_0
          try clear hcz53_0
          try clear hcz5_0
          try clear hcz68_0
          try clear hcz76_0
          try clear hcz79_0
          try clear hcz84_0
          try clear hcz87_0
          try clear hfz13_0
          try clear hfz15_0
          try clear hfz22_0
          try clear hfz23_0
          try clear hfz29_0
          try clear hfz36_0
          try clear hfz42_0
          try clear hfz45_0
          try clear hfz50_0
          try clear hfz53_0
          try clear hfz5_0
          try clear hfz68_0
          try clear hfz76_0
          try clear hfz79_0
          try clear hfz84_0
          try clear hfz87_0
          try clear p2
          obtain ⟨kq, x61_59, rfl, HA, HJ59, HO_890000, HO_894000, HO_899000, BK880, BK889, BK893, BK898, HB⟩ := hcut
          have hl894000_59 := (Kd.R_reads' HO_894000.out).1
          rw [hl894000_59] at HO_894000
          (try simp only [hl894000_59])
          (try simp only [hl894000_59] at BK880)
          (try simp only [hl894000_59] at BK889)
          (try simp only [hl894000_59] at BK893)
          (try simp only [hl894000_59] at BK898)
          (try simp only [hl894000_59] at HO_890000)
          (try simp only [hl894000_59] at HO_899000)
          cases kq with
          | zero => exact absurd HA.out (by simp [laws_FnExactArfClosure.j1])
          | succ kj59 =>
           have H := HA.out
           clear HA
           simp only [laws_FnExactArfClosure.j1] at H
           by_cases c89 : x61_59 = true
           · subst c89
             have H1 : (some false) = some true := by rw [if_pos rfl] at H; exact H
             exact absurd H1 (by simp)
           · replace c89 := Bool.eq_false_iff.mpr c89
             subst c89
             have H1 : ((laws_markSemigroup.f kj59 t894 1).bind fun bt907 => ((laws_heldSemigroup.f kj59 bt907.2 1).bind fun t909 => (if t909 < 0 then (some false) else (if t909 = bt907.1 then ((laws_toSemigroup.f kj59 l0_0).bind fun t910 => ((impl_ArfClosure.f kj59 t910).bind fun bt913 => ((laws_eqSemigroup.f kj59 bt913.1 t885).bind fun t918 => (if t918 = true then (laws_FnExactArfClosure.j2 kj59 bt907.1 (bt913.2 != t888) bt907.2) else (laws_FnExactArfClosure.j2 kj59 bt907.1 true bt907.2))))) else (some false))))) = some true := by rw [if_neg (show ¬ (false = true) by decide)] at H; exact H
             clear H
             have H := H1
             clear H1
             replace H := Option.bind_eq_some_iff.mp H
             obtain ⟨⟨t907, t908⟩, A900, H⟩ := H
             replace H : ((laws_heldSemigroup.f kj59 t908 1).bind fun t909 => (if t909 < 0 then (some false) else (if t909 = t907 then ((laws_toSemigroup.f kj59 l0_0).bind fun t910 => ((impl_ArfClosure.f kj59 t910).bind fun bt913 => ((laws_eqSemigroup.f kj59 bt913.1 t885).bind fun t918 => (if t918 = true then (laws_FnExactArfClosure.j2 kj59 t907 (bt913.2 != t888) t908) else (laws_FnExactArfClosure.j2 kj59 t907 true t908))))) else (some false)))) = some true := H
             have A90 := Aside0.mk A900
             clear A900
             replace H := Option.bind_eq_some_iff.mp H
             obtain ⟨t909, A910, H⟩ := H
             replace H : (if t909 < 0 then (some false) else (if t909 = t907 then ((laws_toSemigroup.f kj59 l0_0).bind fun t910 => ((impl_ArfClosure.f kj59 t910).bind fun bt913 => ((laws_eqSemigroup.f kj59 bt913.1 t885).bind fun t918 => (if t918 = true then (laws_FnExactArfClosure.j2 kj59 t907 (bt913.2 != t888) t908) else (laws_FnExactArfClosure.j2 kj59 t907 true t908))))) else (some false))) = some true := H
             have A91 := Aside0.mk A910
             clear A910
             by_cases c92 : t909 < 0
             · rw [if_pos c92] at H
               exact absurd H (by simp)
             · rw [if_neg c92] at H
               have c92b0 : decide (t909 < 0) = false := decide_eq_false c92
               clear c92
               by_cases c100 : t909 = t907
               · rw [if_pos c100] at H
                 have c100b0 : (t909 == t907) = true := beq_iff_eq.mpr c100
                 have c100b1 : (t909 != t907) = false := bne_eq_false_iff_eq.mpr c100
                 clear c100
                 replace H := Option.bind_eq_some_iff.mp H
                 obtain ⟨t910, A1010, H⟩ := H
                 replace H : ((impl_ArfClosure.f kj59 t910).bind fun bt913 => ((laws_eqSemigroup.f kj59 bt913.1 t885).bind fun t918 => (if t918 = true then (laws_FnExactArfClosure.j2 kj59 t907 (bt913.2 != t888) t908) else (laws_FnExactArfClosure.j2 kj59 t907 true t908)))) = some true := H
                 have A101 := Aside0.mk A1010
                 clear A1010
                 replace H := Option.bind_eq_some_iff.mp H
                 obtain ⟨⟨t913, t916⟩, A1020, H⟩ := H
                 replace H : ((laws_eqSemigroup.f kj59 t913 t885).bind fun t918 => (if t918 = true then (laws_FnExactArfClosure.j2 kj59 t907 (t916 != t888) t908) else (laws_FnExactArfClosure.j2 kj59 t907 true t908))) = some true := H
                 have A102 := Aside0.mk A1020
                 clear A1020
                 have HC103 := Aside0.mk H
                 clear H
                 have hnb104 := NB898_880.out
                 have hnc104 := NB880_898.out
                 have hnb105 := NB898_889.out
                 have hnc105 := NB889_898.out
                 have hnb106 := NB898_893.out
                 have hnc106 := NB893_898.out
                 have hcz107_0 : wc.cell? ⟨gb898, 0, none⟩ = some (.slice Ao32 t894.length co32) := (blk_cell BK898.out 0).trans rfl
                 have hfz107_0 := blk_frozen BK898.out 0
                 go_upto_region 25 with (first | ((with_reducible refine gate_callee (f := 47) rfl ?_); refine goesL_ (some 64) rfl rfl Try.func47 (by kernel_rfl) rfl #[.agg #[.slice Ao32 t894.length co32], .int .i64 1] rfl (by (try simp only [List.map_toArray, List.map_cons, List.map_nil]); first | done | rfl | (simp only [List.length_drop, List.length_take]; rfl)) ?_; (with_reducible refine (laws_markSemigroup.calls kj59 (fun k_ => some k_ = (.slice Ao32 t894.length co32 : Value).ownBlock) (.slice Ao32 t894.length co32) t894 1 t907 t908 w _ ?side1 ?side2 A90.out).mono ?_); (case side1 => repeat (first | (with_reducible first | exact HB.out | apply below_alloc | apply pw_below_drewN | apply below_drew1 | refine below_set ?_ GE880.out | refine below_set ?_ GE889.out | refine below_set ?_ GE893.out | refine below_set ?_ GE898.out) | exact HB.out)); (case side2 => exact Kd.R_tight rfl HO_899000.out); rintro e w108 ⟨rfl, hy0, hb, hkp⟩; refine ⟨_, rfl, ?_⟩; have n0_ := Aside0.mk (Kd.R_mono (ok' := fun k_ => some k_ ≠ (.slice Ao26 t905.length co26 : Value).ownBlock ∧ some k_ ≠ (.slice Ao32 t894.length co32 : Value).ownBlock) (Kd.R_keptB (HO_890000.out) hkp (fun k_ hk_ hs_ => (hk_.2) hs_)) (fun k_ hk_ => ⟨hk_.1.1, hk_.1.2⟩)); have n1_ := Aside0.mk (Kd.R_mono (ok' := fun k_ => some k_ ≠ (.slice Ao20 t885.length co20 : Value).ownBlock ∧ some k_ ≠ (.slice Ao32 t894.length co32 : Value).ownBlock) (Kd.R_keptB (HO_894000.out) hkp (fun k_ hk_ hs_ => (hk_.2) hs_)) (fun k_ hk_ => ⟨hk_.1.1, hk_.1.2⟩)); have n2_ := Aside0.mk (Kd.R_reok rfl hy0 (fun k_ e_ => HO_899000.out.1 k_ e_)); have n3_ := Aside0.mk (blk_kept (be_ BK880.out) hkp (fun hs_ => (fun e_ => (Kd.R_ne HO_899000.out BK880.out (by decide)) e_) hs_)); have n4_ := Aside0.mk (blk_kept (be_ BK889.out) hkp (fun hs_ => (fun e_ => (Kd.R_ne HO_899000.out BK889.out (by decide)) e_) hs_)); have n5_ := Aside0.mk (blk_kept (be_ BK893.out) hkp (fun hs_ => (fun e_ => (Kd.R_ne HO_899000.out BK893.out (by decide)) e_) hs_)); have n6_ := Aside0.mk (blk_kept (be_ BK898.out) hkp (fun hs_ => (fun e_ => (Kd.R_ne HO_899000.out BK898.out (by decide)) e_) hs_)); have n7_ := Aside0.mk (hb); clear HO_890000; clear HO_894000; clear HO_899000; clear BK880; clear BK889; clear BK893; clear BK898; clear HB; have HO_890000 := n0_; have HO_894000 := n1_; have HO_899000 := n2_; have BK880 := n3_; have BK889 := n4_; have BK893 := n5_; have BK898 := n6_; have HB := n7_; clear n0_ n1_ n2_ n3_ n4_ n5_ n6_ n7_; (try clear hb); (try clear hkp); (try clear hy0); have hcz109_0 : w108.cell? ⟨gb898, 0, none⟩ = some (.slice Ao32 t894.length co32) := (blk_cell BK898.out 0).trans rfl; have hfz109_0 := blk_frozen BK898.out 0) | ((with_reducible refine gate_callee (f := 48) rfl ?_); refine goesL_ (some 67) rfl rfl Try.func48 (by kernel_rfl) rfl #[.agg #[.slice Ao32 t908.length co32], .int .i64 1] rfl (by (try simp only [List.map_toArray, List.map_cons, List.map_nil]); first | done | (rw [show t908.length = t894.length from (Kd.R_reads' HO_899000.out).1.symm] <;> rfl) | rfl | (simp only [List.length_drop, List.length_take]; rfl)) ?_; (with_reducible refine (laws_heldSemigroup.calls kj59 _ _ t908 1 t909 _ ?side1 ?side2 A91.out).mono ?_); (case side1 => exact ce_ ((Kd.R_reads' HO_899000.out).2.2)); (case side2 => rw [show t908.length = t894.length from (Kd.R_reads' HO_899000.out).1.symm]; exact (Kd.R_reads' HO_899000.out).2.1); rintro e w110 ⟨rfl, hb⟩; refine ⟨_, rfl, ?_⟩; have n0_ := Aside0.mk (Kd.R_below (re_ HO_890000.out) hb); have n1_ := Aside0.mk (Kd.R_below (re_ HO_894000.out) hb); have n2_ := Aside0.mk (Kd.R_below (re_ HO_899000.out) hb); have n3_ := Aside0.mk (blk_below (g := gb880) (o := .cells #[.slice A0_0 l0_0.length c0_0] 24 (0, 0)) (be_ BK880.out) hb); have n4_ := Aside0.mk (blk_below (g := gb889) (o := .cells #[.slice Ao20 t885.length co20] 27 (0, 0)) (be_ BK889.out) hb); have n5_ := Aside0.mk (blk_below (g := gb893) (o := .cells #[.slice Ao26 t905.length co26] 27 (0, 0)) (be_ BK893.out) hb); have n6_ := Aside0.mk (blk_below (g := gb898) (o := .cells #[.slice Ao32 t894.length co32] 27 (0, 0)) (be_ BK898.out) hb); have n7_ := Aside0.mk (below_step (by repeat (first | (with_reducible first | exact HB.out | apply below_alloc | apply pw_below_drewN | apply below_drew1 | refine below_set ?_ GE880.out | refine below_set ?_ GE889.out | refine below_set ?_ GE893.out | refine below_set ?_ GE898.out) | exact HB.out)) hb); clear HO_890000; clear HO_894000; clear HO_899000; clear BK880; clear BK889; clear BK893; clear BK898; clear HB; have HO_890000 := n0_; have HO_894000 := n1_; have HO_899000 := n2_; have BK880 := n3_; have BK889 := n4_; have BK893 := n5_; have BK898 := n6_; have HB := n7_; clear n0_ n1_ n2_ n3_ n4_ n5_ n6_ n7_; (try clear hb); (try clear hb2); (try clear hk); (try clear hi); have hnb111 := NB880_889.out; have hnc111 := NB889_880.out; have hnb112 := NB880_893.out; have hnc112 := NB893_880.out; have hcz113_0 : w110.cell? ⟨gb880, 0, none⟩ = some (.slice A0_0 l0_0.length c0_0) := (blk_cell BK880.out 0).trans rfl; have hfz113_0 := blk_frozen BK880.out 0) | ((with_reducible refine gate_callee (f := 17) rfl ?_); refine goesL_ (some 75) rfl rfl Try.func17 (by kernel_rfl) rfl #[.agg #[.slice A0_0 l0_0.length c0_0]] rfl (by (try simp only [List.map_toArray, List.map_cons, List.map_nil]); first | done | rfl | (simp only [List.length_drop, List.length_take]; rfl)) ?_; (with_reducible refine (laws_toSemigroup.calls kj59 _ _ l0_0 t910 _ ?side1 ?side2 A101.out).mono ?_); (case side1 => exact ce_ ((Kd.C_below HR0_0.out HB.out))); (case side2 => exact HC0_0.out); rintro e w114 ⟨v911, rfl, ho0, hb⟩; refine ⟨_, rfl, ?_⟩; have n0_ := Aside0.mk (Kd.R_elder' (re_ HO_890000.out) (Kd.R_base ho0) hb); have n1_ := Aside0.mk (Kd.R_elder' (re_ HO_894000.out) (Kd.R_base ho0) hb); have n2_ := Aside0.mk (Kd.R_elder' (re_ HO_899000.out) (Kd.R_base ho0) hb); have n3_ := Aside0.mk (Kd.R_lower (Kd.R_new' (Kd.R_new' (Kd.R_new' ho0 (Kd.R_lt (re_ HO_890000.out))) (Kd.R_lt (re_ HO_894000.out))) (Kd.R_lt (re_ HO_899000.out))) (below_size (by repeat (first | (with_reducible first | exact HB.out | apply below_alloc | apply pw_below_drewN | apply below_drew1 | refine below_set ?_ GE880.out | refine below_set ?_ GE889.out | refine below_set ?_ GE893.out | refine below_set ?_ GE898.out) | exact HB.out)))); have n4_ := Aside0.mk (blk_below (g := gb880) (o := .cells #[.slice A0_0 l0_0.length c0_0] 24 (0, 0)) (be_ BK880.out) hb); have n5_ := Aside0.mk (blk_below (g := gb889) (o := .cells #[.slice Ao20 t885.length co20] 27 (0, 0)) (be_ BK889.out) hb); have n6_ := Aside0.mk (blk_below (g := gb893) (o := .cells #[.slice Ao26 t905.length co26] 27 (0, 0)) (be_ BK893.out) hb); have n7_ := Aside0.mk (blk_below (g := gb898) (o := .cells #[.slice Ao32 t894.length co32] 27 (0, 0)) (be_ BK898.out) hb); have n8_ := Aside0.mk (below_step (by repeat (first | (with_reducible first | exact HB.out | apply below_alloc | apply pw_below_drewN | apply below_drew1 | refine below_set ?_ GE880.out | refine below_set ?_ GE889.out | refine below_set ?_ GE893.out | refine below_set ?_ GE898.out) | exact HB.out)) hb); clear HO_890000; clear HO_894000; clear HO_899000; clear BK880; clear BK889; clear BK893; clear BK898; clear HB; have HO_890000 := n0_; have HO_894000 := n1_; have HO_899000 := n2_; have HO912 := n3_; have BK880 := n4_; have BK889 := n5_; have BK893 := n6_; have BK898 := n7_; have HB := n8_; clear n0_ n1_ n2_ n3_ n4_ n5_ n6_ n7_ n8_; (try clear hb); (try clear hb2); (try clear hk); (try clear hi); (try clear ho0); obtain ⟨Ao115, co115, eo115⟩ := Kd.R_slice HO912.out; subst eo115) | ((with_reducible refine gate_callee (f := 46) rfl ?_); refine goesL_ (some 76) rfl rfl Try.func46 (by kernel_rfl) rfl #[.agg #[.slice Ao115 t910.length co115]] rfl (by (try simp only [List.map_toArray, List.map_cons, List.map_nil]); first | done | rfl | (simp only [List.length_drop, List.length_take]; rfl)) ?_; (with_reducible refine (impl_ArfClosure.calls kj59 _ _ t910 t913 t916 _ ?side1 ?side2 A102.out).mono ?_); (case side1 => exact ce_ ((Kd.R_reads' HO912.out).2.2)); (case side2 => exact (Kd.R_reads' HO912.out).2.1); rintro e w116 ⟨v914, rfl, ho0, hb⟩; refine ⟨_, rfl, ?_⟩; have n0_ := Aside0.mk (Kd.R_elder' (re_ HO_890000.out) (Kd.R_base ho0) hb); have n1_ := Aside0.mk (Kd.R_elder' (re_ HO_894000.out) (Kd.R_base ho0) hb); have n2_ := Aside0.mk (Kd.R_elder' (re_ HO_899000.out) (Kd.R_base ho0) hb); have n3_ := Aside0.mk (Kd.R_elder' (re_ HO912.out) (Kd.R_base ho0) hb); have n4_ := Aside0.mk (Kd.R_lower (Kd.R_new' (Kd.R_new' (Kd.R_new' (Kd.R_new' ho0 (Kd.R_lt (re_ HO_890000.out))) (Kd.R_lt (re_ HO_894000.out))) (Kd.R_lt (re_ HO_899000.out))) (Kd.R_lt (re_ HO912.out))) (below_size (by repeat (first | (with_reducible first | exact HB.out | apply below_alloc | apply pw_below_drewN | apply below_drew1 | refine below_set ?_ GE880.out | refine below_set ?_ GE889.out | refine below_set ?_ GE893.out | refine below_set ?_ GE898.out) | exact HB.out)))); have n5_ := Aside0.mk (blk_below (g := gb880) (o := .cells #[.slice A0_0 l0_0.length c0_0] 24 (0, 0)) (be_ BK880.out) hb); have n6_ := Aside0.mk (blk_below (g := gb889) (o := .cells #[.slice Ao20 t885.length co20] 27 (0, 0)) (be_ BK889.out) hb); have n7_ := Aside0.mk (blk_below (g := gb893) (o := .cells #[.slice Ao26 t905.length co26] 27 (0, 0)) (be_ BK893.out) hb); have n8_ := Aside0.mk (blk_below (g := gb898) (o := .cells #[.slice Ao32 t894.length co32] 27 (0, 0)) (be_ BK898.out) hb); have n9_ := Aside0.mk (below_step (by repeat (first | (with_reducible first | exact HB.out | apply below_alloc | apply pw_below_drewN | apply below_drew1 | refine below_set ?_ GE880.out | refine below_set ?_ GE889.out | refine below_set ?_ GE893.out | refine below_set ?_ GE898.out) | exact HB.out)) hb); clear HO_890000; clear HO_894000; clear HO_899000; clear HO912; clear BK880; clear BK889; clear BK893; clear BK898; clear HB; have HO_890000 := n0_; have HO_894000 := n1_; have HO_899000 := n2_; have HO912 := n3_; have HO915 := n4_; have BK880 := n5_; have BK889 := n6_; have BK893 := n7_; have BK898 := n8_; have HB := n9_; clear n0_ n1_ n2_ n3_ n4_ n5_ n6_ n7_ n8_ n9_; (try clear hb); (try clear hb2); (try clear hk); (try clear hi); (try clear ho0)) | ((with_reducible refine gate_dst (N := 12) rfl ?_); refine box_event ?hg (N := 12) ?hd (cs := #[.slice none 0 0]) (t := 27) ?hr ?_; (case hd => rfl); (case hg => rfl); (case hr => first | (go_simp; done) | (go_simp; rfl)); intro gb917 hg w117 hbox hb; have n0_ := Aside0.mk (Kd.R_below (re_ HO_890000.out) hb); have n1_ := Aside0.mk (Kd.R_below (re_ HO_894000.out) hb); have n2_ := Aside0.mk (Kd.R_below (re_ HO_899000.out) hb); have n3_ := Aside0.mk (Kd.R_below (re_ HO912.out) hb); have n4_ := Aside0.mk (Kd.R_below (re_ HO915.out) hb); have n5_ := Aside0.mk (blk_below (g := gb880) (o := .cells #[.slice A0_0 l0_0.length c0_0] 24 (0, 0)) (be_ BK880.out) hb); have n6_ := Aside0.mk (blk_below (g := gb889) (o := .cells #[.slice Ao20 t885.length co20] 27 (0, 0)) (be_ BK889.out) hb); have n7_ := Aside0.mk (blk_below (g := gb893) (o := .cells #[.slice Ao26 t905.length co26] 27 (0, 0)) (be_ BK893.out) hb); have n8_ := Aside0.mk (blk_below (g := gb898) (o := .cells #[.slice Ao32 t894.length co32] 27 (0, 0)) (be_ BK898.out) hb); have n9_ := Aside0.mk (below_step (by repeat (first | (with_reducible first | exact HB.out | apply below_alloc | apply pw_below_drewN | apply below_drew1 | refine below_set ?_ GE880.out | refine below_set ?_ GE889.out | refine below_set ?_ GE893.out | refine below_set ?_ GE898.out) | exact HB.out)) hb); have n10_ := Aside0.mk (hbox); have n11_ := Aside0.mk ((by rw [hg]; exact (below_size (by repeat (first | (with_reducible first | exact HB.out | apply below_alloc | apply pw_below_drewN | apply below_drew1 | refine below_set ?_ GE880.out | refine below_set ?_ GE889.out | refine below_set ?_ GE893.out | refine below_set ?_ GE898.out) | exact HB.out))) : w.heap.size ≤ gb917)); have n12_ := Aside0.mk ((by rw [hg]; exact (below_size (by repeat (first | (with_reducible first | exact HB.out | apply below_alloc | apply pw_below_drewN | apply below_drew1 | refine below_set ?_ GE880.out | refine below_set ?_ GE889.out | refine below_set ?_ GE893.out | refine below_set ?_ GE898.out) | exact HB.out))) : w.heap.size ≤ gb917)); have n13_ := Aside0.mk ((by rw [hg]; exact Nat.ne_of_lt (blk_lt (g := gb880) (o := .cells #[.slice A0_0 l0_0.length c0_0] 24 (0, 0)) (be_ BK880.out)) : gb880 ≠ gb917)); have n14_ := Aside0.mk ((by rw [hg]; exact Nat.ne_of_gt (blk_lt (g := gb880) (o := .cells #[.slice A0_0 l0_0.length c0_0] 24 (0, 0)) (be_ BK880.out)) : gb917 ≠ gb880)); have n15_ := Aside0.mk ((by rw [hg]; exact Nat.ne_of_lt (blk_lt (g := gb889) (o := .cells #[.slice Ao20 t885.length co20] 27 (0, 0)) (be_ BK889.out)) : gb889 ≠ gb917)); have n16_ := Aside0.mk ((by rw [hg]; exact Nat.ne_of_gt (blk_lt (g := gb889) (o := .cells #[.slice Ao20 t885.length co20] 27 (0, 0)) (be_ BK889.out)) : gb917 ≠ gb889)); have n17_ := Aside0.mk ((by rw [hg]; exact Nat.ne_of_lt (blk_lt (g := gb893) (o := .cells #[.slice Ao26 t905.length co26] 27 (0, 0)) (be_ BK893.out)) : gb893 ≠ gb917)); have n18_ := Aside0.mk ((by rw [hg]; exact Nat.ne_of_gt (blk_lt (g := gb893) (o := .cells #[.slice Ao26 t905.length co26] 27 (0, 0)) (be_ BK893.out)) : gb917 ≠ gb893)); have n19_ := Aside0.mk ((by rw [hg]; exact Nat.ne_of_lt (blk_lt (g := gb898) (o := .cells #[.slice Ao32 t894.length co32] 27 (0, 0)) (be_ BK898.out)) : gb898 ≠ gb917)); have n20_ := Aside0.mk ((by rw [hg]; exact Nat.ne_of_gt (blk_lt (g := gb898) (o := .cells #[.slice Ao32 t894.length co32] 27 (0, 0)) (be_ BK898.out)) : gb917 ≠ gb898)); clear HO_890000; clear HO_894000; clear HO_899000; clear HO912; clear HO915; clear BK880; clear BK889; clear BK893; clear BK898; clear HB; have HO_890000 := n0_; have HO_894000 := n1_; have HO_899000 := n2_; have HO912 := n3_; have HO915 := n4_; have BK880 := n5_; have BK889 := n6_; have BK893 := n7_; have BK898 := n8_; have HB := n9_; have BK917 := n10_; have GW917 := n11_; have GE917 := n12_; have NB880_917 := n13_; have NB917_880 := n14_; have NB889_917 := n15_; have NB917_889 := n16_; have NB893_917 := n17_; have NB917_893 := n18_; have NB898_917 := n19_; have NB917_898 := n20_; clear n0_ n1_ n2_ n3_ n4_ n5_ n6_ n7_ n8_ n9_ n10_ n11_ n12_ n13_ n14_ n15_ n16_ n17_ n18_ n19_ n20_; clear hb hbox hg; obtain ⟨Ao118, co118, eo118⟩ := Kd.R_slice HO915.out; subst eo118; have hnb119 := NB917_880.out; have hnc119 := NB880_917.out; have hnb120 := NB917_889.out; have hnc120 := NB889_917.out; have hnb121 := NB917_893.out; have hnc121 := NB893_917.out; have hnb122 := NB917_898.out; have hnc122 := NB898_917.out; have hcz123_0 : w117.cell? ⟨gb917, 0, none⟩ = some (.slice none 0 0) := (blk_cell BK917.out 0).trans rfl; have hfz123_0 := blk_frozen BK917.out 0))
                 (try simp only [Act.put, z1_, z2_, z3_])
                 go_cut [87] (fun v87 wc => ∃ (kq : Nat) (x87_102 : Bool), v87 = .bool x87_102 ∧ Aside0 (laws_FnExactArfClosure.j2 kq t907 x87_102 t908 = some true) ∧ Aside0 (kq ≤ kj59) ∧ Aside0 (Kd.R (Kd.int .i64) 3 wc w.heap.size (fun k_ => some k_ ≠ ((.slice Ao26 t905.length co26) : Value).ownBlock ∧ some k_ ≠ ((.slice Ao32 t894.length co32) : Value).ownBlock ∧ some k_ ≠ ((.slice Ao118 t913.length co118) : Value).ownBlock) (.slice Ao20 t885.length co20) t885) ∧ Aside0 (Kd.R (Kd.int .i64) 3 wc w.heap.size (fun k_ => some k_ ≠ ((.slice Ao20 t885.length co20) : Value).ownBlock ∧ some k_ ≠ ((.slice Ao32 t894.length co32) : Value).ownBlock ∧ some k_ ≠ ((.slice Ao118 t913.length co118) : Value).ownBlock) (.slice Ao26 t905.length co26) t905) ∧ Aside0 (Kd.R (Kd.int .i64) 3 wc w.heap.size (fun k_ => some k_ ≠ ((.slice Ao20 t885.length co20) : Value).ownBlock ∧ some k_ ≠ ((.slice Ao26 t905.length co26) : Value).ownBlock ∧ some k_ ≠ ((.slice Ao118 t913.length co118) : Value).ownBlock) (.slice Ao32 t894.length co32) t908) ∧ Aside0 (Kd.R (Kd.int .i64) 3 wc w.heap.size (fun k_ => some k_ ≠ ((.slice Ao20 t885.length co20) : Value).ownBlock ∧ some k_ ≠ ((.slice Ao26 t905.length co26) : Value).ownBlock ∧ some k_ ≠ ((.slice Ao32 t894.length co32) : Value).ownBlock) (.slice Ao118 t913.length co118) t913) ∧ Aside0 (wc.heap[gb880]? = some (.cells #[(.slice A0_0 l0_0.length c0_0)] 24 (0, 0))) ∧ Aside0 (wc.heap[gb889]? = some (.cells #[(.slice Ao20 t885.length co20)] 27 (0, 0))) ∧ Aside0 (wc.heap[gb893]? = some (.cells #[(.slice Ao26 t905.length co26)] 27 (0, 0))) ∧ Aside0 (wc.heap[gb898]? = some (.cells #[(.slice Ao32 t894.length co32)] 27 (0, 0))) ∧ Aside0 (wc.heap[gb917]? = some (.cells #[(.slice Ao118 t913.length co118)] 27 (0, 0))) ∧ Aside0 (Below w.heap.size w wc))
                 case first =>
                  have H := HC103.out
                  clear HC103
                  replace H := Option.bind_eq_some_iff.mp H
                  obtain ⟨t918, A1240, H⟩ := H
                  replace H : (if t918 = true then (laws_FnExactArfClosure.j2 kj59 t907 (t916 != t888) t908) else (laws_FnExactArfClosure.j2 kj59 t907 true t908)) = some true := H
                  have A124 := Aside0.mk A1240
                  clear A1240
                  by_cases c125 : t918 = true
                  · subst c125
                    have H1 : (laws_FnExactArfClosure.j2 kj59 t907 (t916 != t888) t908) = some true := by rw [if_pos rfl] at H; exact H
                    clear H
                    have H := H1
                    clear H1
                    have H' := Aside0.mk H
                    clear H
                    have hnb126 := NB917_880.out
                    have hnc126 := NB880_917.out
                    have hnb127 := NB917_889.out
                    have hnc127 := NB889_917.out
                    have hnb128 := NB917_893.out
                    have hnc128 := NB893_917.out
                    have hnb129 := NB917_898.out
                    have hnc129 := NB898_917.out
                    have hcz130_0 : w117.cell? ⟨gb917, 0, none⟩ = some (.slice none 0 0) := (blk_cell BK917.out 0).trans rfl
                    have hfz130_0 := blk_frozen BK917.out 0
                    have hnb131 := NB889_880.out
                    have hnc131 := NB880_889.out
                    have hnb132 := NB889_893.out
                    have hnc132 := NB893_889.out
                    have hnb133 := NB889_898.out
                    have hnc133 := NB898_889.out
                    have hcz134_0 : w117.cell? ⟨gb889, 0, none⟩ = some (.slice Ao20 t885.length co20) := (blk_cell BK889.out 0).trans rfl
                    have hfz134_0 := blk_frozen BK889.out 0
                    go_wp2_with (first | ((with_reducible refine gate_callee (f := 19) rfl ?_); refine goesL_ (some 81) rfl rfl Try.func19 (by kernel_rfl) rfl #[.agg #[.slice Ao118 t913.length co118], .agg #[.slice Ao20 t885.length co20]] rfl (by (try simp only [List.map_toArray, List.map_cons, List.map_nil]); first | done | rfl | (simp only [List.length_drop, List.length_take]; rfl)) ?_; (with_reducible refine (laws_eqSemigroup.calls kj59 _ _ t913 _ _ t885 true _ ?side1 ?side2 ?side3 ?side4 A124.out).mono ?_); (case side1 => refine (Kd.R_reads' (e := 3) (base := w.heap.size) (ok := fun k_ => ((((True ∧ some k_ ≠ (.slice Ao20 t885.length co20 : Value).ownBlock) ∧ some k_ ≠ (.slice Ao26 t905.length co26 : Value).ownBlock) ∧ some k_ ≠ (.slice Ao32 t894.length co32 : Value).ownBlock) ∧ some k_ ≠ (.slice Ao115 t910.length co115 : Value).ownBlock)) (n := t913.length) (c := co118) ?_).2.2; exact (by (with_reducible repeat (first | apply Kd.R_alloc | apply Kd.R_drewN | apply Kd.R_drew)); exact (Kd.R_mono (Kd.R_far (p := ⟨gb917, 0, none⟩) (Kd.R_types HO915.out BK917.out (by decide)) (fun _ hk => hk.2) (.slice Ao118 t913.length co118)) (fun _ h_ => h_.1)))); (case side2 => exact (Kd.R_reads' HO915.out).2.1); (case side3 => refine (Kd.R_reads' (e := 3) (base := w.heap.size) (ok := fun k_ => (((some k_ ≠ (.slice Ao26 t905.length co26 : Value).ownBlock ∧ some k_ ≠ (.slice Ao32 t894.length co32 : Value).ownBlock) ∧ some k_ ≠ (.slice Ao115 t910.length co115 : Value).ownBlock) ∧ some k_ ≠ (.slice Ao118 t913.length co118 : Value).ownBlock)) (n := t885.length) (c := co20) ?_).2.2; exact (by (with_reducible repeat (first | apply Kd.R_alloc | apply Kd.R_drewN | apply Kd.R_drew)); exact (Kd.R_mono (Kd.R_far (p := ⟨gb917, 0, none⟩) (Kd.R_types HO_890000.out BK917.out (by decide)) (fun _ hk => hk.2) (.slice Ao118 t913.length co118)) (fun _ h_ => h_.1)))); (case side4 => exact (Kd.R_reads' HO_890000.out).2.1); rintro e w135 ⟨rfl, hb⟩; refine ⟨_, rfl, ?_⟩; have n0_ := Aside0.mk (Kd.R_below (by (with_reducible repeat (first | apply Kd.R_alloc | apply Kd.R_drewN | apply Kd.R_drew)); exact (Kd.R_mono (Kd.R_far (p := ⟨gb917, 0, none⟩) (Kd.R_types HO_890000.out BK917.out (by decide)) (fun _ hk => hk.2) (.slice Ao118 t913.length co118)) (fun _ h_ => h_.1))) hb); have n1_ := Aside0.mk (Kd.R_below (by (with_reducible repeat (first | apply Kd.R_alloc | apply Kd.R_drewN | apply Kd.R_drew)); exact (Kd.R_mono (Kd.R_far (p := ⟨gb917, 0, none⟩) (Kd.R_types HO_894000.out BK917.out (by decide)) (fun _ hk => hk.2) (.slice Ao118 t913.length co118)) (fun _ h_ => h_.1))) hb); have n2_ := Aside0.mk (Kd.R_below (by (with_reducible repeat (first | apply Kd.R_alloc | apply Kd.R_drewN | apply Kd.R_drew)); exact (Kd.R_mono (Kd.R_far (p := ⟨gb917, 0, none⟩) (Kd.R_types HO_899000.out BK917.out (by decide)) (fun _ hk => hk.2) (.slice Ao118 t913.length co118)) (fun _ h_ => h_.1))) hb); have n3_ := Aside0.mk (Kd.R_below (by (with_reducible repeat (first | apply Kd.R_alloc | apply Kd.R_drewN | apply Kd.R_drew)); exact (Kd.R_mono (Kd.R_far (p := ⟨gb917, 0, none⟩) (Kd.R_types HO912.out BK917.out (by decide)) (fun _ hk => hk.2) (.slice Ao118 t913.length co118)) (fun _ h_ => h_.1))) hb); have n4_ := Aside0.mk (Kd.R_below (by (with_reducible repeat (first | apply Kd.R_alloc | apply Kd.R_drewN | apply Kd.R_drew)); exact (Kd.R_mono (Kd.R_far (p := ⟨gb917, 0, none⟩) (Kd.R_types HO915.out BK917.out (by decide)) (fun _ hk => hk.2) (.slice Ao118 t913.length co118)) (fun _ h_ => h_.1))) hb); have n5_ := Aside0.mk (blk_below (g := gb880) (o := .cells #[.slice A0_0 l0_0.length c0_0] 24 (0, 0)) (by (with_reducible repeat (first | refine blk_drewN ?_ _ | refine blk_drew ?_ | refine blk_alloc ?_ _)); refine blk_far ?_ NB880_917.out _; (with_reducible repeat (first | refine blk_drewN ?_ _ | refine blk_drew ?_ | refine blk_alloc ?_ _)); exact BK880.out) hb); have n6_ := Aside0.mk (blk_below (g := gb889) (o := .cells #[.slice Ao20 t885.length co20] 27 (0, 0)) (by (with_reducible repeat (first | refine blk_drewN ?_ _ | refine blk_drew ?_ | refine blk_alloc ?_ _)); refine blk_far ?_ NB889_917.out _; (with_reducible repeat (first | refine blk_drewN ?_ _ | refine blk_drew ?_ | refine blk_alloc ?_ _)); exact BK889.out) hb); have n7_ := Aside0.mk (blk_below (g := gb893) (o := .cells #[.slice Ao26 t905.length co26] 27 (0, 0)) (by (with_reducible repeat (first | refine blk_drewN ?_ _ | refine blk_drew ?_ | refine blk_alloc ?_ _)); refine blk_far ?_ NB893_917.out _; (with_reducible repeat (first | refine blk_drewN ?_ _ | refine blk_drew ?_ | refine blk_alloc ?_ _)); exact BK893.out) hb); have n8_ := Aside0.mk (blk_below (g := gb898) (o := .cells #[.slice Ao32 t894.length co32] 27 (0, 0)) (by (with_reducible repeat (first | refine blk_drewN ?_ _ | refine blk_drew ?_ | refine blk_alloc ?_ _)); refine blk_far ?_ NB898_917.out _; (with_reducible repeat (first | refine blk_drewN ?_ _ | refine blk_drew ?_ | refine blk_alloc ?_ _)); exact BK898.out) hb); have n9_ := Aside0.mk (blk_below (g := gb917) (o := .cells #[.slice Ao118 t913.length co118] 27 (0, 0)) (by (with_reducible repeat (first | refine blk_drewN ?_ _ | refine blk_drew ?_ | refine blk_alloc ?_ _)); refine blk_put (cs := #[.slice none 0 0]) ?_ 0 _ rfl; (with_reducible repeat (first | refine blk_drewN ?_ _ | refine blk_drew ?_ | refine blk_alloc ?_ _)); exact BK917.out) hb); have n10_ := Aside0.mk (below_step (by repeat (first | (with_reducible first | exact HB.out | apply below_alloc | apply pw_below_drewN | apply below_drew1 | refine below_set ?_ GE880.out | refine below_set ?_ GE889.out | refine below_set ?_ GE893.out | refine below_set ?_ GE898.out | refine below_set ?_ GE917.out) | exact HB.out)) hb); clear HO_890000; clear HO_894000; clear HO_899000; clear HO912; clear HO915; clear BK880; clear BK889; clear BK893; clear BK898; clear BK917; clear HB; have HO_890000 := n0_; have HO_894000 := n1_; have HO_899000 := n2_; have HO912 := n3_; have HO915 := n4_; have BK880 := n5_; have BK889 := n6_; have BK893 := n7_; have BK898 := n8_; have BK917 := n9_; have HB := n10_; clear n0_ n1_ n2_ n3_ n4_ n5_ n6_ n7_ n8_ n9_ n10_; (try clear hb); (try clear hb2); (try clear hk); (try clear hi)))
                    go_meet
                    case rel => exact ⟨_, ((t916 != t888)), (by first | rfl | (simp; done) | (simp [*]; done)), H', ⟨by have := HJ10.out; have := HJ59.out; first | omega | exact Nat.le_refl _⟩, ⟨by (try simp only [hl894000_59]); (with_reducible repeat (first | apply Kd.R_alloc | apply Kd.R_drewN | apply Kd.R_drew)); exact Kd.R_mono HO_890000.out (fun _ hk => ⟨hk.1.1.1, ⟨hk.1.1.2, hk.2⟩⟩)⟩, ⟨by (try simp only [hl894000_59]); (with_reducible repeat (first | apply Kd.R_alloc | apply Kd.R_drewN | apply Kd.R_drew)); exact Kd.R_mono HO_894000.out (fun _ hk => ⟨hk.1.1.1, ⟨hk.1.1.2, hk.2⟩⟩)⟩, ⟨by (try simp only [hl894000_59]); (with_reducible repeat (first | apply Kd.R_alloc | apply Kd.R_drewN | apply Kd.R_drew)); exact Kd.R_mono HO_899000.out (fun _ hk => ⟨hk.1.1.1, ⟨hk.1.1.2, hk.2⟩⟩)⟩, ⟨by (try simp only [hl894000_59]); (with_reducible repeat (first | apply Kd.R_alloc | apply Kd.R_drewN | apply Kd.R_drew)); exact Kd.R_mono HO915.out (fun _ hk => ⟨hk.1.1.1.2, ⟨hk.1.1.2, hk.1.2⟩⟩)⟩, ⟨by (try simp only [hl894000_59]); (with_reducible repeat (first | refine blk_drewN ?_ _ | refine blk_drew ?_ | refine blk_alloc ?_ _)); exact BK880.out⟩, ⟨by (try simp only [hl894000_59]); (with_reducible repeat (first | refine blk_drewN ?_ _ | refine blk_drew ?_ | refine blk_alloc ?_ _)); exact BK889.out⟩, ⟨by (try simp only [hl894000_59]); (with_reducible repeat (first | refine blk_drewN ?_ _ | refine blk_drew ?_ | refine blk_alloc ?_ _)); exact BK893.out⟩, ⟨by (try simp only [hl894000_59]); (with_reducible repeat (first | refine blk_drewN ?_ _ | refine blk_drew ?_ | refine blk_alloc ?_ _)); exact BK898.out⟩, ⟨by (try simp only [hl894000_59]); (with_reducible repeat (first | refine blk_drewN ?_ _ | refine blk_drew ?_ | refine blk_alloc ?_ _)); exact BK917.out⟩, ⟨by repeat (first | (with_reducible first | exact HB.out | apply below_alloc | apply pw_below_drewN | apply below_drew1 | refine below_set ?_ GE880.out | refine below_set ?_ GE889.out | refine below_set ?_ GE893.out | refine below_set ?_ GE898.out | refine below_set ?_ GE917.out) | exact HB.out)⟩⟩
                  · replace c125 := Bool.eq_false_iff.mpr c125
                    subst c125
                    have H1 : (laws_FnExactArfClosure.j2 kj59 t907 true t908) = some true := by rw [if_neg (show ¬ (false = true) by decide)] at H; exact H
                    exact absurd H1 (by cases kj59 <;> simp [laws_FnExactArfClosure.j2])
                 case rest =>
                  clear HC103
                  try clear c1
                  try clear c2
                  try clear p2
                  try clear c3
                  try clear c3b0
                  try clear c4
                  try clear c5
                  try clear c6
                  try clear c7
                  try clear c8
                  try clear c9
                  try clear c10
                  try clear c11
                  try clear c12
                  try clear c13
                  try clear c14
                  try clear c15
                  try clear c17
                  try clear c19
                  try clear c21
                  try clear c27
                  try clear c28
                  try clear c33
                  try clear c34
                  try clear c35
                  try clear c38
                  try clear c39
                  try clear c40
                  try clear c41
                  try clear c43
                  try clear c44
                  try clear c45
                  try clear c46
                  try clear c47
                  try clear c48
                  try clear c49
                  try clear c51
                  try clear c52
                  try clear c55
                  try clear c58
                  try clear c65
                  try clear c66
                  try clear c67
                  try clear c70
                  try clear c70b0
                  try clear c72
                  try clear c73
                  try clear c74
                  try clear c75
                  try clear c77
                  try clear c78
                  try clear c81
                  try clear c82
                  try clear c83
                  try clear c85
                  try clear c86
                  try clear c89
                  try clear c92
                  try clear c92b0
                  try clear c93
                  try clear c94
                  try clear c95
                  try clear c100
                  try clear c100b0
                  try clear c100b1
                  try clear c104
                  try clear c105
                  try clear c106
                  try clear c111
                  try clear c112
                  try clear c119
                  try clear c120
                  try clear c121
                  try clear c122
                  try clear c125
                  try clear c126
                  try clear c127
                  try clear c128
                  try clear c129
                  try clear c131
                  try clear c132
                  try clear c133
                  try clear c136
                  try clear c137
                  try clear c138
                  try clear c139
                  try clear c141
                  try clear c142
                  try clear c143
                  try clear hcz107_0
                  try clear hcz109_0
                  try clear hcz113_0
                  try clear hcz123_0
                  try clear hcz130_0
                  try clear hcz134_0
                  try clear hcz13_0
                  try clear hcz140_0
                  try clear hcz144_0
                  try clear hcz15_0
                  try clear hcz22_0
                  try clear hcz23_0
                  try clear hcz29_0
                  try clear hcz36_0
                  try clear hcz42_0
                  try clear hcz45_0
                  try clear hcz50_0
                  try clear hcz53_0
                  try clear hcz5_0
                  try clear hcz68_0
                  try clear hcz76_0
                  try clear hcz79_0
                  try clear hcz84_0
                  try clear hcz87_0
                  try clear hcz96_0
                  try clear hcz98_0
                  try clear hfz107_0
                  try clear hfz109_0
                  try clear hfz113_0
                  try clear hfz123_0
                  try clear hfz130_0
                  try clear hfz134_0
                  try clear hfz13_0
                  try clear hfz140_0
                  try clear hfz144_0
                  try clear hfz15_0
                  try clear hfz22_0
                  try clear hfz23_0
                  try clear hfz29_0
                  try clear hfz36_0
                  try clear hfz42_0
                  try clear hfz45_0
                  try clear hfz50_0
                  try clear hfz53_0
                  try clear hfz5_0
                  try clear hfz68_0
                  try clear hfz76_0
                  try clear hfz79_0
                  try clear hfz84_0
                  try clear hfz87_0
                  try clear hfz96_0
                  try clear hfz98_0
                  try clear p2
                  obtain ⟨kq, x87_102, rfl, HA, HJ102, HO_890000, HO_894000, HO_899000, HO_918000, BK880, BK889, BK893, BK898, BK917, HB⟩ := hcut
                  have hl899000_102 := (Kd.R_reads' HO_899000.out).1
                  rw [hl899000_102] at HO_899000
                  (try simp only [hl899000_102])
                  (try simp only [hl899000_102] at BK880)
                  (try simp only [hl899000_102] at BK889)
                  (try simp only [hl899000_102] at BK893)
                  (try simp only [hl899000_102] at BK898)
                  (try simp only [hl899000_102] at BK917)
                  (try simp only [hl899000_102] at HO_890000)
                  (try simp only [hl899000_102] at HO_894000)
                  (try simp only [hl899000_102] at HO_918000)
                  cases kq with
                  | zero => exact absurd HA.out (by simp [laws_FnExactArfClosure.j2])
                  | succ kj102 =>
                   have H := HA.out
                   clear HA
                   simp only [laws_FnExactArfClosure.j2] at H
                   by_cases c146 : x87_102 = true
                   · subst c146
                     have H1 : (some false) = some true := by rw [if_pos rfl] at H; exact H
                     exact absurd H1 (by simp)
                   · replace c146 := Bool.eq_false_iff.mpr c146
                     subst c146
                     have H1 : ((laws_heldSemigroup.f kj102 t908 1).bind fun t919 => (if t919 < 0 then (some false) else (if t919 = t907 then (some true) else (some false)))) = some true := by rw [if_neg (show ¬ (false = true) by decide)] at H; exact H
                     clear H
                     have H := H1
                     clear H1
                     replace H := Option.bind_eq_some_iff.mp H
                     obtain ⟨t919, A1470, H⟩ := H
                     replace H : (if t919 < 0 then (some false) else (if t919 = t907 then (some true) else (some false))) = some true := H
                     have A147 := Aside0.mk A1470
                     clear A1470
                     by_cases c148 : t919 < 0
                     · rw [if_pos c148] at H
                       exact absurd H (by simp)
                     · rw [if_neg c148] at H
                       have c148b0 : decide (t919 < 0) = false := decide_eq_false c148
                       clear c148
                       by_cases c155 : t919 = t907
                       · rw [if_pos c155] at H
                         have c155b0 : (t919 == t907) = true := beq_iff_eq.mpr c155
                         have c155b1 : (t919 != t907) = false := bne_eq_false_iff_eq.mpr c155
                         clear c155
                         clear H
                         have hnb156 := NB898_880.out
                         have hnc156 := NB880_898.out
                         have hnb157 := NB898_889.out
                         have hnc157 := NB889_898.out
                         have hnb158 := NB898_893.out
                         have hnc158 := NB893_898.out
                         have hnb159 := NB898_917.out
                         have hnc159 := NB917_898.out
                         have hcz160_0 : wc.cell? ⟨gb898, 0, none⟩ = some (.slice Ao32 t908.length co32) := (blk_cell BK898.out 0).trans rfl
                         have hfz160_0 := blk_frozen BK898.out 0
                         go_wp2_with (first | ((with_reducible refine gate_callee (f := 48) rfl ?_); refine goesL_ (some 90) rfl rfl Try.func48 (by kernel_rfl) rfl #[.agg #[.slice Ao32 t908.length co32], .int .i64 1] rfl (by (try simp only [List.map_toArray, List.map_cons, List.map_nil]); first | done | rfl | (simp only [List.length_drop, List.length_take]; rfl)) ?_; (with_reducible refine (laws_heldSemigroup.calls kj102 _ _ t908 1 t919 _ ?side1 ?side2 A147.out).mono ?_); (case side1 => exact ce_ ((Kd.R_reads' HO_899000.out).2.2)); (case side2 => exact (Kd.R_reads' HO_899000.out).2.1); rintro e w161 ⟨rfl, hb⟩; refine ⟨_, rfl, ?_⟩; have n0_ := Aside0.mk (Kd.R_below (re_ HO_890000.out) hb); have n1_ := Aside0.mk (Kd.R_below (re_ HO_894000.out) hb); have n2_ := Aside0.mk (Kd.R_below (re_ HO_899000.out) hb); have n3_ := Aside0.mk (Kd.R_below (re_ HO_918000.out) hb); have n4_ := Aside0.mk (blk_below (g := gb880) (o := .cells #[.slice A0_0 l0_0.length c0_0] 24 (0, 0)) (be_ BK880.out) hb); have n5_ := Aside0.mk (blk_below (g := gb889) (o := .cells #[.slice Ao20 t885.length co20] 27 (0, 0)) (be_ BK889.out) hb); have n6_ := Aside0.mk (blk_below (g := gb893) (o := .cells #[.slice Ao26 t905.length co26] 27 (0, 0)) (be_ BK893.out) hb); have n7_ := Aside0.mk (blk_below (g := gb898) (o := .cells #[.slice Ao32 t908.length co32] 27 (0, 0)) (be_ BK898.out) hb); have n8_ := Aside0.mk (blk_below (g := gb917) (o := .cells #[.slice Ao118 t913.length co118] 27 (0, 0)) (be_ BK917.out) hb); have n9_ := Aside0.mk (below_step (by repeat (first | (with_reducible first | exact HB.out | apply below_alloc | apply pw_below_drewN | apply below_drew1 | refine below_set ?_ GE880.out | refine below_set ?_ GE889.out | refine below_set ?_ GE893.out | refine below_set ?_ GE898.out | refine below_set ?_ GE917.out) | exact HB.out)) hb); clear HO_890000; clear HO_894000; clear HO_899000; clear HO_918000; clear BK880; clear BK889; clear BK893; clear BK898; clear BK917; clear HB; have HO_890000 := n0_; have HO_894000 := n1_; have HO_899000 := n2_; have HO_918000 := n3_; have BK880 := n4_; have BK889 := n5_; have BK893 := n6_; have BK898 := n7_; have BK917 := n8_; have HB := n9_; clear n0_ n1_ n2_ n3_ n4_ n5_ n6_ n7_ n8_ n9_; (try clear hb); (try clear hb2); (try clear hk); (try clear hi)))
                         go_ret
                         exact ⟨by first | rfl | (simp [errW_none, errW_some] <;> rfl) | (simp [*, errW_none, errW_some] <;> rfl), by repeat (first | (with_reducible first | exact HB.out | apply below_alloc | apply pw_below_drewN | apply below_drew1 | refine below_set ?_ GE880.out | refine below_set ?_ GE889.out | refine below_set ?_ GE893.out | refine below_set ?_ GE898.out | refine below_set ?_ GE917.out) | exact HB.out)⟩
                       · rw [if_neg c155] at H
                         exact absurd H (by simp)
               · rw [if_neg c100] at H
                 exact absurd H (by simp)
       · replace c58 := Bool.eq_false_iff.mpr c58
         subst c58
         have H1 : (some false) = some true := by rw [if_neg (show ¬ (false = true) by decide)] at H; exact H
         exact absurd H1 (by simp)
end Go.Proofs.Ytapdhljbhekcdaa.PB
end
section
namespace Go.Proofs.Ytapdhljbhekcdaa.E
open Go.RowKit Go.Proofs.YtapdhljbhekcdaaW.PrintWords Go.Proofs.YtapdhljbhekcdaaW.PrintLast Go.Proofs.YtapdhljbhekcdaaW.PrintMore
set_option linter.unusedVariables false
set_option linter.unusedSimpArgs false
theorem w64 {x : Int} (h1 : -9223372036854775808 ≤ x) (h2 : x ≤ 9223372036854775807) : wrap64 x = x := by
 unfold wrap64; omega
theorem nd_t {p : Prop} [Decidable p] (h : ¬ p) : (!decide p) = true := by simp [h]
theorem nd_f {p : Prop} [Decidable p] (h : p) : ¬ (!decide p) = true := by simp [h]
theorem emod_le_self {n x : Int} (h : 0 ≤ n) (hx : 0 < x) : n % x ≤ n := by
 have h1 := Int.mul_ediv_add_emod n x
 have h2 : 0 ≤ x * (n / x) := Int.mul_nonneg (by omega) (Int.ediv_nonneg h (by omega))
 omega
theorem ev_ifp {α : Type} {c : Prop} [Decidable c] {a b : Nat → Option α} {r : α} (h : c) (k : Ev a r) : Ev (fun n => if c then a n else b n) r :=
 Ev.congr (fun _ => if_pos h) k
theorem ev_ifn {α : Type} {c : Prop} [Decidable c] {a b : Nat → Option α} {r : α} (h : ¬ c) (k : Ev b r) : Ev (fun n => if c then a n else b n) r :=
 Ev.congr (fun _ => if_neg h) k
theorem ev_bind {α β : Type} {g : Nat → Option α} {f : Nat → α → Option β} (a : α) {r : β} (h : Ev g a) (k : Ev (fun n => f n a) r) : Ev (fun n => (g n).bind (f n)) r := Ev.bind h k
theorem ev_to {α : Type} {g : Nat → Option α} {a b : α} (h : Ev g a) (e : a = b) : Ev g b := e ▸ h
theorem rd_lt {l : List Int} {i : Int} (h0 : 0 ≤ i) (h : i < l.length) : rd l i = l[i.toNat]'(by omega) := by
 unfold rd; rw [List.getD_eq_getElem?_getD, List.getElem?_eq_getElem (by omega)]; rfl
theorem rd_mem {l : List Int} {i : Int} (h0 : 0 ≤ i) (h : i < l.length) : rd l i ∈ l := by
 rw [rd_lt h0 h]; exact List.getElem_mem _
theorem drop_rd {l : List Int} {i : Int} (h0 : 0 ≤ i) (h : i < l.length) : l.drop i.toNat = rd l i :: l.drop (i + 1).toNat := by
 rw [rd_lt h0 h, List.drop_eq_getElem_cons (by omega)]
 congr 2; omega
theorem take_rd {l : List Int} {i : Int} (h0 : 0 ≤ i) (h : i < l.length) : l.take (i + 1).toNat = l.take i.toNat ++ [rd l i] := by
 rw [rd_lt h0 h, show (i + 1).toNat = i.toNat + 1 from by omega, List.take_succ_eq_append_getElem (by omega)]
theorem rd_ext {l m : List Int} (hl : l.length = m.length) (h : ∀ i : Int, 0 ≤ i → i < l.length → rd l i = rd m i) : l = m := by
 refine List.ext_getElem hl fun n h1 h2 => ?_
 have := h n (by omega) (by omega)
 rw [rd_lt (by omega) (by omega), rd_lt (by omega) (by omega)] at this
 simpa using this
theorem rd_set {l : List Int} {i j : Int} (x : Int) (hi : 0 ≤ i) (hi' : i < l.length) (hj : 0 ≤ j) : rd (l.set i.toNat x) j = if j = i then x else rd l j := by
 unfold rd
 rw [List.getD_eq_getElem?_getD, List.getD_eq_getElem?_getD, List.getElem?_set]
 by_cases h : j = i
 · subst h; rw [if_pos rfl, if_pos rfl, if_pos (by omega)]; rfl
 · rw [if_neg h, if_neg (by omega)]
theorem rd_append {l m : List Int} {i : Int} (hi : 0 ≤ i) : rd (l ++ m) i = if i < l.length then rd l i else rd m (i - l.length) := by
 unfold rd
 rw [List.getD_eq_getElem?_getD, List.getD_eq_getElem?_getD, List.getD_eq_getElem?_getD, List.getElem?_append]
 by_cases h : i < l.length
 · rw [if_pos h, if_pos (by omega)]
 · rw [if_neg h, if_neg (by omega), show i.toNat - l.length = (i - l.length).toNat from by omega]
theorem rd_rep {n : Nat} {x : Int} {i : Int} (hi : 0 ≤ i) (h : i < n) : rd (List.replicate n x) i = x := by
 rw [rd_lt hi (by simpa using h)]; simp
theorem mem_rd {l : List Int} {x : Int} (h : x ∈ l) : ∃ i : Int, 0 ≤ i ∧ i < l.length ∧ rd l i = x := by
 obtain ⟨n, hn, rfl⟩ := List.mem_iff_getElem.1 h
 exact ⟨n, by omega, by omega, by rw [rd_lt (by omega) (by omega)]; simp⟩
def marks (a : Int) : Nat → List Int
 | 0 => []
 | n + 1 => a :: marks (a + 1) n
theorem marks_len (a : Int) (n : Nat) : (marks a n).length = n := by
 induction n generalizing a with
 | zero => rfl
 | succ n ih => simp [marks, ih]
theorem marks_rd (a : Int) (n : Nat) (i : Int) (h0 : 0 ≤ i) (h : i < n) : rd (marks a n) i = a + i := by
 induction n generalizing a i with
 | zero => omega
 | succ n ih =>
  by_cases h1 : i = 0
  · subst h1; simp [marks, rd]
  · have := ih (a + 1) (i - 1) (by omega) (by omega)
    unfold rd at this ⊢
    rw [marks, show i.toNat = (i - 1).toNat + 1 from by omega, List.getD_cons_succ, this]
    omega
end Go.Proofs.Ytapdhljbhekcdaa.E
end
section
namespace Go.Proofs.Ytapdhljbhekcdaa.E
open Go.RowKit Go.Proofs.Ytapdhljbhekcdaa.PB Go.Proofs.YtapdhljbhekcdaaW.PrintWords Go.Proofs.YtapdhljbhekcdaaW.PrintLast Go.Proofs.YtapdhljbhekcdaaW.PrintMore
set_option linter.unusedVariables false
set_option linter.unusedSimpArgs false
theorem l1In_eq (n lo hi : Int) : spec_l1In.f n lo hi = some (decide (lo ≤ n ∧ n ≤ hi)) := by
 unfold spec_l1In.f; by_cases h : n ≥ lo
 · rw [if_pos h]; simp [h]
 · rw [if_neg h]; simp [show ¬ lo ≤ n from h]
theorem within_eq (n lo hi : Int) : impl_within.f n lo hi = some (decide (lo ≤ n ∧ n ≤ hi)) := l1In_eq n lo hi
theorem allWithin_l {l : List Int} {lo hi : Int} (hl : l.length ≤ 1099511627776) (d : Nat) : ∀ (i : Int), 0 ≤ i → i + d = l.length → Ev (fun k => impl_allWithin.l0 k lo hi l l.length i) (decide (∀ x ∈ l.drop i.toNat, lo ≤ x ∧ x ≤ hi)) := by
 induction d with
 | zero =>
  intro i h0 h1
  refine Ev.step (fun k => by rw [impl_allWithin.l0]) ?_
  simp (disch := omega) only [if_neg]
  refine ev_to (Ev.now _) ?_
  rw [List.drop_of_length_le (by omega)]; simp
 | succ d ih =>
  intro i h0 h1
  refine Ev.step (fun k => by rw [impl_allWithin.l0]) ?_
  simp (disch := omega) only [if_pos, w64, within_eq, Option.bind_some]
  rw [drop_rd h0 (by omega)]
  by_cases h : lo ≤ rd l i ∧ rd l i ≤ hi
  · refine ev_ifp (by simpa using h) (ev_to (ih (i + 1) (by omega) (by omega)) ?_)
    simp [h]
  · refine ev_ifn (by simpa using h) (ev_to (Ev.now _) ?_)
    simp only [List.mem_cons, forall_eq_or_imp, h, false_and, decide_false]
theorem allWithin_ev {l : List Int} (lo hi : Int) (hl : l.length ≤ 1099511627776) : Ev (fun k => impl_allWithin.f k l lo hi) (decide (∀ x ∈ l, lo ≤ x ∧ x ≤ hi)) :=
 ev_to (allWithin_l hl l.length 0 (by omega) (by omega)) (by simp)
def Asc (l : List Int) : Prop := ∀ i : Int, 0 < i → i < l.length → rd l (i - 1) < rd l i
noncomputable instance (l : List Int) : Decidable (Asc l) := Classical.propDecidable _
theorem asc_l {l : List Int} (hl : l.length ≤ 1099511627776) (d : Nat) : ∀ (i : Int), 0 < i → i + d = max 1 l.length → (∀ j, 0 < j → j < i → rd l (j - 1) < rd l j) → Ev (fun k => impl_IsAscending.l0 k l i) (decide (Asc l)) ∧ Ev (fun k => spec_IsAscending.l0 k l i) (decide (Asc l)) := by
 induction d with
 | zero =>
  intro i h0 h1 h2
  have ha : Asc l := fun j hj hj' => h2 j hj (by omega)
  constructor
  · refine Ev.step (fun k => by rw [impl_IsAscending.l0]) ?_
    simp (disch := omega) only [if_neg]
    exact ev_to (Ev.now _) (by simp [ha])
  · refine Ev.step (fun k => by rw [spec_IsAscending.l0]) ?_
    simp (disch := omega) only [if_neg]
    exact ev_to (Ev.now _) (by simp [ha])
 | succ d ih =>
  intro i h0 h1 h2
  by_cases h : rd l (i - 1) < rd l i
  · obtain ⟨a, b⟩ := ih (i + 1) (by omega) (by omega) (fun j hj hj' => by
     by_cases e : j = i
     · subst e; exact h
     · exact h2 j hj (by omega))
    constructor
    · refine Ev.step (fun k => by rw [impl_IsAscending.l0]) ?_
      simp (disch := omega) only [if_pos, if_neg, w64]
      exact a
    · refine Ev.step (fun k => by rw [spec_IsAscending.l0]) ?_
      simp (disch := omega) only [if_pos, if_neg, w64]
      exact b
  · have hn : ¬ Asc l := fun ha => h (ha i h0 (by omega))
    constructor
    · refine Ev.step (fun k => by rw [impl_IsAscending.l0]) ?_
      simp (disch := omega) only [if_pos, w64]
      exact ev_to (Ev.now _) (by simp [hn])
    · refine Ev.step (fun k => by rw [spec_IsAscending.l0]) ?_
      simp (disch := omega) only [if_pos, w64]
      exact ev_to (Ev.now _) (by simp [hn])
theorem ascI_ev {l : List Int} (hl : l.length ≤ 1099511627776) : Ev (fun k => impl_IsAscending.f k l) (decide (Asc l)) :=
 (asc_l hl (l.length - 1) 1 (by omega) (by omega) (fun j h h' => by omega)).1
theorem ascS_ev {l : List Int} (hl : l.length ≤ 1099511627776) : Ev (fun k => spec_IsAscending.f k l) (decide (Asc l)) :=
 (asc_l hl (l.length - 1) 1 (by omega) (by omega) (fun j h h' => by omega)).2
end Go.Proofs.Ytapdhljbhekcdaa.E
end
