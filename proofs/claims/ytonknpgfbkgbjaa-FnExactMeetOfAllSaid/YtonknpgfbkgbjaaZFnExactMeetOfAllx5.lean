-- Bundled by shake.py from this session's printed and written texts; Lean checks it.
import Derived.Test.YtonknpgfbkgbjaaZFnExactMeetOfAllx1
import Derived.Test.YtonknpgfbkgbjaaZFnExactMeetOfAllx3
import Derived.Test.YtonknpgfbkgbjaaZFnExactMeetOfAllx4
section
namespace Go.Proofs.Ytonknpgfbkgbjaa.PA
open Go.RowKit Go.Proofs.YtonknpgfbkgbjaaW.PrintWords Go.Proofs.YtonknpgfbkgbjaaW.PrintLast Go.Proofs.YtonknpgfbkgbjaaW.PrintMore
attribute [local go_sem] max2_int min2_int max_two min_two max_three min_three max_four min_four
set_option linter.unusedVariables false
set_option linter.unusedSimpArgs false
set_option maxHeartbeats 8000000
set_option maxRecDepth 100000
mutual
def spec_MeetOfAll.j0 : Nat → List (S26) → Bool → Option (List Int × Bool)
 | 0, _, _ => none
 | k + 1, x0, x17 => if x17 = true then (some (([] : List Int), false)) else (if 0 < (x0.length : Int) then ((spec_l3Copy.f ((rd_T26 x0 0).f0)).bind fun t295 => (spec_MeetOfAll.l0 k x0 1 t295)) else (none))
def spec_MeetOfAll.l0 : Nat → List (S26) → Int → List Int → Option (List Int × Bool)
 | 0, _, _, _ => none
 | k + 1, x0, x5, x299000 => if x5 < (x0.length : Int) then (if 0 ≤ x5 then ((spec_MeetOf.f k x299000 ((rd_T26 x0 x5).f0)).bind fun bt300 => (if bt300.2 = true then (spec_MeetOfAll.l0 k x0 (wrap64 (x5 + 1)) bt300.1) else (some (([] : List Int), false)))) else (none)) else (some (x299000, true))
end
def spec_MeetOfAll.f (k : Nat) (l0 : List (S26)) : Option (List Int × Bool) := if (l0.length : Int) = 0 then (spec_MeetOfAll.j0 k l0 true) else (if 0 < (l0.length : Int) then ((spec_IsSemigroup.f k ((rd_T26 l0 0).f0)).bind fun t293 => (spec_MeetOfAll.j0 k l0 (!t293))) else (none))
def spec_MeetOfAll.T7 : Bool × List (List Nat × List Nat) := (true, [([], []), ([], []), ([], []), ([1, 2], [1, 2]), ([3], [3]), ([0, 4], [0, 4]), ([5], [5]), ([6], [6]), ([6], [6]), ([], []), ([9, 7, 5, 0, 1, 2, 3, 4, 5, 6, 7, 9], [7, 9]), ([8, 10, 0, 1, 2, 3, 4, 5, 6, 7, 8, 9, 10], [8])])
def spec_MeetOfAll.B7 : List Nat := [0, 0, 0, 6, 14, 31, 63, 127, 127, 0, 767, 2047]
theorem spec_MeetOfAll.tab7 : rtab .any (opsOf Try.f8 7) = spec_MeetOfAll.T7 := by kernel_rfl
theorem spec_MeetOfAll.bits7 : waitsOk spec_MeetOfAll.T7.2 spec_MeetOfAll.B7 = true := by kernel_rfl
theorem spec_MeetOfAll.calls (k : Nat) (A0 : Option Addr) (c0 : Nat) (l0 : List (S26)) (r1 : List Int) (r2 : Bool) (w : World) (hr0 : Kd.C k26 w A0 l0.length l0) (hc0 : l0.length ≤ c0) (h : spec_MeetOfAll.f k l0 = some (r1, r2)) :
 Calls Try.prog 8 #[.slice A0 l0.length c0] w fun e w' => ∃ v0_ : Value, e = .returned (.tuple #[.agg #[v0_], .bool r2]) ∧ Kd.R (Kd.int .i64) 3 w' w.heap.size (fun _ => True) v0_ r1 ∧ Below w.heap.size w w' := by
 have hu26 := Try.underlying26
 have HR0 := Aside0.mk hr0
 have HC0 := Aside0.mk hc0
 clear hr0 hc0
 have HB := Aside0.mk (Below.refl w.heap.size w)
 have H := h
 clear h
 unfold spec_MeetOfAll.f at H
 have HC2 := Aside0.mk H
 clear H
 go_enter Try.func8, Try.ntmps8
 go_upto_region 1 with (first | ((with_reducible refine gate_dst (N := 2) rfl ?_); refine bx_ 2 #[.slice none 0 0] 26 ?_; intro gb291 hg w3 hbox hb; have BK291 := Aside0.mk (hbox); have GW291 := gw_ hg HB; have GE291 := gw_ hg HB; replace HB := bo_ HB hb; clear hb hbox hg))
 (try simp only [Act.put, z1_, z2_, z3_])
 go_cut [17] (fun v17 wc => ∃ (kq : Nat) (x17_1 : Bool), v17 = .bool x17_1 ∧ Aside0 (spec_MeetOfAll.j0 kq l0 x17_1 = some (r1, r2)) ∧ Aside0 (kq ≤ k) ∧ Aside0 (wc.heap[gb291]? = some (.cells #[(.slice none 0 0)] 26 (0, 0))) ∧ Aside0 (Below w.heap.size w wc))
 case first =>
  have H := HC2.out
  clear HC2
  by_cases c4 : (l0.length : Int) = 0
  · rw [if_pos c4] at H
    have c4b0 : ((l0.length : Int) == 0) = true := beq_iff_eq.mpr c4
    have c4b1 : ((l0.length : Int) != 0) = false := bne_eq_false_iff_eq.mpr c4
    clear c4
    (first | rw [c4b0] | (simp only [i64_w, i32_w]; rw [c4b0]) | skip)
    have H' := Aside0.mk H
    clear H
    go_wp2
    go_meet
    case rel => exact ⟨_, (true), rs_, H', ⟨by first | omega | exact Nat.le_refl _⟩, ⟨be_ BK291.out⟩, ⟨bq_ HB⟩⟩
  rw [if_neg c4] at H
  have c4b0 : ((l0.length : Int) == 0) = false := beq_eq_false_iff_ne.mpr c4
  have c4b1 : ((l0.length : Int) != 0) = true := bne_iff_ne.mpr c4
  have c4b2 : ¬ (l0 = []) := fun h_ => c4 (by rw [h_]; rfl)
  (first | rw [c4b0] | (simp only [i64_w, i32_w]; rw [c4b0]) | skip)
  obtain ⟨c5, H⟩ := ip_ H
  have c5b0 : decide (0 < (l0.length : Int)) = true := decide_eq_true c5
  have c5b1 : decide (0 < l0.length) = true := decide_eq_true (by omega)
  clear c5
  obtain ⟨t293, A6, H⟩ := ob_ H
  have H' := Aside0.mk H
  clear H
  have p292 : 0 ≤ (0 : Int) := (by omega)
  have q292 : 0 < (l0.length : Int) := od_
  obtain ⟨ad292, A292_0, c292_0, e292, hx292_0, hl292_0, hi292_0⟩ := at_T26 HR0.out 0 p292 q292
  cases e292
  have qi292 : (0 < l0.length) = True := eq_true (by omega)
  (try rw [show ((0 : Int)).toNat = 0 from rfl] at hx292_0)
  (try rw [Addr.add_zero'] at hx292_0)
  (try replace hx292_0 := (HB.out.cell (World.block_lt_of_cell? w _ hx292_0)).trans hx292_0)
  have HR292_0 := Aside0.mk hi292_0
  have HC292_0 := Aside0.mk hl292_0
  clear hi292_0 hl292_0
  replace p292 := eq_true p292
  replace q292 := eq_true q292
  go_wp2_with (first | (go_at_call 25; (with_reducible refine (spec_IsSemigroup.calls k _ _ ((rd_T26 l0 0).f0) t293 _ ?side1 ?side2 A6.out).mono ?_); (case side1 => exact ch_ HR292_0 HB); (case side2 => exact HC292_0.out); rintro e w7 ⟨rfl, hb⟩; replace BK291 := bk_ BK291 hb; replace HB := bp_ HB hb; (try clear hb)))
  go_meet
  case rel => exact ⟨_, (!t293), rs_, H', ⟨by first | omega | exact Nat.le_refl _⟩, ⟨be_ BK291.out⟩, ⟨bq_ HB⟩⟩
 case rest =>
  clear HC2
  obtain ⟨kq, x17_1, rfl, HA, HJ1, BK291, HB⟩ := hcut
  cases kq with
  | zero => exact absurd HA.out (by simp [spec_MeetOfAll.j0])
  | succ kj1 =>
   have H := HA.out
   clear HA
   simp only [spec_MeetOfAll.j0] at H
   by_cases c8 : x17_1 = true
   · subst c8
     rw [if_pos rfl] at H
     simp only [Option.some.injEq, Prod.mk.injEq] at H
     obtain ⟨rfl, rfl⟩ := H
     have hcz9_0 := cz_ BK291
     have hfz9_0 := blk_frozen BK291.out 0
     go_wp2
     refine bodyPost_ret (results_ct rfl _ _ gb291 26 #[.slice none 0 0] (0, 0) _ rfl (bz_ BK291) Try.underlying26 rfl (by kernel_rfl)) rfl ?_
     exact ⟨_, rf_, by first | exact Kd.R_nil _ _ _ _ _ | exact Kd.N_nil _ _ _ _ _ | exact Kd.V_nil _ _ _ _ _ | exact Kd.Q_nil _ _ _ _ _ | exact Kd.S_nil _ _ _ _ _, bq_ HB⟩
   replace c8 := Bool.eq_false_iff.mpr c8
   subst c8
   rw [if_neg (show ¬ (false = true) by decide)] at H
   obtain ⟨c10, H⟩ := ip_ H
   have c10b0 : decide (0 < (l0.length : Int)) = true := decide_eq_true c10
   have c10b1 : decide (0 < l0.length) = true := decide_eq_true (by omega)
   clear c10
   obtain ⟨t295, A11, H⟩ := ob_ H
   have H' := Aside0.mk H
   clear H
   have p294 : 0 ≤ (0 : Int) := (by omega)
   have q294 : 0 < (l0.length : Int) := od_
   obtain ⟨ad294, A294_0, c294_0, e294, hx294_0, hl294_0, hi294_0⟩ := at_T26 HR0.out 0 p294 q294
   cases e294
   have qi294 : (0 < l0.length) = True := eq_true (by omega)
   (try rw [show ((0 : Int)).toNat = 0 from rfl] at hx294_0)
   (try rw [Addr.add_zero'] at hx294_0)
   (try replace hx294_0 := (HB.out.cell (World.block_lt_of_cell? w _ hx294_0)).trans hx294_0)
   have HR294_0 := Aside0.mk hi294_0
   have HC294_0 := Aside0.mk hl294_0
   clear hi294_0 hl294_0
   replace p294 := eq_true p294
   replace q294 := eq_true q294
   go_wp2_with (first | ((with_reducible refine gate_callee (f := 26) rfl ?_); refine gL_ (some 22) Try.func26 #[.agg #[.slice A294_0 ((rd_T26 l0 0).f0).length c294_0]] ?_; (with_reducible refine (spec_l3Copy.calls _ _ ((rd_T26 l0 0).f0) t295 _ ?side1 ?side2 A11.out).mono ?_); (case side1 => exact ch_ HR294_0 HB); (case side2 => exact HC294_0.out); rintro e w12 ⟨v296, rfl, ho0, hb⟩; refine ⟨_, rfl, ?_⟩; have HO297 := Aside0.mk (Kd.R_lower ho0 (below_size (bq_ HB))); replace BK291 := bk_ BK291 hb; replace HB := bp_ HB hb; (try clear hb); (try clear ho0)) | ((with_reducible refine gate_dst (N := 4) rfl ?_); refine bx_ 4 #[.slice none 0 0] 26 ?_; intro gb298 hg w13 hbox hb; replace HO297 := Aside0.mk (Kd.R_below (re_ HO297.out) hb); have BK298 := Aside0.mk (hbox); have GW298 := gq_ hg (bq_ HB); have GE298 := gq_ hg (bq_ HB); replace HB := bp_ HB hb; have NB291_298 := nl_ hg BK291; have NB298_291 := ng_ hg BK291; replace BK291 := bk_ BK291 hb; clear hb hbox hg; obtain ⟨Ao14, co14, eo14⟩ := Kd.R_slice HO297.out; subst eo14; have hnb15 := NB298_291.out; have hnc15 := NB291_298.out; have hcz16_0 := cz_ BK298; have hfz16_0 := blk_frozen BK298.out 0))
   go_loopg [5] kj1 (fun kq v5 w' => ∃ (x5_2 : Int) (x299000_2 : List Int) (u299000 : Value), v5 = .int .i64 x5_2 ∧ Aside0 (spec_MeetOfAll.l0 kq l0 x5_2 x299000_2 = some (r1, r2)) ∧ Aside0 (kq ≤ kj1) ∧ Aside0 (Kd.R (Kd.int .i64) 3 w' w.heap.size (fun _ => True) u299000 x299000_2) ∧ Aside0 (w'.heap[gb291]? = some (.cells #[(.slice none 0 0)] 26 (0, 0))) ∧ Aside0 (w'.heap[gb298]? = some (.cells #[u299000] 26 (0, 0))) ∧ Aside0 (Below w.heap.size w w'))
   case atStart => exact ⟨(1), (t295), (.slice Ao14 t295.length co14), rs_, H', ⟨Nat.le_refl _⟩, ⟨by (with_reducible repeat (first | apply Kd.R_alloc | apply Kd.R_drewN | apply Kd.R_drew)); exact Kd.R_mono (Kd.R_far (p := ⟨gb298, 0, none⟩) (Kd.R_types HO297.out BK298.out (by decide)) (fun _ hk => hk.2) (.slice Ao14 t295.length co14)) (fun _ hk => trivial)⟩, ⟨ba_ BK291⟩, ⟨bz_ BK298⟩, ⟨bq_ HB⟩⟩
   case round =>
    clear H'
    try clear c10b0
    try clear c10b1
    try clear hcz16_0
    try clear hfz16_0
    try clear hx294_0
    try clear p294
    try clear q294
    obtain ⟨x5_2, x299000_2, u299000, rfl, HA, HK2, HO_299000, BK291, BK298, HB⟩ := hrel
    cases gk with
    | zero => exact absurd HA.out (by simp [spec_MeetOfAll.l0])
    | succ k2 =>
     have H := HA.out
     clear HA
     simp only [spec_MeetOfAll.l0] at H
     by_cases c17 : x5_2 < (l0.length : Int)
     rotate_left
     · rw [if_neg c17] at H
       have c17b0 : decide (x5_2 < (l0.length : Int)) = false := decide_eq_false c17
       clear c17
       simp only [Option.some.injEq, Prod.mk.injEq] at H
       obtain ⟨rfl, rfl⟩ := H
       have hnb43 := NB298_291.out
       have hnc43 := NB291_298.out
       have hcz44_0 := cz_ BK298
       have hfz44_0 := blk_frozen BK298.out 0
       obtain ⟨Ao45, co45, eo45⟩ := Kd.R_slice HO_299000.out
       subst eo45
       have hcz46_0 := cz_ BK291
       have hfz46_0 := blk_frozen BK291.out 0
       go_wp2
       refine bodyPost_ret (results_ct rfl _ _ gb291 26 #[.slice Ao45 x299000_2.length co45] (0, 0) _ rfl (bz_ BK291) Try.underlying26 rfl (by kernel_rfl)) rfl ?_
       exact ⟨_, rf_, by (with_reducible repeat (first | apply Kd.R_alloc | apply Kd.R_drewN | apply Kd.R_drew)); exact Kd.R_mono (Kd.R_far (p := ⟨gb291, 0, none⟩) (Kd.R_types HO_299000.out BK291.out (by decide)) (fun _ hk => hk.2) (.slice Ao45 x299000_2.length co45)) (fun _ hk => trivial), bq_ HB⟩
     rw [if_pos c17] at H
     have c17b0 : decide (x5_2 < (l0.length : Int)) = true := decide_eq_true c17
     clear c17
     obtain ⟨c18b0, H⟩ := ipd_ H
     obtain ⟨⟨t300, t303⟩, A19, H⟩ := ob_ H
     (try dsimp only at H)
     by_cases c20 : t303 = true
     rotate_left
     · replace c20 := Bool.eq_false_iff.mpr c20
       subst c20
       rw [if_neg (show ¬ (false = true) by decide)] at H
       simp only [Option.some.injEq, Prod.mk.injEq] at H
       obtain ⟨rfl, rfl⟩ := H
       obtain ⟨Ao33, co33, eo33⟩ := Kd.R_slice HO_299000.out
       subst eo33
       try go_wp2
       replace HO_299000 := Aside0.mk (Kd.R_drew HO_299000.out)
       replace BK291 := Aside0.mk (blk_drew BK291.out)
       replace BK298 := Aside0.mk (blk_drew BK298.out)
       replace HB := Aside0.mk (below_drew1 HB.out)
       have p299 : 0 ≤ (x5_2 : Int) := od_
       have q299 : x5_2 < (l0.length : Int) := od_
       obtain ⟨ad299, A299_0, c299_0, e299, hx299_0, hl299_0, hi299_0⟩ := at_T26 HR0.out x5_2 p299 q299
       have hw299_0 := hx299_0
       obtain rfl : ad294 = ad299 := (by injection e299)
       (try replace hx299_0 := (HB.out.cell (World.block_lt_of_cell? w _ hx299_0)).trans hx299_0)
       have HR299_0 := Aside0.mk hi299_0
       have HC299_0 := Aside0.mk hl299_0
       clear hi299_0 hl299_0
       replace p299 := eq_true p299
       replace q299 := eq_true q299
       refine start_ (n := 12) (S := fun w' => w'.cell? ⟨gb298, 0, none⟩ = some (.slice Ao33 x299000_2.length co33) ∧ w'.cell? (ad294.add (x5_2).toNat) = some (.slice A299_0 ((rd_T26 l0 x5_2).f0).length c299_0)) (ds := []) (B_ 0 12) (by kernel_rfl) rfl rfl ⟨(blk_cell BK298.out 0).trans rfl, ((HB.out.cell (World.block_lt_of_cell? w _ hw299_0)).trans hw299_0)⟩ (fun hHeld => ?_); refine with_tabW spec_MeetOfAll.tab7 spec_MeetOfAll.bits7 (fun HT_ HW_ => ?_)
       generalize wr.drew = w34 at HO_299000 BK291 BK298 HB HR299_0 hx299_0 hHeld ⊢
       refine pu_ HT_ 1 31 (B_ 2 12) ?_
       refine pu_ HT_ 2 32 (B_ 6 12) ?_
       refine pu_ HT_ 3 33 (B_ 14 12) ?_
       refine tk2_ HT_ HW_ hHeld 0 30 (B_ 15 12) ?_
       refine tk2_ HT_ HW_ hHeld 4 34 (B_ 31 12) ?_
       refine join_ (σ := Value × Nat) 2 (B_ 1023 12) (fun s_ => [(35, .tuple #[.agg #[s_.1], .bool false]), (6, .pointer (some ⟨s_.2, 0, none⟩)), (29, .tuple #[.agg #[s_.1], .bool false]), (36, .agg #[s_.1]), (37, .bool false)]) (fun s_ w' => (w'.cell? ⟨gb298, 0, none⟩ = some (.slice Ao33 x299000_2.length co33) ∧ w'.cell? (ad294.add (x5_2).toNat) = some (.slice A299_0 ((rd_T26 l0 x5_2).f0).length c299_0)) ∧ (Kd.R (Kd.int .i64) 3 w' w.heap.size (fun k_ => some k_ ≠ (.slice Ao33 x299000_2.length co33 : Value).ownBlock) s_.1 t300) ∧ (Kd.R (Kd.int .i64) 3 w' w.heap.size (fun k_ => some k_ ≠ (s_.1 : Value).ownBlock) (.slice Ao33 x299000_2.length co33) x299000_2) ∧ (w'.heap[gb291]? = some (.cells #[.slice none 0 0] 26 (0, 0))) ∧ (w'.heap[gb298]? = some (.cells #[.slice Ao33 x299000_2.length co33] 26 (0, 0))) ∧ (w'.heap[s_.2]? = some (.cells #[.slice none 0 0] 26 (0, 0))) ∧ (w.heap.size ≤ s_.2) ∧ (w.heap.size ≤ s_.2) ∧ (gb291 ≠ s_.2) ∧ (s_.2 ≠ gb291) ∧ (gb298 ≠ s_.2) ∧ (s_.2 ≠ gb298) ∧ (Below w.heap.size w w')) ?_ ?_
       rotate_left
       · intro hCont
         refine two_ (i := 5) (j := 9) (Ni := some 35) (Nj := some 6) (B_ 63 12) (B_ 543 12) rfl rfl rfl rfl (two_of HT_.out (by kernel_rfl)) (by decide) (by decide) (fun K hK => ?_) (fun K hK => ?_)
         · skip
           refine goes_ Try.func27 (by kernel_rfl) rfl #[.agg #[.slice Ao33 x299000_2.length co33], .agg #[.slice A299_0 ((rd_T26 l0 x5_2).f0).length c299_0]] (by rfl) rfl rfl (by (try simp only [List.map_toArray, List.map_cons, List.map_nil]); first | done | rfl | (simp only [List.length_drop, List.length_take]; rfl)) ?_
           with_reducible refine (spec_MeetOf.calls k2 _ _ x299000_2 _ _ ((rd_T26 l0 x5_2).f0) t300 false _ ?side1 ?side2 ?side3 ?side4 A19.out).mono ?_
           (case side1 => exact ce_ ((Kd.R_reads' HO_299000.out).2.2))
           (case side2 => exact (Kd.R_reads' HO_299000.out).2.1)
           (case side3 => exact ch_ HR299_0 HB)
           (case side4 => exact HC299_0.out)
           rintro e w35 ⟨v301, rfl, ho0, hb⟩
           refine ⟨_, rfl, ?_⟩
           have HO302 := Aside0.mk (Kd.R_lower (Kd.R_new' ho0 (Kd.R_lt (re_ HO_299000.out))) (below_size (bq_ HB)))
           replace HO_299000 := Aside0.mk (Kd.R_elder' (re_ HO_299000.out) (Kd.R_base ho0) hb)
           replace BK291 := bk_ BK291 hb
           replace BK298 := bk_ BK298 hb
           replace HB := bp_ HB hb
           (try clear hb)
           (try clear ho0)
           refine hK.out _ _ ⟨(blk_cell BK298.out 0).trans rfl, ((HB.out.cell (World.block_lt_of_cell? w _ hw299_0)).trans hw299_0)⟩ (fun hHeld => ?_)
           clear hK K
           refine norm_ (a' := ?_) ?_ ?_
           rotate_left
           · show Act.put _ (some 35) _ = _
             simp only [Act.put, z1_, z2_, z3_, i64_w, i32_w]
             rfl
           refine pu_ HT_ 6 29 (B_ 127 12) ?_
           refine pu_ HT_ 7 36 (B_ 255 12) ?_
           refine pu_ HT_ 8 37 (B_ 511 12) ?_
           refine on_ HT_ 9 6 (B_ 1023 12) (fun K hK => ?_)
           refine box_step ?hg (N := 6) ?hd (cs := #[.slice none 0 0]) (t := 26) ?hr ?_; (case hd => rfl); (case hg => rfl); (case hr => first | (go_simp; done) | (go_simp; rfl))
           intro gb304 hg w36 hbox hb
           replace HO_299000 := Aside0.mk (Kd.R_below (re_ HO_299000.out) hb)
           replace HO302 := Aside0.mk (Kd.R_below (re_ HO302.out) hb)
           have BK304 := Aside0.mk (hbox)
           have GW304 := gq_ hg (bq_ HB)
           have GE304 := gq_ hg (bq_ HB)
           replace HB := bp_ HB hb
           have NB291_304 := nl_ hg BK291
           have NB304_291 := ng_ hg BK291
           replace BK291 := bk_ BK291 hb
           have NB298_304 := nl_ hg BK298
           have NB304_298 := ng_ hg BK298
           replace BK298 := bk_ BK298 hb
           clear hb hbox hg
           refine hK.out _ _ ⟨(blk_cell BK298.out 0).trans rfl, ((HB.out.cell (World.block_lt_of_cell? w _ hw299_0)).trans hw299_0)⟩ (fun hHeld => ?_)
           clear hK K
           refine norm_ (a' := ?_) ?_ ?_
           rotate_left
           · show Act.put _ (some 6) _ = _
             simp only [Act.put, z1_, z2_, z3_, i64_w, i32_w]
             rfl
           exact norm_ (by simp only [putAll, Act.put, z1_, z2_, z3_]) (hCont (v301, gb304) _ ⟨hHeld, (by (with_reducible repeat (first | apply Kd.R_alloc | apply Kd.R_drewN | apply Kd.R_drew)); exact Kd.R_mono HO302.out (fun _ hk => hk.2)), (by (with_reducible repeat (first | apply Kd.R_alloc | apply Kd.R_drewN | apply Kd.R_drew)); exact Kd.R_mono HO_299000.out (fun _ hk => hk.2)), (be_ BK291.out), (be_ BK298.out), (be_ BK304.out), GW304.out, GE304.out, NB291_304.out, NB304_291.out, NB298_304.out, NB304_298.out, (bq_ HB)⟩)
         · skip
           refine box_step ?hg (N := 6) ?hd (cs := #[.slice none 0 0]) (t := 26) ?hr ?_; (case hd => rfl); (case hg => rfl); (case hr => first | (go_simp; done) | (go_simp; rfl))
           intro gb304 hg w35 hbox hb
           replace HO_299000 := Aside0.mk (Kd.R_below (re_ HO_299000.out) hb)
           have BK304 := Aside0.mk (hbox)
           have GW304 := gq_ hg (bq_ HB)
           have GE304 := gq_ hg (bq_ HB)
           replace HB := bp_ HB hb
           have NB291_304 := nl_ hg BK291
           have NB304_291 := ng_ hg BK291
           replace BK291 := bk_ BK291 hb
           have NB298_304 := nl_ hg BK298
           have NB304_298 := ng_ hg BK298
           replace BK298 := bk_ BK298 hb
           clear hb hbox hg
           refine hK.out _ _ ⟨(blk_cell BK298.out 0).trans rfl, ((HB.out.cell (World.block_lt_of_cell? w _ hw299_0)).trans hw299_0)⟩ (fun hHeld => ?_)
           clear hK K
           refine norm_ (a' := ?_) ?_ ?_
           rotate_left
           · show Act.put _ (some 6) _ = _
             simp only [Act.put, z1_, z2_, z3_, i64_w, i32_w]
             rfl
           refine on_ HT_ 5 35 (B_ 575 12) (fun K hK => ?_)
           refine goes_ Try.func27 (by kernel_rfl) rfl #[.agg #[.slice Ao33 x299000_2.length co33], .agg #[.slice A299_0 ((rd_T26 l0 x5_2).f0).length c299_0]] (by rfl) rfl rfl (by (try simp only [List.map_toArray, List.map_cons, List.map_nil]); first | done | rfl | (simp only [List.length_drop, List.length_take]; rfl)) ?_
           with_reducible refine (spec_MeetOf.calls k2 _ _ x299000_2 _ _ ((rd_T26 l0 x5_2).f0) t300 false _ ?side1 ?side2 ?side3 ?side4 A19.out).mono ?_
           (case side1 => exact ce_ ((Kd.R_reads' HO_299000.out).2.2))
           (case side2 => exact (Kd.R_reads' HO_299000.out).2.1)
           (case side3 => exact ch_ HR299_0 HB)
           (case side4 => exact HC299_0.out)
           rintro e w36 ⟨v301, rfl, ho0, hb⟩
           refine ⟨_, rfl, ?_⟩
           have HO302 := Aside0.mk (Kd.R_lower (Kd.R_new' ho0 (Kd.R_lt (re_ HO_299000.out))) (below_size (bq_ HB)))
           replace HO_299000 := Aside0.mk (Kd.R_elder' (re_ HO_299000.out) (Kd.R_base ho0) hb)
           replace BK291 := bk_ BK291 hb
           replace BK298 := bk_ BK298 hb
           replace BK304 := bk_ BK304 hb
           replace HB := bp_ HB hb
           (try clear hb)
           (try clear ho0)
           refine hK.out _ _ ⟨(blk_cell BK298.out 0).trans rfl, ((HB.out.cell (World.block_lt_of_cell? w _ hw299_0)).trans hw299_0)⟩ (fun hHeld => ?_)
           clear hK K
           refine norm_ (a' := ?_) ?_ ?_
           rotate_left
           · show Act.put _ (some 35) _ = _
             simp only [Act.put, z1_, z2_, z3_, i64_w, i32_w]
             rfl
           refine pu_ HT_ 6 29 (B_ 639 12) ?_
           refine pu_ HT_ 7 36 (B_ 767 12) ?_
           refine pu_ HT_ 8 37 (B_ 1023 12) ?_
           exact norm_ (by simp only [putAll, Act.put, z1_, z2_, z3_]) (hCont (v301, gb304) _ ⟨hHeld, (by (with_reducible repeat (first | apply Kd.R_alloc | apply Kd.R_drewN | apply Kd.R_drew)); exact Kd.R_mono HO302.out (fun _ hk => hk.2)), (by (with_reducible repeat (first | apply Kd.R_alloc | apply Kd.R_drewN | apply Kd.R_drew)); exact Kd.R_mono HO_299000.out (fun _ hk => hk.2)), (be_ BK291.out), (be_ BK298.out), (be_ BK304.out), GW304.out, GE304.out, NB291_304.out, NB304_291.out, NB298_304.out, NB304_298.out, (bq_ HB)⟩)
       rintro ⟨v301, gb304⟩ w37 ⟨hS_, h0_, h1_, h2_, h3_, h4_, h5_, h6_, h7_, h8_, h9_, h10_, h11_⟩
       have n0_ : Aside0 (Kd.R (Kd.int .i64) 3 w37 w.heap.size (fun k_ => some k_ ≠ (.slice Ao33 x299000_2.length co33 : Value).ownBlock) v301 t300) := ⟨h0_⟩
       have n1_ : Aside0 (Kd.R (Kd.int .i64) 3 w37 w.heap.size (fun k_ => some k_ ≠ (v301 : Value).ownBlock) (.slice Ao33 x299000_2.length co33) x299000_2) := ⟨h1_⟩
       have n2_ : Aside0 (w37.heap[gb291]? = some (.cells #[.slice none 0 0] 26 (0, 0))) := ⟨h2_⟩
       have n3_ : Aside0 (w37.heap[gb298]? = some (.cells #[.slice Ao33 x299000_2.length co33] 26 (0, 0))) := ⟨h3_⟩
       have n4_ : Aside0 (w37.heap[gb304]? = some (.cells #[.slice none 0 0] 26 (0, 0))) := ⟨h4_⟩
       have n5_ : Aside0 (w.heap.size ≤ gb304) := ⟨h5_⟩
       have n6_ : Aside0 (w.heap.size ≤ gb304) := ⟨h6_⟩
       have n7_ : Aside0 (gb291 ≠ gb304) := ⟨h7_⟩
       have n8_ : Aside0 (gb304 ≠ gb291) := ⟨h8_⟩
       have n9_ : Aside0 (gb298 ≠ gb304) := ⟨h9_⟩
       have n10_ : Aside0 (gb304 ≠ gb298) := ⟨h10_⟩
       have n11_ : Aside0 (Below w.heap.size w w37) := ⟨h11_⟩
       clear HO_299000
       clear BK291
       clear BK298
       clear HB
       clear h0_ h1_ h2_ h3_ h4_ h5_ h6_ h7_ h8_ h9_ h10_ h11_
       have HO302 := n0_
       have HO_299000 := n1_
       have BK291 := n2_
       have BK298 := n3_
       have BK304 := n4_
       have GW304 := n5_
       have GE304 := n6_
       have NB291_304 := n7_
       have NB304_291 := n8_
       have NB298_304 := n9_
       have NB304_298 := n10_
       have HB := n11_
       clear n0_ n1_ n2_ n3_ n4_ n5_ n6_ n7_ n8_ n9_ n10_ n11_
       have hHeld : w37.cell? ⟨gb298, 0, none⟩ = some (.slice Ao33 x299000_2.length co33) ∧ w37.cell? (ad294.add (x5_2).toNat) = some (.slice A299_0 ((rd_T26 l0 x5_2).f0).length c299_0) := hS_
       obtain ⟨Ao38, co38, eo38⟩ := Kd.R_slice HO302.out
       (first | subst eo38 | (injection eo38 with f1_ f2_ f3_; have f4_ := f1_.symm; have f5_ := f3_.symm; clear f1_ f2_ f3_; subst f4_; subst f5_))
       refine norm_ (a' := ?_) ?_ ?_
       rotate_left
       · simp only [putAll, Act.put, z1_, z2_, z3_]
         rfl
       refine one_ (i := 10) (N := none) (B_ 2047 12) rfl rfl (one_of HT_.out (by kernel_rfl)) (by decide) (fun K hK => ?_)
       have hs39 : w37.cell? ⟨gb304, 0, none⟩ = some (.slice none 0 0) := (blk_cell BK304.out 0).trans rfl
       have hfs39 := blk_frozen BK304.out 0
       have hns39_0 := NB291_304.out
       have hns39_1 := NB298_304.out
       have hms39_0 := NB304_291.out
       have hms39_1 := NB304_298.out
       refine skip_ (w1 := ?_) (by rfl) rfl ?_ ?_
       rotate_left
       · go_simp
         rfl
       refine hK.out _ _ ⟨((cell_far (p := ⟨gb304, _, none⟩) NB298_304.out _).trans (hHeld.1)), ((cell_far (p := ⟨gb304, _, none⟩) (by first | exact Nat.ne_of_lt (Nat.lt_of_lt_of_le (by have := World.block_lt_of_cell? _ _ hw299_0; first | rwa [add_block] at this | exact this) GW304.out) | (rw [add_block]; exact Nat.ne_of_lt (Nat.lt_of_lt_of_le (by have := World.block_lt_of_cell? _ _ hw299_0; first | rwa [add_block] at this | exact this) GW304.out)) | (show (Addr.add _ _).block ≠ _; rw [add_block]; exact Nat.ne_of_lt (Nat.lt_of_lt_of_le (by have := World.block_lt_of_cell? _ _ hw299_0; first | rwa [add_block] at this | exact this) GW304.out)) | (dsimp only; exact Nat.ne_of_lt (Nat.lt_of_lt_of_le (by have := World.block_lt_of_cell? _ _ hw299_0; first | rwa [add_block] at this | exact this) GW304.out))) _).trans (hHeld.2))⟩ (fun hHeld => ?_)
       clear hK K
       refine pu_ HT_ 11 7 (B_ 4095 12) ?_
       refine done_ (done_of HT_.out (by kernel_rfl)) ?_
       have hnb40 := NB291_298.out
       have hnc40 := NB298_291.out
       have hnb41 := NB291_304.out
       have hnc41 := NB304_291.out
       have hcz42_0 := cz_ BK291
       have hfz42_0 := blk_frozen BK291.out 0
       try go_wp2
       refine bodyPost_ret (results_ct rfl _ _ gb291 26 #[.slice none 0 0] (0, 0) _ rfl (bz_ BK291) Try.underlying26 rfl (by kernel_rfl)) rfl ?_
       exact ⟨_, rf_, by first | exact Kd.R_nil _ _ _ _ _ | exact Kd.N_nil _ _ _ _ _ | exact Kd.V_nil _ _ _ _ _ | exact Kd.Q_nil _ _ _ _ _ | exact Kd.S_nil _ _ _ _ _, bq_ HB⟩
     subst c20
     rw [if_pos rfl] at H
     have H' := Aside0.mk H
     clear H
     obtain ⟨Ao21, co21, eo21⟩ := Kd.R_slice HO_299000.out
     subst eo21
     try go_wp2
     replace HO_299000 := Aside0.mk (Kd.R_drew HO_299000.out)
     replace BK291 := Aside0.mk (blk_drew BK291.out)
     replace BK298 := Aside0.mk (blk_drew BK298.out)
     replace HB := Aside0.mk (below_drew1 HB.out)
     have p299 : 0 ≤ (x5_2 : Int) := od_
     have q299 : x5_2 < (l0.length : Int) := od_
     obtain ⟨ad299, A299_0, c299_0, e299, hx299_0, hl299_0, hi299_0⟩ := at_T26 HR0.out x5_2 p299 q299
     have hw299_0 := hx299_0
     obtain rfl : ad294 = ad299 := (by injection e299)
     (try replace hx299_0 := (HB.out.cell (World.block_lt_of_cell? w _ hx299_0)).trans hx299_0)
     have HR299_0 := Aside0.mk hi299_0
     have HC299_0 := Aside0.mk hl299_0
     clear hi299_0 hl299_0
     replace p299 := eq_true p299
     replace q299 := eq_true q299
     refine start_ (n := 12) (S := fun w' => w'.cell? ⟨gb298, 0, none⟩ = some (.slice Ao21 x299000_2.length co21) ∧ w'.cell? (ad294.add (x5_2).toNat) = some (.slice A299_0 ((rd_T26 l0 x5_2).f0).length c299_0)) (ds := []) (B_ 0 12) (by kernel_rfl) rfl rfl ⟨(blk_cell BK298.out 0).trans rfl, ((HB.out.cell (World.block_lt_of_cell? w _ hw299_0)).trans hw299_0)⟩ (fun hHeld => ?_); refine with_tabW spec_MeetOfAll.tab7 spec_MeetOfAll.bits7 (fun HT_ HW_ => ?_)
     generalize wr.drew = w22 at HO_299000 BK291 BK298 HB HR299_0 hx299_0 hHeld ⊢
     refine pu_ HT_ 1 31 (B_ 2 12) ?_
     refine pu_ HT_ 2 32 (B_ 6 12) ?_
     refine pu_ HT_ 3 33 (B_ 14 12) ?_
     refine tk2_ HT_ HW_ hHeld 0 30 (B_ 15 12) ?_
     refine tk2_ HT_ HW_ hHeld 4 34 (B_ 31 12) ?_
     refine join_ (σ := Value × Nat) 2 (B_ 1023 12) (fun s_ => [(35, .tuple #[.agg #[s_.1], .bool true]), (6, .pointer (some ⟨s_.2, 0, none⟩)), (29, .tuple #[.agg #[s_.1], .bool true]), (36, .agg #[s_.1]), (37, .bool true)]) (fun s_ w' => (w'.cell? ⟨gb298, 0, none⟩ = some (.slice Ao21 x299000_2.length co21) ∧ w'.cell? (ad294.add (x5_2).toNat) = some (.slice A299_0 ((rd_T26 l0 x5_2).f0).length c299_0)) ∧ (Kd.R (Kd.int .i64) 3 w' w.heap.size (fun k_ => some k_ ≠ (.slice Ao21 x299000_2.length co21 : Value).ownBlock) s_.1 t300) ∧ (Kd.R (Kd.int .i64) 3 w' w.heap.size (fun k_ => some k_ ≠ (s_.1 : Value).ownBlock) (.slice Ao21 x299000_2.length co21) x299000_2) ∧ (w'.heap[gb291]? = some (.cells #[.slice none 0 0] 26 (0, 0))) ∧ (w'.heap[gb298]? = some (.cells #[.slice Ao21 x299000_2.length co21] 26 (0, 0))) ∧ (w'.heap[s_.2]? = some (.cells #[.slice none 0 0] 26 (0, 0))) ∧ (w.heap.size ≤ s_.2) ∧ (w.heap.size ≤ s_.2) ∧ (gb291 ≠ s_.2) ∧ (s_.2 ≠ gb291) ∧ (gb298 ≠ s_.2) ∧ (s_.2 ≠ gb298) ∧ (Below w.heap.size w w')) ?_ ?_
     rotate_left
     · intro hCont
       refine two_ (i := 5) (j := 9) (Ni := some 35) (Nj := some 6) (B_ 63 12) (B_ 543 12) rfl rfl rfl rfl (two_of HT_.out (by kernel_rfl)) (by decide) (by decide) (fun K hK => ?_) (fun K hK => ?_)
       · skip
         refine goes_ Try.func27 (by kernel_rfl) rfl #[.agg #[.slice Ao21 x299000_2.length co21], .agg #[.slice A299_0 ((rd_T26 l0 x5_2).f0).length c299_0]] (by rfl) rfl rfl (by (try simp only [List.map_toArray, List.map_cons, List.map_nil]); first | done | rfl | (simp only [List.length_drop, List.length_take]; rfl)) ?_
         with_reducible refine (spec_MeetOf.calls k2 _ _ x299000_2 _ _ ((rd_T26 l0 x5_2).f0) t300 true _ ?side1 ?side2 ?side3 ?side4 A19.out).mono ?_
         (case side1 => exact ce_ ((Kd.R_reads' HO_299000.out).2.2))
         (case side2 => exact (Kd.R_reads' HO_299000.out).2.1)
         (case side3 => exact ch_ HR299_0 HB)
         (case side4 => exact HC299_0.out)
         rintro e w23 ⟨v301, rfl, ho0, hb⟩
         refine ⟨_, rfl, ?_⟩
         have HO302 := Aside0.mk (Kd.R_lower (Kd.R_new' ho0 (Kd.R_lt (re_ HO_299000.out))) (below_size (bq_ HB)))
         replace HO_299000 := Aside0.mk (Kd.R_elder' (re_ HO_299000.out) (Kd.R_base ho0) hb)
         replace BK291 := bk_ BK291 hb
         replace BK298 := bk_ BK298 hb
         replace HB := bp_ HB hb
         (try clear hb)
         (try clear ho0)
         refine hK.out _ _ ⟨(blk_cell BK298.out 0).trans rfl, ((HB.out.cell (World.block_lt_of_cell? w _ hw299_0)).trans hw299_0)⟩ (fun hHeld => ?_)
         clear hK K
         refine norm_ (a' := ?_) ?_ ?_
         rotate_left
         · show Act.put _ (some 35) _ = _
           simp only [Act.put, z1_, z2_, z3_, i64_w, i32_w]
           rfl
         refine pu_ HT_ 6 29 (B_ 127 12) ?_
         refine pu_ HT_ 7 36 (B_ 255 12) ?_
         refine pu_ HT_ 8 37 (B_ 511 12) ?_
         refine on_ HT_ 9 6 (B_ 1023 12) (fun K hK => ?_)
         refine box_step ?hg (N := 6) ?hd (cs := #[.slice none 0 0]) (t := 26) ?hr ?_; (case hd => rfl); (case hg => rfl); (case hr => first | (go_simp; done) | (go_simp; rfl))
         intro gb304 hg w24 hbox hb
         replace HO_299000 := Aside0.mk (Kd.R_below (re_ HO_299000.out) hb)
         replace HO302 := Aside0.mk (Kd.R_below (re_ HO302.out) hb)
         have BK304 := Aside0.mk (hbox)
         have GW304 := gq_ hg (bq_ HB)
         have GE304 := gq_ hg (bq_ HB)
         replace HB := bp_ HB hb
         have NB291_304 := nl_ hg BK291
         have NB304_291 := ng_ hg BK291
         replace BK291 := bk_ BK291 hb
         have NB298_304 := nl_ hg BK298
         have NB304_298 := ng_ hg BK298
         replace BK298 := bk_ BK298 hb
         clear hb hbox hg
         refine hK.out _ _ ⟨(blk_cell BK298.out 0).trans rfl, ((HB.out.cell (World.block_lt_of_cell? w _ hw299_0)).trans hw299_0)⟩ (fun hHeld => ?_)
         clear hK K
         refine norm_ (a' := ?_) ?_ ?_
         rotate_left
         · show Act.put _ (some 6) _ = _
           simp only [Act.put, z1_, z2_, z3_, i64_w, i32_w]
           rfl
         exact norm_ (by simp only [putAll, Act.put, z1_, z2_, z3_]) (hCont (v301, gb304) _ ⟨hHeld, (by (with_reducible repeat (first | apply Kd.R_alloc | apply Kd.R_drewN | apply Kd.R_drew)); exact Kd.R_mono HO302.out (fun _ hk => hk.2)), (by (with_reducible repeat (first | apply Kd.R_alloc | apply Kd.R_drewN | apply Kd.R_drew)); exact Kd.R_mono HO_299000.out (fun _ hk => hk.2)), (be_ BK291.out), (be_ BK298.out), (be_ BK304.out), GW304.out, GE304.out, NB291_304.out, NB304_291.out, NB298_304.out, NB304_298.out, (bq_ HB)⟩)
       · skip
         refine box_step ?hg (N := 6) ?hd (cs := #[.slice none 0 0]) (t := 26) ?hr ?_; (case hd => rfl); (case hg => rfl); (case hr => first | (go_simp; done) | (go_simp; rfl))
         intro gb304 hg w23 hbox hb
         replace HO_299000 := Aside0.mk (Kd.R_below (re_ HO_299000.out) hb)
         have BK304 := Aside0.mk (hbox)
         have GW304 := gq_ hg (bq_ HB)
         have GE304 := gq_ hg (bq_ HB)
         replace HB := bp_ HB hb
         have NB291_304 := nl_ hg BK291
         have NB304_291 := ng_ hg BK291
         replace BK291 := bk_ BK291 hb
         have NB298_304 := nl_ hg BK298
         have NB304_298 := ng_ hg BK298
         replace BK298 := bk_ BK298 hb
         clear hb hbox hg
         refine hK.out _ _ ⟨(blk_cell BK298.out 0).trans rfl, ((HB.out.cell (World.block_lt_of_cell? w _ hw299_0)).trans hw299_0)⟩ (fun hHeld => ?_)
         clear hK K
         refine norm_ (a' := ?_) ?_ ?_
         rotate_left
         · show Act.put _ (some 6) _ = _
           simp only [Act.put, z1_, z2_, z3_, i64_w, i32_w]
           rfl
         refine on_ HT_ 5 35 (B_ 575 12) (fun K hK => ?_)
         refine goes_ Try.func27 (by kernel_rfl) rfl #[.agg #[.slice Ao21 x299000_2.length co21], .agg #[.slice A299_0 ((rd_T26 l0 x5_2).f0).length c299_0]] (by rfl) rfl rfl (by (try simp only [List.map_toArray, List.map_cons, List.map_nil]); first | done | rfl | (simp only [List.length_drop, List.length_take]; rfl)) ?_
         with_reducible refine (spec_MeetOf.calls k2 _ _ x299000_2 _ _ ((rd_T26 l0 x5_2).f0) t300 true _ ?side1 ?side2 ?side3 ?side4 A19.out).mono ?_
         (case side1 => exact ce_ ((Kd.R_reads' HO_299000.out).2.2))
         (case side2 => exact (Kd.R_reads' HO_299000.out).2.1)
         (case side3 => exact ch_ HR299_0 HB)
         (case side4 => exact HC299_0.out)
         rintro e w24 ⟨v301, rfl, ho0, hb⟩
         refine ⟨_, rfl, ?_⟩
         have HO302 := Aside0.mk (Kd.R_lower (Kd.R_new' ho0 (Kd.R_lt (re_ HO_299000.out))) (below_size (bq_ HB)))
         replace HO_299000 := Aside0.mk (Kd.R_elder' (re_ HO_299000.out) (Kd.R_base ho0) hb)
         replace BK291 := bk_ BK291 hb
         replace BK298 := bk_ BK298 hb
         replace BK304 := bk_ BK304 hb
         replace HB := bp_ HB hb
         (try clear hb)
         (try clear ho0)
         refine hK.out _ _ ⟨(blk_cell BK298.out 0).trans rfl, ((HB.out.cell (World.block_lt_of_cell? w _ hw299_0)).trans hw299_0)⟩ (fun hHeld => ?_)
         clear hK K
         refine norm_ (a' := ?_) ?_ ?_
         rotate_left
         · show Act.put _ (some 35) _ = _
           simp only [Act.put, z1_, z2_, z3_, i64_w, i32_w]
           rfl
         refine pu_ HT_ 6 29 (B_ 639 12) ?_
         refine pu_ HT_ 7 36 (B_ 767 12) ?_
         refine pu_ HT_ 8 37 (B_ 1023 12) ?_
         exact norm_ (by simp only [putAll, Act.put, z1_, z2_, z3_]) (hCont (v301, gb304) _ ⟨hHeld, (by (with_reducible repeat (first | apply Kd.R_alloc | apply Kd.R_drewN | apply Kd.R_drew)); exact Kd.R_mono HO302.out (fun _ hk => hk.2)), (by (with_reducible repeat (first | apply Kd.R_alloc | apply Kd.R_drewN | apply Kd.R_drew)); exact Kd.R_mono HO_299000.out (fun _ hk => hk.2)), (be_ BK291.out), (be_ BK298.out), (be_ BK304.out), GW304.out, GE304.out, NB291_304.out, NB304_291.out, NB298_304.out, NB304_298.out, (bq_ HB)⟩)
     rintro ⟨v301, gb304⟩ w25 ⟨hS_, h0_, h1_, h2_, h3_, h4_, h5_, h6_, h7_, h8_, h9_, h10_, h11_⟩
     have n0_ : Aside0 (Kd.R (Kd.int .i64) 3 w25 w.heap.size (fun k_ => some k_ ≠ (.slice Ao21 x299000_2.length co21 : Value).ownBlock) v301 t300) := ⟨h0_⟩
     have n1_ : Aside0 (Kd.R (Kd.int .i64) 3 w25 w.heap.size (fun k_ => some k_ ≠ (v301 : Value).ownBlock) (.slice Ao21 x299000_2.length co21) x299000_2) := ⟨h1_⟩
     have n2_ : Aside0 (w25.heap[gb291]? = some (.cells #[.slice none 0 0] 26 (0, 0))) := ⟨h2_⟩
     have n3_ : Aside0 (w25.heap[gb298]? = some (.cells #[.slice Ao21 x299000_2.length co21] 26 (0, 0))) := ⟨h3_⟩
     have n4_ : Aside0 (w25.heap[gb304]? = some (.cells #[.slice none 0 0] 26 (0, 0))) := ⟨h4_⟩
     have n5_ : Aside0 (w.heap.size ≤ gb304) := ⟨h5_⟩
     have n6_ : Aside0 (w.heap.size ≤ gb304) := ⟨h6_⟩
     have n7_ : Aside0 (gb291 ≠ gb304) := ⟨h7_⟩
     have n8_ : Aside0 (gb304 ≠ gb291) := ⟨h8_⟩
     have n9_ : Aside0 (gb298 ≠ gb304) := ⟨h9_⟩
     have n10_ : Aside0 (gb304 ≠ gb298) := ⟨h10_⟩
     have n11_ : Aside0 (Below w.heap.size w w25) := ⟨h11_⟩
     clear HO_299000
     clear BK291
     clear BK298
     clear HB
     clear h0_ h1_ h2_ h3_ h4_ h5_ h6_ h7_ h8_ h9_ h10_ h11_
     have HO302 := n0_
     have HO_299000 := n1_
     have BK291 := n2_
     have BK298 := n3_
     have BK304 := n4_
     have GW304 := n5_
     have GE304 := n6_
     have NB291_304 := n7_
     have NB304_291 := n8_
     have NB298_304 := n9_
     have NB304_298 := n10_
     have HB := n11_
     clear n0_ n1_ n2_ n3_ n4_ n5_ n6_ n7_ n8_ n9_ n10_ n11_
     have hHeld : w25.cell? ⟨gb298, 0, none⟩ = some (.slice Ao21 x299000_2.length co21) ∧ w25.cell? (ad294.add (x5_2).toNat) = some (.slice A299_0 ((rd_T26 l0 x5_2).f0).length c299_0) := hS_
     obtain ⟨Ao26, co26, eo26⟩ := Kd.R_slice HO302.out
     (first | subst eo26 | (injection eo26 with f1_ f2_ f3_; have f4_ := f1_.symm; have f5_ := f3_.symm; clear f1_ f2_ f3_; subst f4_; subst f5_))
     refine norm_ (a' := ?_) ?_ ?_
     rotate_left
     · simp only [putAll, Act.put, z1_, z2_, z3_]
       rfl
     refine one_ (i := 10) (N := none) (B_ 2047 12) rfl rfl (one_of HT_.out (by kernel_rfl)) (by decide) (fun K hK => ?_)
     have hs27 : w25.cell? ⟨gb304, 0, none⟩ = some (.slice none 0 0) := (blk_cell BK304.out 0).trans rfl
     have hfs27 := blk_frozen BK304.out 0
     have hns27_0 := NB291_304.out
     have hns27_1 := NB298_304.out
     have hms27_0 := NB304_291.out
     have hms27_1 := NB304_298.out
     refine skip_ (w1 := ?_) (by rfl) rfl ?_ ?_
     rotate_left
     · go_simp
       rfl
     refine hK.out _ _ ⟨((cell_far (p := ⟨gb304, _, none⟩) NB298_304.out _).trans (hHeld.1)), ((cell_far (p := ⟨gb304, _, none⟩) (by first | exact Nat.ne_of_lt (Nat.lt_of_lt_of_le (by have := World.block_lt_of_cell? _ _ hw299_0; first | rwa [add_block] at this | exact this) GW304.out) | (rw [add_block]; exact Nat.ne_of_lt (Nat.lt_of_lt_of_le (by have := World.block_lt_of_cell? _ _ hw299_0; first | rwa [add_block] at this | exact this) GW304.out)) | (show (Addr.add _ _).block ≠ _; rw [add_block]; exact Nat.ne_of_lt (Nat.lt_of_lt_of_le (by have := World.block_lt_of_cell? _ _ hw299_0; first | rwa [add_block] at this | exact this) GW304.out)) | (dsimp only; exact Nat.ne_of_lt (Nat.lt_of_lt_of_le (by have := World.block_lt_of_cell? _ _ hw299_0; first | rwa [add_block] at this | exact this) GW304.out))) _).trans (hHeld.2))⟩ (fun hHeld => ?_)
     clear hK K
     refine pu_ HT_ 11 7 (B_ 4095 12) ?_
     refine done_ (done_of HT_.out (by kernel_rfl)) ?_
     have hnb28 := NB304_291.out
     have hnc28 := NB291_304.out
     have hnb29 := NB304_298.out
     have hnc29 := NB298_304.out
     have hcz30_0 : w25.cell? ⟨gb304, 0, none⟩ = some (.slice none 0 0) := (blk_cell BK304.out 0).trans rfl
     have hfz30_0 := blk_frozen BK304.out 0
     have hnb31 := NB298_291.out
     have hnc31 := NB291_298.out
     have hcz32_0 := cz_ BK298
     have hfz32_0 := blk_frozen BK298.out 0
     try go_wp2
     go_roundg k2
     case measure => have := HJ1.out; have := HK2.out; omega
     case rel => exact ⟨(wrap64 (x5_2 + 1)), (t300), (.slice Ao26 t300.length co26), rs_, H', ⟨by have := HJ1.out; have := HK2.out; omega⟩, ⟨by (with_reducible repeat (first | apply Kd.R_alloc | apply Kd.R_drewN | apply Kd.R_drew)); exact Kd.R_mono (Kd.R_far (p := ⟨gb298, 0, none⟩) (Kd.R_far (p := ⟨gb304, 0, none⟩) (Kd.R_types (Kd.R_types HO302.out BK304.out (by decide)) BK298.out (by decide)) (fun _ hk => hk.1.2) (.slice Ao26 t300.length co26)) (fun _ hk => hk.2) (.slice Ao26 t300.length co26)) (fun _ hk => trivial)⟩, ⟨ba_ BK291⟩, ⟨bz_ BK298⟩, ⟨bq_ HB⟩⟩
def laws_toIntS.l0 : Nat → List Int → List Int → Int → Option (List Int)
 | 0, _, _, _ => none
 | k + 1, x0, x3, x4 => if x4 < (x0.length : Int) then (if 0 ≤ x4 then (if x4 < (x3.length : Int) then (laws_toIntS.l0 k x0 (x3.set (x4 : Int).toNat (rd x0 x4)) (wrap64 (x4 + 1))) else (none)) else (none)) else (some x3)
def laws_toIntS.f (k : Nat) (l0 : List Int) : Option (List Int) := if 0 ≤ (l0.length : Int) then (if ((l0.length : Int) : Int).toNat ≤ 35184372088832 then (laws_toIntS.l0 k l0 (List.replicate ((l0.length : Int) : Int).toNat 0) 0) else (none)) else (none)
theorem laws_toIntS.calls (k : Nat) (A0 : Option Addr) (c0 : Nat) (l0 : List Int) (r : List Int) (w : World) (hr0 : Kd.C (Kd.int .i64) w A0 l0.length l0) (hc0 : l0.length ≤ c0) (h : laws_toIntS.f k l0 = some r) :
 Calls Try.prog 36 #[.slice A0 l0.length c0] w fun e w' => ∃ v0_ : Value, e = .returned (v0_) ∧ Kd.R (Kd.int .i64) 3 w' w.heap.size (fun _ => True) v0_ r ∧ Below w.heap.size w w' := by
 have HR0 := Aside0.mk hr0
 have HC0 := Aside0.mk hc0
 clear hr0 hc0
 have HB := Aside0.mk (Below.refl w.heap.size w)
 have H := h
 clear h
 unfold laws_toIntS.f at H
 obtain ⟨c2, H⟩ := ip_ H
 have c2b0 := eq_true c2
 have c2b1 : decide (0 ≤ (l0.length : Int)) = true := decide_eq_true c2
 clear c2
 obtain ⟨c3, H⟩ := ip_ H
 have c3b0 := eq_true c3
 have c3b1 : decide (((l0.length : Int) : Int).toNat ≤ 35184372088832) = true := decide_eq_true c3
 clear c3
 obtain ⟨y305, hy305⟩ : ∃ y_ : List Int, y_ = (List.replicate ((l0.length : Int) : Int).toNat 0) := ⟨_, rfl⟩
 replace H : (laws_toIntS.l0 k l0 y305 0) = some r := by subst hy305; exact H
 have Ny305 := Aside0.mk hy305
 clear hy305
 have H' := Aside0.mk H
 clear H
 go_enter Try.func36, Try.ntmps36
 go_wp2_with (first | ((with_reducible refine gate_dst (N := 7) rfl ?_); refine Kd.R_make (Kd.int .i64) _ 3 rfl (N := 7) rfl 24 _ _ rfl (l0.length : Int) rfl rfl Try.underlying24 (.int .i64 0) 8 info3 rfl (by decide) (by omega) 0 (ok := fun _ => True) (okp := fun _ => True) rfl (fun _ hk => hk) trivial (od_) (Nat.le_trans (Nat.mul_le_mul_right _ (od_ : (l0.length : Int).toNat ≤ 35184372088832)) (by omega)) (Below.refl _ _) (Nat.le_refl _) ?_; intro v306 w4 ho5 hb hg_ hnew_; clear hg_ hnew_; (first | rw [← Ny305.out] at ho5 | (simp only [Int.reduceToNat] at ho5; rw [← Ny305.out] at ho5)); have HO307 := Aside0.mk (Kd.R_lower ho5 (below_size (bl_ HB.out))); replace HB := bo_ HB hb; clear hb ho5))
 go_loopg [4] k (fun kq v4 w' => ∃ (x3_1 : List Int) (x4_1 : Int), v4 = .int .i64 x4_1 ∧ Aside0 (laws_toIntS.l0 kq l0 x3_1 x4_1 = some r) ∧ Aside0 (kq ≤ k) ∧ Aside0 (Kd.R (Kd.int .i64) 3 w' w.heap.size (fun _ => True) v306 x3_1) ∧ Aside0 (Below w.heap.size w w'))
 case atStart => exact ⟨(y305), (0), rs_, H', ⟨Nat.le_refl _⟩, ⟨re_ HO307.out⟩, ⟨bl_ HB.out⟩⟩
 case round =>
  clear H'
  try clear c2b0
  try clear c2b1
  try clear c3b0
  try clear c3b1
  obtain ⟨x3_1, x4_1, rfl, HA, HK1, HO_3, HB⟩ := hrel
  cases gk with
  | zero => exact absurd HA.out (by simp [laws_toIntS.l0])
  | succ k1 =>
   have H := HA.out
   clear HA
   simp only [laws_toIntS.l0] at H
   by_cases c6 : x4_1 < (l0.length : Int)
   rotate_left
   · rw [if_neg c6] at H
     have c6b0 : decide (x4_1 < (l0.length : Int)) = false := decide_eq_false c6
     clear c6
     obtain rfl := Option.some.inj H
     go_wp2
     go_ret
     exact ⟨_, rf_, re_ HO_3.out, bl_ HB.out⟩
   rw [if_pos c6] at H
   have c6b0 : decide (x4_1 < (l0.length : Int)) = true := decide_eq_true c6
   clear c6
   obtain ⟨c7b0, H⟩ := ipd_ H
   obtain ⟨c8b0, H⟩ := ipd_ H
   obtain ⟨y309, hy309⟩ : ∃ y_ : List Int, y_ = (x3_1.set (x4_1 : Int).toNat (rd l0 x4_1)) := ⟨_, rfl⟩
   replace H : (laws_toIntS.l0 k1 l0 y309 (wrap64 (x4_1 + 1))) = some r := by subst hy309; exact H
   have Ny309 := Aside0.mk hy309
   clear hy309
   have H' := Aside0.mk H
   clear H
   have p308 : 0 ≤ (x4_1 : Int) := od_
   have q308 : x4_1 < (l0.length : Int) := od_
   obtain ⟨ad308, e308, hx308_0⟩ := Kd.at_int HR0.out x4_1 p308 q308
   cases e308
   (try replace hx308_0 := (HB.out.cell (World.block_lt_of_cell? w _ hx308_0)).trans hx308_0)
   replace p308 := eq_true p308
   replace q308 := eq_true q308
   have p9 : 0 ≤ (x4_1 : Int) := od_
   have q9 : (x4_1 : Int) < ((x3_1.length : Int) : Int) := od_
   obtain ⟨go9, co9, eo9, gb9, gl9, cl9, HG9⟩ := Kd.R_form HO_3.out (by omega)
   (first | cases eo9 | (injection eo9 with ea_ en_ ec_; (first | subst ea_ | (injection ea_ with ea_; subst ea_)); subst ec_; clear en_))
   have GB9 := Aside0.mk gb9
   have GG9 := Aside0.mk HG9
   clear gb9 gl9 HG9
   obtain ⟨hx9_0, hf9_0⟩ := Kd.R_celln 0 HO_3.out (x4_1 : Int) p9 q9
   replace p9 := eq_true p9
   replace q9 := eq_true q9
   have HP10 := Kd.R_putg HO_3.out (x4_1 : Int) (rd l0 x4_1)
   go_wp2_with (first | ((with_reducible refine gate_store (t := 3) (p := 20) rfl ?_); refine store_event (t := 3) (p := 20) (v := ?vo_w11) (w1 := (wr.setCell ⟨go9, (x4_1 : Int).toNat, none⟩ (.int .i64 (rd l0 x4_1)))) ?hg ?ho ?hn ?hr ?_; (case ho => rfl); (case hg => rfl); (case hn => rfl); (case hr => first | (go_simp; done) | (go_simp; rfl)); intro w11 hw; have hg : wr.grownBy w11 (some go9) := (by rw [hw]; exact HP10.2); have hp_ : Kd.R (Kd.int .i64) 3 w11 w.heap.size (fun _ => True) (.slice (some ⟨go9, 0, none⟩) x3_1.length co9) y309 := (by rw [hw, Ny309.out]; exact HP10.1); clear HP10; replace HO_3 := Aside0.mk (hp_); replace HB := Aside0.mk ((by rw [hw]; exact below_set (HB.out) GB9.out : Below w.heap.size w w11)); clear hg hw hp_))
   go_roundg k1
   case measure => have := HK1.out; omega
   case rel => exact ⟨(y309), (wrap64 (x4_1 + 1)), rs_, H', ⟨by have := HK1.out; omega⟩, ⟨re_ HO_3.out⟩, ⟨bl_ HB.out⟩⟩
def laws_toSemigroup.f (k : Nat) (l0_0 : List Int) : Option (List Int) := (laws_toIntS.f k l0_0).bind fun t313 => (some t313)
theorem laws_toSemigroup.calls (k : Nat) (A0_0 : Option Addr) (c0_0 : Nat) (l0_0 : List Int) (r : List Int) (w : World) (hr0_0 : Kd.C (Kd.int .i64) w A0_0 l0_0.length l0_0) (hc0_0 : l0_0.length ≤ c0_0) (h : laws_toSemigroup.f k l0_0 = some r) :
 Calls Try.prog 18 #[.agg #[.slice A0_0 l0_0.length c0_0]] w fun e w' => ∃ v0_ : Value, e = .returned (.agg #[v0_]) ∧ Kd.R (Kd.int .i64) 3 w' w.heap.size (fun _ => True) v0_ r ∧ Below w.heap.size w w' := by
 have hu36 := Try.underlying36
 have hu26 := Try.underlying26
 have HR0_0 := Aside0.mk hr0_0
 have HC0_0 := Aside0.mk hc0_0
 clear hr0_0 hc0_0
 have HB := Aside0.mk (Below.refl w.heap.size w)
 have H := h
 clear h
 unfold laws_toSemigroup.f at H
 obtain ⟨t313, A2, H⟩ := ob_ H
 obtain rfl := Option.some.inj H
 go_enter Try.func18, Try.ntmps18
 go_wp2_with (first | ((with_reducible refine gate_dst (N := 1) rfl ?_); refine bx_ 1 #[.slice A0_0 l0_0.length c0_0] 36 ?_; intro gb310 hg w3 hbox hb; have BK310 := Aside0.mk (hbox); have GW310 := gw_ hg HB; have GE310 := gw_ hg HB; replace HB := bo_ HB hb; clear hb hbox hg) | ((with_reducible refine gate_dst (N := 2) rfl ?_); refine bx_ 2 #[.slice none 0 0] 26 ?_; intro gb311 hg w4 hbox hb; have BK311 := Aside0.mk (hbox); have GW311 := gq_ hg (bq_ HB); have GE311 := gq_ hg (bq_ HB); replace HB := bp_ HB hb; have NB310_311 := nl_ hg BK310; have NB311_310 := ng_ hg BK310; replace BK310 := bk_ BK310 hb; clear hb hbox hg) | ((with_reducible refine gate_dst (N := 3) rfl ?_); refine bx_ 3 #[.slice none 0 0] 26 ?_; intro gb312 hg w5 hbox hb; have BK312 := Aside0.mk (hbox); have GW312 := gq_ hg (bq_ HB); have GE312 := gq_ hg (bq_ HB); replace HB := bp_ HB hb; have NB310_312 := nl_ hg BK310; have NB312_310 := ng_ hg BK310; replace BK310 := bk_ BK310 hb; have NB311_312 := nl_ hg BK311; have NB312_311 := ng_ hg BK311; replace BK311 := bk_ BK311 hb; clear hb hbox hg; have hnb6 := NB310_311.out; have hnc6 := NB311_310.out; have hnb7 := NB310_312.out; have hnc7 := NB312_310.out; have hcz8_0 := cz_ BK310; have hfz8_0 := blk_frozen BK310.out 0) | ((with_reducible refine gate_callee (f := 36) rfl ?_); refine gL_ (some 6) Try.func36 #[.slice A0_0 l0_0.length c0_0] ?_; (with_reducible refine (laws_toIntS.calls k _ _ l0_0 t313 _ ?side1 ?side2 A2.out).mono ?_); (case side1 => exact ch_ HR0_0 HB); (case side2 => exact HC0_0.out); rintro e w9 ⟨v314, rfl, ho0, hb⟩; refine ⟨_, rfl, ?_⟩; have HO315 := Aside0.mk (Kd.R_lower ho0 (below_size (bq_ HB))); replace BK310 := bk_ BK310 hb; replace BK311 := bk_ BK311 hb; replace BK312 := bk_ BK312 hb; replace HB := bp_ HB hb; (try clear hb); (try clear ho0); obtain ⟨Ao10, co10, eo10⟩ := Kd.R_slice HO315.out; subst eo10; have hnb11 := NB312_311.out; have hnc11 := NB311_312.out; have hcz12_0 := cz_ BK312; have hfz12_0 := blk_frozen BK312.out 0; have hcz13_0 := cz_ BK311; have hfz13_0 := blk_frozen BK311.out 0))
 refine bodyPost_ret (results_cell_row rfl _ _ gb311 26 #[.slice Ao10 t313.length co10] (0, 0) _ rfl (bz_ BK311) Try.underlying26 rfl (by kernel_rfl)) rfl ?_
 exact ⟨_, rf_, by (with_reducible repeat (first | apply Kd.R_alloc | apply Kd.R_drewN | apply Kd.R_drew)); exact Kd.R_mono (Kd.R_far (p := ⟨gb311, 0, none⟩) (Kd.R_far (p := ⟨gb312, 0, none⟩) (Kd.R_types (Kd.R_types HO315.out BK312.out (by decide)) BK311.out (by decide)) (fun _ hk => hk.1.2) (.slice Ao10 t313.length co10)) (fun _ hk => hk.2) (.slice Ao10 t313.length co10)) (fun _ hk => trivial), bq_ HB⟩
def laws_toSemigroupS.l0 : Nat → List (S36) → List (S26) → Int → Option ((List (S26)))
 | 0, _, _, _ => none
 | k + 1, x0, x3, x4 => if x4 < (x0.length : Int) then (if 0 ≤ x4 then ((laws_toSemigroup.f k ((rd_T36 x0 x4).f0)).bind fun t320 => (if x4 < (x3.length : Int) then (laws_toSemigroupS.l0 k x0 (x3.set (x4 : Int).toNat (⟨t320⟩ : S26)) (wrap64 (x4 + 1))) else (none))) else (none)) else (some x3)
def laws_toSemigroupS.f (k : Nat) (l0 : List (S36)) : Option ((List (S26))) := if 0 ≤ (l0.length : Int) then (if ((l0.length : Int) : Int).toNat ≤ 11728124029610 then (laws_toSemigroupS.l0 k l0 (List.replicate ((l0.length : Int) : Int).toNat z26) 0) else (none)) else (none)
theorem laws_toSemigroupS.calls (k : Nat) (A0 : Option Addr) (c0 : Nat) (l0 : List (S36)) (r : List (S26)) (w : World) (hr0 : Kd.C k36 w A0 l0.length l0) (hc0 : l0.length ≤ c0) (h : laws_toSemigroupS.f k l0 = some r) :
 Calls Try.prog 9 #[.slice A0 l0.length c0] w fun e w' => ∃ v0_ : Value, e = .returned (v0_) ∧ Kd.S k26 26 w' w.heap.size (fun _ => True) v0_ r ∧ Below w.heap.size w w' := by
 have hu36 := Try.underlying36
 have hu26 := Try.underlying26
 have HR0 := Aside0.mk hr0
 have HC0 := Aside0.mk hc0
 clear hr0 hc0
 have HB := Aside0.mk (Below.refl w.heap.size w)
 have H := h
 clear h
 unfold laws_toSemigroupS.f at H
 obtain ⟨c2, H⟩ := ip_ H
 have c2b0 := eq_true c2
 have c2b1 : decide (0 ≤ (l0.length : Int)) = true := decide_eq_true c2
 clear c2
 obtain ⟨c3, H⟩ := ip_ H
 have c3b0 := eq_true c3
 have c3b1 : decide (((l0.length : Int) : Int).toNat ≤ 11728124029610) = true := decide_eq_true c3
 clear c3
 obtain ⟨y316, hy316⟩ : ∃ y_ : List (S26), y_ = (List.replicate ((l0.length : Int) : Int).toNat z26) := ⟨_, rfl⟩
 replace H : (laws_toSemigroupS.l0 k l0 y316 0) = some r := by subst hy316; exact H
 have Ny316 := Aside0.mk hy316
 clear hy316
 have H' := Aside0.mk H
 clear H
 go_enter Try.func9, Try.ntmps9
 go_wp2_with (first | ((with_reducible refine gate_dst (N := 7) rfl ?_); refine Kd.S_make k26 _ 26 rfl (N := 7) rfl 29 _ _ rfl (l0.length : Int) rfl rfl Try.underlying29 (.agg #[(.slice none 0 0)]) 24 info26 rfl (by decide) (by omega) z26 (ok := fun _ => True) (okp := fun _ => True) (k26_mkM _ _ _ z26 (Kd.R_nil _ _ _ _ _)) (fun _ hk => hk) trivial (od_) (Nat.le_trans (Nat.mul_le_mul_right _ (od_ : (l0.length : Int).toNat ≤ 11728124029610)) (by omega)) (Below.refl _ _) (Nat.le_refl _) ?_; intro v317 w4 ho5 hb hg_ hnew_; clear hg_ hnew_; (first | rw [← Ny316.out] at ho5 | (simp only [Int.reduceToNat] at ho5; rw [← Ny316.out] at ho5)); have HO318 := Aside0.mk (Kd.S_lower ho5 (below_size (bl_ HB.out))); replace HB := bo_ HB hb; clear hb ho5))
 go_loopg [4] k (fun kq v4 w' => ∃ (x3_1 : List (S26)) (x4_1 : Int), v4 = .int .i64 x4_1 ∧ Aside0 (laws_toSemigroupS.l0 kq l0 x3_1 x4_1 = some r) ∧ Aside0 (kq ≤ k) ∧ Aside0 (Kd.S k26 26 w' w.heap.size (fun _ => True) v317 x3_1) ∧ Aside0 (Below w.heap.size w w'))
 case atStart => exact ⟨(y316), (0), rs_, H', ⟨Nat.le_refl _⟩, ⟨by (with_reducible repeat (first | apply Kd.S_alloc | apply Kd.S_drewN | apply Kd.S_drew)); exact HO318.out⟩, ⟨bl_ HB.out⟩⟩
 case round =>
  clear H'
  try clear c2b0
  try clear c2b1
  try clear c3b0
  try clear c3b1
  obtain ⟨x3_1, x4_1, rfl, HA, HK1, HO_3, HB⟩ := hrel
  cases gk with
  | zero => exact absurd HA.out (by simp [laws_toSemigroupS.l0])
  | succ k1 =>
   have H := HA.out
   clear HA
   simp only [laws_toSemigroupS.l0] at H
   by_cases c6 : x4_1 < (l0.length : Int)
   rotate_left
   · rw [if_neg c6] at H
     have c6b0 : decide (x4_1 < (l0.length : Int)) = false := decide_eq_false c6
     clear c6
     obtain rfl := Option.some.inj H
     go_wp2
     go_ret
     exact ⟨_, rf_, by (with_reducible repeat (first | apply Kd.S_alloc | apply Kd.S_drewN | apply Kd.S_drew)); exact HO_3.out, bl_ HB.out⟩
   rw [if_pos c6] at H
   have c6b0 : decide (x4_1 < (l0.length : Int)) = true := decide_eq_true c6
   clear c6
   obtain ⟨c7b0, H⟩ := ipd_ H
   obtain ⟨t320, A8, H⟩ := ob_ H
   obtain ⟨c9b0, H⟩ := ipd_ H
   obtain ⟨y323, hy323⟩ : ∃ y_ : List (S26), y_ = (x3_1.set (x4_1 : Int).toNat (⟨t320⟩ : S26)) := ⟨_, rfl⟩
   replace H : (laws_toSemigroupS.l0 k1 l0 y323 (wrap64 (x4_1 + 1))) = some r := by subst hy323; exact H
   have Ny323 := Aside0.mk hy323
   clear hy323
   have H' := Aside0.mk H
   clear H
   have p319 : 0 ≤ (x4_1 : Int) := od_
   have q319 : x4_1 < (l0.length : Int) := od_
   obtain ⟨ad319, A319_0, c319_0, e319, hx319_0, hl319_0, hi319_0⟩ := at_T36 HR0.out x4_1 p319 q319
   cases e319
   (try replace hx319_0 := (HB.out.cell (World.block_lt_of_cell? w _ hx319_0)).trans hx319_0)
   have HR319_0 := Aside0.mk hi319_0
   have HC319_0 := Aside0.mk hl319_0
   clear hi319_0 hl319_0
   replace p319 := eq_true p319
   replace q319 := eq_true q319
   go_wp2_with (first | ((with_reducible refine gate_callee (f := 18) rfl ?_); refine gL_ (some 20) Try.func18 #[.agg #[.slice A319_0 ((rd_T36 l0 x4_1).f0).length c319_0]] ?_; (with_reducible refine (laws_toSemigroup.calls k1 _ _ ((rd_T36 l0 x4_1).f0) t320 _ ?side1 ?side2 A8.out).mono ?_); (case side1 => exact ch_ HR319_0 HB); (case side2 => exact HC319_0.out); rintro e w11 ⟨v321, rfl, ho0, hb⟩; refine ⟨_, rfl, ?_⟩; replace HO_3 := Aside0.mk (Kd.S_elder' (by (with_reducible repeat (first | apply Kd.S_alloc | apply Kd.S_drewN | apply Kd.S_drew)); exact HO_3.out) (Kd.R_base ho0) hb); have HO322 := Aside0.mk (Kd.R_lower ho0 (below_size (bl_ HB.out))); replace HB := bo_ HB hb; (try clear hb); (try clear ho0); have p10 : 0 ≤ (x4_1 : Int) := od_; have q10 : (x4_1 : Int) < ((x3_1.length : Int) : Int) := od_; obtain ⟨go10, co10, eo10, gb10, gl10, cl10, HG10⟩ := Kd.S_form HO_3.out (by omega); (first | cases eo10 | (injection eo10 with ea_ en_ ec_; (first | subst ea_ | (injection ea_ with ea_; subst ea_)); subst ec_; clear en_)); have GB10 := Aside0.mk gb10; have GG10 := Aside0.mk HG10; clear gb10 gl10 HG10; obtain ⟨_, ce10, hcl10, hM10, hcc10, hfr10, _, _⟩ := Kd.S_elem HO_3.out z26 (x4_1 : Int) p10 q10; obtain ⟨ve10_0, rfl, ge10_0⟩ := k26_openM hM10; have hx10_0 := hcc10 0 _ rfl; have hf10_0 := hfr10 0; (try simp only [show (k26).sz = 1 from rfl, Nat.mul_one, Nat.add_zero] at hx10_0); (try simp only [show (k26).sz = 1 from rfl, Nat.mul_one, Nat.add_zero] at hf10_0); clear hcl10 hcc10 hfr10 hM10; replace p10 := eq_true p10; replace q10 := eq_true q10; have n_ := Aside0.mk (Kd.S_mono (ok' := (fun k_ => some k_ ≠ (v321 : Value).ownBlock)) HO_3.out (fun k_ hk => hk.2)); clear HO_3; have HO_3 := n_; clear n_; have HX12 := Aside0.mk (show Kd.S k26 26 w11 w.heap.size (fun k_ => ((fun _ => True)) k_ ∧ ¬ ((fun k_ => some k_ = (v321 : Value).ownBlock)) k_) (.slice (some ⟨go10, 0, none⟩) x3_1.length co10) x3_1 from (by (with_reducible repeat (first | apply Kd.S_alloc | apply Kd.S_drewN | apply Kd.S_drew)); exact Kd.S_mono HO_3.out (fun k_ hk => ⟨trivial, fun e_ => hk e_⟩))); obtain ⟨oki12, ce12, hcl12, hM12, hcc12, hfr12, hoki12, hH12⟩ := Kd.S_elem HX12.out z26 (x4_1 : Int) (od_) (by have h_ : (x4_1 : Int) < ((x3_1.length : Int) : Int) := od_; first | exact h_ | (have e_ := (Kd.S_reads' HO_3.out).1; omega) | simpa using h_); obtain ⟨ve12_0, rfl, ge12_0⟩ := k26_openM hM12; have HP12 := Kd.S_seg hH12 (od_) (by have h_ : (x4_1 : Int) < ((x3_1.length : Int) : Int) := od_; first | exact h_ | (have e_ := (Kd.S_reads' HO_3.out).1; omega) | simpa using h_) (seg := [v321]) (j := 0) (show 1 ≤ 1 from by decide) (x' := (⟨t320⟩ : S26)) (k26_mkM _ _ _ (⟨t320⟩ : S26) (Kd.R_mono (Kd.R_tight rfl (Kd.R_mono (ok' := fun k_ => ((fun _ => True)) k_ ∧ k_ ≠ go10) (Kd.R_apart' (HO322.out) (Kd.S_typed HO_3.out) (by decide)) (fun k_ hk => ⟨trivial, fun e_ => (hk.2) (by rw [e_]; rfl)⟩))) (fun _ h_ => Or.inr (h_)))) (fun _ hk => hk) (fun k_ hk_ => ((Kd.R_mono (ok' := fun k_ => ((fun _ => True)) k_ ∧ k_ ≠ go10) (Kd.R_apart' (HO322.out) (Kd.S_typed HO_3.out) (by decide)) (fun k_ hk => ⟨trivial, fun e_ => (hk.2) (by rw [e_]; rfl)⟩))).1 k_ hk_.symm); have hx12_0 := hcc12 0 _ rfl; (try simp only [show (k26).sz = 1 from rfl, Nat.mul_one, Nat.add_zero] at hx12_0); have hf12_0 := hfr12 0; (try simp only [show (k26).sz = 1 from rfl, Nat.mul_one, Nat.add_zero] at hf12_0); clear hcl12 hcc12 hfr12 hM12 hoki12 hH12; (try simp only [show (k26).sz = 1 from rfl, Nat.mul_one, Nat.add_zero] at HP12)) | ((with_reducible refine gate_store (t := 26) (p := 21) rfl ?_); refine store_event (t := 26) (p := 21) (v := ?vo_w13) (w1 := (w11.setCell ⟨go10, (x4_1 : Int).toNat, none⟩ (v321))) ?hg ?ho ?hn ?hr ?_; (case ho => rfl); (case hg => rfl); (case hn => rfl); (case hr => obtain ⟨A_, c_, e_⟩ := Kd.R_slice HO322.out; subst e_; first | (go_simp; done) | (go_simp; rfl)); intro w13 hw; have hg : w11.grownBy w13 (some go10) := (by rw [hw]; exact HP12.2); have hp_ : Kd.S k26 26 w13 w.heap.size (fun _ => True) (.slice (some ⟨go10, 0, none⟩) x3_1.length co10) y323 := (by rw [hw, Ny323.out]; exact HP12.1); clear HP12; replace HO_3 := Aside0.mk (hp_); replace HB := Aside0.mk ((by rw [hw]; exact below_set (HB.out) GB10.out : Below w.heap.size w w13)); clear HO322; clear hg hw hp_))
   go_roundg k1
   case measure => have := HK1.out; omega
   case rel => exact ⟨(y323), (wrap64 (x4_1 + 1)), rs_, H', ⟨by have := HK1.out; omega⟩, ⟨by (with_reducible repeat (first | apply Kd.S_alloc | apply Kd.S_drewN | apply Kd.S_drew)); exact HO_3.out⟩, ⟨bl_ HB.out⟩⟩
def impl_within.f (a0 : Int) (a1 : Int) (a2 : Int) : Option (Bool) := if a0 ≥ a1 then (some (decide (a0 ≤ a2))) else (some false)
theorem impl_within.calls (a0 : Int) (a1 : Int) (a2 : Int) (r : Bool) (w : World) (h : impl_within.f a0 a1 a2 = some r) :
 Calls Try.prog 40 #[.int .i64 a0, .int .i64 a1, .int .i64 a2] w fun e w' => e = .returned (.bool r) ∧ Drawn0 w w' := by
 have H := h
 clear h
 unfold impl_within.f at H
 by_cases c4 : a0 ≥ a1
 rotate_left
 · rw [if_neg c4] at H
   have c4b0 : decide (a1 ≤ a0) = false := decide_eq_false c4
   clear c4
   obtain rfl := Option.some.inj H
   go_enter Try.func40, Try.ntmps40
   go_wp2
   go_ret
   exact ⟨by first | rfl | (simp; done) | (simp [*]; done), by repeat (first | exact Drawn0.refl _ | apply Drawn0.step)⟩
 rw [if_pos c4] at H
 have c4b0 : decide (a1 ≤ a0) = true := decide_eq_true c4
 clear c4
 obtain rfl := Option.some.inj H
 go_enter Try.func40, Try.ntmps40
 go_wp2
 go_ret
 exact ⟨by first | rfl | (simp; done) | (simp [*]; done), by repeat (first | exact Drawn0.refl _ | apply Drawn0.step)⟩
def impl_allWithin.l0 : Nat → Int → Int → List Int → Int → Int → Option (Bool)
 | 0, _, _, _, _, _ => none
 | k + 1, x1, x2, x9, x10, x11 => if x11 < x10 then (if 0 ≤ x11 then (if x11 < (x9.length : Int) then ((impl_within.f (rd x9 x11) x1 x2).bind fun t325 => (if t325 = true then (impl_allWithin.l0 k x1 x2 x9 x10 (wrap64 (x11 + 1))) else (some false))) else (none)) else (none)) else (some true)
def impl_allWithin.f (k : Nat) (l0 : List Int) (a1 : Int) (a2 : Int) : Option (Bool) := impl_allWithin.l0 k a1 a2 l0 (l0.length : Int) 0
theorem impl_allWithin.calls (k : Nat) (A0 : Option Addr) (c0 : Nat) (l0 : List Int) (a1 : Int) (a2 : Int) (r : Bool) (w : World) (hr0 : Kd.C (Kd.int .i64) w A0 l0.length l0) (hc0 : l0.length ≤ c0) (h : impl_allWithin.f k l0 a1 a2 = some r) :
 Calls Try.prog 55 #[.slice A0 l0.length c0, .int .i64 a1, .int .i64 a2] w fun e w' => e = .returned (.bool r) ∧ Drawn0 w w' := by
 have HR0 := Aside0.mk hr0
 have HC0 := Aside0.mk hc0
 clear hr0 hc0
 have H := h
 clear h
 unfold impl_allWithin.f at H
 have H' := Aside0.mk H
 clear H
 go_enter Try.func55, Try.ntmps55
 go_wp2
 go_loopg [11] k (fun kq v11 w' => ∃ (x11_1 : Int), v11 = .int .i64 x11_1 ∧ Aside0 (impl_allWithin.l0 kq a1 a2 l0 (l0.length : Int) x11_1 = some r) ∧ Aside0 (kq ≤ k) ∧ Drawn0 w w')
 case atStart => exact ⟨(0), rs_, H', ⟨Nat.le_refl _⟩, by repeat (first | exact Drawn0.refl _ | apply Drawn0.step)⟩
 case round =>
  clear H'
  obtain ⟨x11_1, rfl, HA, HK1, ⟨m1, rfl⟩⟩ := hrel
  cases gk with
  | zero => exact absurd HA.out (by simp [impl_allWithin.l0])
  | succ k1 =>
   have H := HA.out
   clear HA
   simp only [impl_allWithin.l0] at H
   by_cases c4 : x11_1 < (l0.length : Int)
   rotate_left
   · rw [if_neg c4] at H
     have c4b0 : decide (x11_1 < (l0.length : Int)) = false := decide_eq_false c4
     clear c4
     obtain rfl := Option.some.inj H
     go_wp2
     go_ret
     exact ⟨by first | rfl | (simp; done) | (simp [*]; done), by repeat (first | exact Drawn0.refl _ | apply Drawn0.step)⟩
   rw [if_pos c4] at H
   have c4b0 : decide (x11_1 < (l0.length : Int)) = true := decide_eq_true c4
   clear c4
   obtain ⟨c5b0, H⟩ := ipd_ H
   obtain ⟨c6b0, H⟩ := ipd_ H
   obtain ⟨t325, A7, H⟩ := ob_ H
   by_cases c8 : t325 = true
   rotate_left
   · replace c8 := Bool.eq_false_iff.mpr c8
     subst c8
     rw [if_neg (show ¬ (false = true) by decide)] at H
     obtain rfl := Option.some.inj H
     have p324 : 0 ≤ (x11_1 : Int) := od_
     have q324 : x11_1 < (l0.length : Int) := od_
     obtain ⟨ad324, e324, hx324_0⟩ := Kd.at_int HR0.out x11_1 p324 q324
     cases e324
     replace p324 := eq_true p324
     replace q324 := eq_true q324
     go_wp2_with (first | ((with_reducible refine gate_callee (f := 40) rfl ?_); refine gL_ (some 18) Try.func40 #[.int .i64 (rd l0 x11_1), .int .i64 a1, .int .i64 a2] ?_; (with_reducible refine (impl_within.calls (rd l0 x11_1) a1 a2 false _ A7.out).mono ?_); rintro e w' ⟨rfl, ⟨nd, rfl⟩⟩; refine ⟨_, rfl, ?_⟩))
     go_ret
     exact ⟨by first | rfl | (simp; done) | (simp [*]; done), by repeat (first | exact Drawn0.refl _ | apply Drawn0.step)⟩
   subst c8
   rw [if_pos rfl] at H
   have H' := Aside0.mk H
   clear H
   have p324 : 0 ≤ (x11_1 : Int) := od_
   have q324 : x11_1 < (l0.length : Int) := od_
   obtain ⟨ad324, e324, hx324_0⟩ := Kd.at_int HR0.out x11_1 p324 q324
   cases e324
   replace p324 := eq_true p324
   replace q324 := eq_true q324
   go_wp2_with (first | ((with_reducible refine gate_callee (f := 40) rfl ?_); refine gL_ (some 18) Try.func40 #[.int .i64 (rd l0 x11_1), .int .i64 a1, .int .i64 a2] ?_; (with_reducible refine (impl_within.calls (rd l0 x11_1) a1 a2 true _ A7.out).mono ?_); rintro e w' ⟨rfl, ⟨nd, rfl⟩⟩; refine ⟨_, rfl, ?_⟩))
   go_roundg k1
   case measure => have := HK1.out; omega
   case rel => exact ⟨(wrap64 (x11_1 + 1)), rs_, H', ⟨by have := HK1.out; omega⟩, by repeat (first | exact Drawn0.refl _ | apply Drawn0.step)⟩
def impl_IsAscending.l0 : Nat → List Int → Int → Option (Bool)
 | 0, _, _ => none
 | k + 1, x0, x3 => if x3 < (x0.length : Int) then (if 0 ≤ x3 then (if 0 ≤ (wrap64 (x3 - 1)) then (if (wrap64 (x3 - 1)) < (x0.length : Int) then (if (rd x0 x3) ≤ (rd x0 (wrap64 (x3 - 1))) then (some false) else (impl_IsAscending.l0 k x0 (wrap64 (x3 + 1)))) else (none)) else (none)) else (none)) else (some true)
def impl_IsAscending.f (k : Nat) (l0 : List Int) : Option (Bool) := impl_IsAscending.l0 k l0 1
theorem impl_IsAscending.calls (k : Nat) (A0 : Option Addr) (c0 : Nat) (l0 : List Int) (r : Bool) (w : World) (hr0 : Kd.C (Kd.int .i64) w A0 l0.length l0) (hc0 : l0.length ≤ c0) (h : impl_IsAscending.f k l0 = some r) :
 Calls Try.prog 56 #[.slice A0 l0.length c0] w fun e w' => e = .returned (.bool r) ∧ Drawn0 w w' := by
 have HR0 := Aside0.mk hr0
 have HC0 := Aside0.mk hc0
 clear hr0 hc0
 have H := h
 clear h
 unfold impl_IsAscending.f at H
 have H' := Aside0.mk H
 clear H
 go_enter Try.func56, Try.ntmps56
 go_wp2
 repeat (go_quiet (fail); try go_wp2)
 go_loopg [3] k (fun kq v3 w' => ∃ (x3_1 : Int), v3 = .int .i64 x3_1 ∧ Aside0 (impl_IsAscending.l0 kq l0 x3_1 = some r) ∧ Aside0 (kq ≤ k) ∧ Drawn0 w w')
 case atStart => exact ⟨(1), rs_, H', ⟨Nat.le_refl _⟩, by repeat (first | exact Drawn0.refl _ | apply Drawn0.step)⟩
 case round =>
  clear H'
  obtain ⟨x3_1, rfl, HA, HK1, ⟨m1, rfl⟩⟩ := hrel
  cases gk with
  | zero => exact absurd HA.out (by simp [impl_IsAscending.l0])
  | succ k1 =>
   have H := HA.out
   clear HA
   simp only [impl_IsAscending.l0] at H
   by_cases c2 : x3_1 < (l0.length : Int)
   rotate_left
   · rw [if_neg c2] at H
     have c2b0 : decide (x3_1 < (l0.length : Int)) = false := decide_eq_false c2
     clear c2
     obtain rfl := Option.some.inj H
     go_wp2
     repeat (go_quiet (fail); try go_wp2)
     go_ret
     exact ⟨by first | rfl | (simp; done) | (simp [*]; done), by repeat (first | exact Drawn0.refl _ | apply Drawn0.step)⟩
   rw [if_pos c2] at H
   have c2b0 : decide (x3_1 < (l0.length : Int)) = true := decide_eq_true c2
   clear c2
   obtain ⟨c3b0, H⟩ := ipd_ H
   obtain ⟨ji4, hji4⟩ : ∃ j_ : Int, (wrap64 (x3_1 - 1)) = j_ := ⟨_, rfl⟩
   replace H : (if 0 ≤ (ji4) then (if (ji4) < (l0.length : Int) then (if (rd l0 x3_1) ≤ (rd l0 (ji4)) then (some false) else (impl_IsAscending.l0 k1 l0 (wrap64 (x3_1 + 1)))) else (none)) else (none)) = some r := by first | (rw [hji4] at H; exact H) | (simp only [hji4] at H ⊢; exact H)
   have hji4w : (IntKind.i64.wrap (x3_1 - 1)) = ji4 := (i64_w _).trans hji4
   obtain ⟨c5b0, H⟩ := ipd_ H
   obtain ⟨c6b0, H⟩ := ipd_ H
   by_cases c7 : (rd l0 x3_1) ≤ (rd l0 (ji4))
   · rw [if_pos c7] at H
     have c7b0 : decide ((rd l0 x3_1) ≤ (rd l0 (ji4))) = true := decide_eq_true c7
     clear c7
     obtain rfl := Option.some.inj H
     have p326 : 0 ≤ (x3_1 : Int) := od_
     have q326 : x3_1 < (l0.length : Int) := od_
     obtain ⟨ad326, e326, hx326_0⟩ := Kd.at_int HR0.out x3_1 p326 q326
     cases e326
     replace p326 := eq_true p326
     replace q326 := eq_true q326
     have p327 : 0 ≤ ((ji4) : Int) := od_
     have q327 : (ji4) < (l0.length : Int) := od_
     obtain ⟨ad327, e327, hx327_0⟩ := Kd.at_int HR0.out (ji4) p327 q327
     obtain rfl : ad326 = ad327 := (by injection e327)
     replace p327 := eq_true p327
     replace q327 := eq_true q327
     go_wp2
     repeat (go_quiet (fail); try go_wp2)
     go_ret
     exact ⟨by first | rfl | (simp; done) | (simp only [← hji4] <;> (first | rfl | simp)) | (simp [*]; done), by repeat (first | exact Drawn0.refl _ | apply Drawn0.step)⟩
   rw [if_neg c7] at H
   have c7b0 : decide ((rd l0 x3_1) ≤ (rd l0 (ji4))) = false := decide_eq_false c7
   clear c7
   have H' := Aside0.mk H
   clear H
   have p326 : 0 ≤ (x3_1 : Int) := od_
   have q326 : x3_1 < (l0.length : Int) := od_
   obtain ⟨ad326, e326, hx326_0⟩ := Kd.at_int HR0.out x3_1 p326 q326
   cases e326
   replace p326 := eq_true p326
   replace q326 := eq_true q326
   have p327 : 0 ≤ ((ji4) : Int) := od_
   have q327 : (ji4) < (l0.length : Int) := od_
   obtain ⟨ad327, e327, hx327_0⟩ := Kd.at_int HR0.out (ji4) p327 q327
   obtain rfl : ad326 = ad327 := (by injection e327)
   replace p327 := eq_true p327
   replace q327 := eq_true q327
   go_wp2
   repeat (go_quiet (fail); try go_wp2)
   go_roundg k1
   case measure => have := HK1.out; omega
   case rel => exact ⟨(wrap64 (x3_1 + 1)), rs_, H', ⟨by have := HK1.out; omega⟩, by repeat (first | exact Drawn0.refl _ | apply Drawn0.step)⟩
def impl_GcdOf.l0 : Nat → Int → Int → Option (Int)
 | 0, _, _ => none
 | k + 1, x0, x1 => if x0 = 0 then (some x1) else (impl_GcdOf.l0 k (Int.tmod x1 x0) x0)
def impl_GcdOf.f (k : Nat) (a0 : Int) (a1 : Int) : Option (Int) := (impl_allWithin.f k (([a0, a1] : List Int)) (-1000000) 1000000).bind fun t331 => (if t331 = true then (impl_GcdOf.l0 k (mx a0 (wrap64 (-a0))) (mx a1 (wrap64 (-a1)))) else (some 0))
theorem impl_GcdOf.calls (k : Nat) (a0 : Int) (a1 : Int) (r : Int) (w : World) (h : impl_GcdOf.f k a0 a1 = some r) :
 Calls Try.prog 85 #[.int .i64 a0, .int .i64 a1] w fun e w' => e = .returned (.int .i64 r) ∧ Below w.heap.size w w' := by
 have HB := Aside0.mk (Below.refl w.heap.size w)
 have H := h
 clear h
 unfold impl_GcdOf.f at H
 obtain ⟨y328, hy328⟩ : ∃ y_ : List Int, y_ = (([a0, a1] : List Int)) := ⟨_, rfl⟩
 replace H : ((impl_allWithin.f k y328 (-1000000) 1000000).bind fun t331 => (if t331 = true then (impl_GcdOf.l0 k (mx a0 (wrap64 (-a0))) (mx a1 (wrap64 (-a1)))) else (some 0))) = some r := by subst hy328; exact H
 have Ny328 := Aside0.mk hy328
 clear hy328
 obtain ⟨t331, A3, H⟩ := ob_ H
 by_cases c4 : t331 = true
 rotate_left
 · replace c4 := Bool.eq_false_iff.mpr c4
   subst c4
   rw [if_neg (show ¬ (false = true) by decide)] at H
   obtain rfl := Option.some.inj H
   go_enter Try.func85, Try.ntmps85
   go_wp2_with (first | ((with_reducible refine gate_dst (N := 7) rfl ?_); refine Kd.R_lit (Kd.int .i64) _ 3 ?hg (N := 7) ?hd (xs := ([a0, a1] : List Int)) (inner := [.int .i64 a0, .int .i64 a1]) (ok := fun _ => True) (okp := fun _ => True) ?hr ?hp (fun _ hk => hk) trivial (Below.refl _ _) (Nat.le_refl _) (by simp) ?_; (case hd => rfl); (case hg => rfl); (case hr => first | (go_simp; done) | (go_simp; rfl)); (case hp => exact (Reps.one (show Kd.M (Kd.int .i64) _ _ _ a0 [.int .i64 a0] from rfl) (Reps.one (show Kd.M (Kd.int .i64) _ _ _ a1 [.int .i64 a1] from rfl) (Reps.none _ _)))); intro v329 w11 ho12 hb hg_ hnew_; clear hg_ hnew_; (first | rw [← Ny328.out] at ho12 | (simp only [Int.reduceToNat] at ho12; rw [← Ny328.out] at ho12)); have HO330 := Aside0.mk (Kd.R_lower ho12 (below_size (bl_ HB.out))); replace HB := bo_ HB hb; clear hb ho12; obtain ⟨Ao13, co13, eo13⟩ := Kd.R_slice HO330.out; subst eo13) | ((with_reducible refine gate_callee (f := 55) rfl ?_); refine gL_ (some 8) Try.func55 #[.slice Ao13 y328.length co13, .int .i64 (-1000000), .int .i64 1000000] ?_; (with_reducible refine (impl_allWithin.calls k _ _ y328 (-1000000) 1000000 false _ ?side1 ?side2 A3.out).mono ?_); (case side1 => exact ce_ ((Kd.R_reads' HO330.out).2.2)); (case side2 => exact (Kd.R_reads' HO330.out).2.1); rintro e w' ⟨rfl, ⟨nd, rfl⟩⟩; refine ⟨_, rfl, ?_⟩))
   go_ret
   exact ⟨rf_, bl_ HB.out⟩
 subst c4
 rw [if_pos rfl] at H
 obtain ⟨ji5, hji5⟩ : ∃ j_ : Int, (mx a0 (wrap64 (-a0))) = j_ := ⟨_, rfl⟩
 replace H : (impl_GcdOf.l0 k ji5 (mx a1 (wrap64 (-a1)))) = some r := by first | (rw [hji5] at H; exact H) | (simp only [hji5] at H ⊢; exact H)
 (try rw [hji5] at A3)
 have hji5_ : (if a0 < (wrap64 (-a0)) then (wrap64 (-a0)) else a0) = ji5 := hji5
 obtain ⟨ji6, hji6⟩ : ∃ j_ : Int, (mx a1 (wrap64 (-a1))) = j_ := ⟨_, rfl⟩
 replace H : (impl_GcdOf.l0 k ji5 ji6) = some r := by first | (rw [hji6] at H; exact H) | (simp only [hji6] at H ⊢; exact H)
 (try rw [hji6] at A3)
 have hji6_ : (if a1 < (wrap64 (-a1)) then (wrap64 (-a1)) else a1) = ji6 := hji6
 have H' := Aside0.mk H
 clear H
 go_enter Try.func85, Try.ntmps85
 go_wp2_with (first | ((with_reducible refine gate_dst (N := 7) rfl ?_); refine Kd.R_lit (Kd.int .i64) _ 3 ?hg (N := 7) ?hd (xs := ([a0, a1] : List Int)) (inner := [.int .i64 a0, .int .i64 a1]) (ok := fun _ => True) (okp := fun _ => True) ?hr ?hp (fun _ hk => hk) trivial (Below.refl _ _) (Nat.le_refl _) (by simp) ?_; (case hd => rfl); (case hg => rfl); (case hr => first | (go_simp; done) | (go_simp; rfl)); (case hp => exact (Reps.one (show Kd.M (Kd.int .i64) _ _ _ a0 [.int .i64 a0] from rfl) (Reps.one (show Kd.M (Kd.int .i64) _ _ _ a1 [.int .i64 a1] from rfl) (Reps.none _ _)))); intro v329 w7 ho8 hb hg_ hnew_; clear hg_ hnew_; (first | rw [← Ny328.out] at ho8 | (simp only [Int.reduceToNat] at ho8; rw [← Ny328.out] at ho8)); have HO330 := Aside0.mk (Kd.R_lower ho8 (below_size (bl_ HB.out))); replace HB := bo_ HB hb; clear hb ho8; obtain ⟨Ao9, co9, eo9⟩ := Kd.R_slice HO330.out; subst eo9) | ((with_reducible refine gate_callee (f := 55) rfl ?_); refine gL_ (some 8) Try.func55 #[.slice Ao9 y328.length co9, .int .i64 (-1000000), .int .i64 1000000] ?_; (with_reducible refine (impl_allWithin.calls k _ _ y328 (-1000000) 1000000 true _ ?side1 ?side2 A3.out).mono ?_); (case side1 => exact ce_ ((Kd.R_reads' HO330.out).2.2)); (case side2 => exact (Kd.R_reads' HO330.out).2.1); rintro e w' ⟨rfl, ⟨nd, rfl⟩⟩; refine ⟨_, rfl, ?_⟩))
 go_loopg [0, 1] k (fun kq v0 v1 w' => ∃ (x0_1 : Int) (x1_1 : Int), v0 = .int .i64 x0_1 ∧ v1 = .int .i64 x1_1 ∧ Aside0 (impl_GcdOf.l0 kq x0_1 x1_1 = some r) ∧ Aside0 (kq ≤ k) ∧ Aside0 (Below w.heap.size w w'))
 case atStart => exact ⟨(ji5), (ji6), (by first | rfl | (simp; done) | (simp only [← hji5] <;> (first | rfl | simp)) | (simp [*]; done)), (by first | rfl | (simp; done) | (simp only [← hji6] <;> (first | rfl | simp)) | (simp [*]; done)), H', ⟨Nat.le_refl _⟩, ⟨bl_ HB.out⟩⟩
 case round =>
  clear H'
  obtain ⟨x0_1, x1_1, rfl, rfl, HA, HK1, HB⟩ := hrel
  cases gk with
  | zero => exact absurd HA.out (by simp [impl_GcdOf.l0])
  | succ k1 =>
   have H := HA.out
   clear HA
   simp only [impl_GcdOf.l0] at H
   by_cases c10 : x0_1 = 0
   · rw [if_pos c10] at H
     have c10b0 : (x0_1 == 0) = true := beq_iff_eq.mpr c10
     have c10b1 : (x0_1 != 0) = false := bne_eq_false_iff_eq.mpr c10
     clear c10
     obtain rfl := Option.some.inj H
     go_wp2
     go_ret
     exact ⟨by first | rfl | (simp [errW_none, errW_some] <;> rfl) | (simp only [← hji5, ← hji6]; first | rfl | (simp [errW_none, errW_some] <;> rfl)) | (simp [*, errW_none, errW_some] <;> rfl), bl_ HB.out⟩
   rw [if_neg c10] at H
   have c10b0 : (x0_1 == 0) = false := beq_eq_false_iff_ne.mpr c10
   have c10b1 : (x0_1 != 0) = true := bne_iff_ne.mpr c10
   have H' := Aside0.mk H
   clear H
   go_wp2
   go_roundg k1
   case measure => have := HK1.out; omega
   case rel => exact ⟨(Int.tmod x1_1 x0_1), (x0_1), rs_, rs_, H', ⟨by have := HK1.out; omega⟩, ⟨bl_ HB.out⟩⟩
def impl_GcdOfList.l0 : Nat → Int → List Int → Int → Int → Option (Int)
 | 0, _, _, _, _ => none
 | k + 1, x3, x6, x7, x8 => if x8 < x7 then (if 0 ≤ x8 then (if x8 < (x6.length : Int) then ((impl_GcdOf.f k x3 (rd x6 x8)).bind fun t333 => (impl_GcdOfList.l0 k t333 x6 x7 (wrap64 (x8 + 1)))) else (none)) else (none)) else (some x3)
def impl_GcdOfList.f (k : Nat) (l0 : List Int) : Option (Int) := impl_GcdOfList.l0 k 0 l0 (l0.length : Int) 0
theorem impl_GcdOfList.calls (k : Nat) (A0 : Option Addr) (c0 : Nat) (l0 : List Int) (r : Int) (w : World) (hr0 : Kd.C (Kd.int .i64) w A0 l0.length l0) (hc0 : l0.length ≤ c0) (h : impl_GcdOfList.f k l0 = some r) :
 Calls Try.prog 57 #[.slice A0 l0.length c0] w fun e w' => e = .returned (.int .i64 r) ∧ Below w.heap.size w w' := by
 have HR0 := Aside0.mk hr0
 have HC0 := Aside0.mk hc0
 clear hr0 hc0
 have HB := Aside0.mk (Below.refl w.heap.size w)
 have H := h
 clear h
 unfold impl_GcdOfList.f at H
 have H' := Aside0.mk H
 clear H
 go_enter Try.func57, Try.ntmps57
 go_wp2
 go_loopg [3, 8] k (fun kq v3 v8 w' => ∃ (x3_1 : Int) (x8_1 : Int), v3 = .int .i64 x3_1 ∧ v8 = .int .i64 x8_1 ∧ Aside0 (impl_GcdOfList.l0 kq x3_1 l0 (l0.length : Int) x8_1 = some r) ∧ Aside0 (kq ≤ k) ∧ Aside0 (Below w.heap.size w w'))
 case atStart => exact ⟨(0), (0), rs_, rs_, H', ⟨Nat.le_refl _⟩, ⟨bl_ HB.out⟩⟩
 case round =>
  clear H'
  obtain ⟨x3_1, x8_1, rfl, rfl, HA, HK1, HB⟩ := hrel
  cases gk with
  | zero => exact absurd HA.out (by simp [impl_GcdOfList.l0])
  | succ k1 =>
   have H := HA.out
   clear HA
   simp only [impl_GcdOfList.l0] at H
   by_cases c2 : x8_1 < (l0.length : Int)
   rotate_left
   · rw [if_neg c2] at H
     have c2b0 : decide (x8_1 < (l0.length : Int)) = false := decide_eq_false c2
     clear c2
     obtain rfl := Option.some.inj H
     go_wp2
     go_ret
     exact ⟨rf_, bl_ HB.out⟩
   rw [if_pos c2] at H
   have c2b0 : decide (x8_1 < (l0.length : Int)) = true := decide_eq_true c2
   clear c2
   obtain ⟨c3b0, H⟩ := ipd_ H
   obtain ⟨c4b0, H⟩ := ipd_ H
   obtain ⟨t333, A5, H⟩ := ob_ H
   have H' := Aside0.mk H
   clear H
   have p332 : 0 ≤ (x8_1 : Int) := od_
   have q332 : x8_1 < (l0.length : Int) := od_
   obtain ⟨ad332, e332, hx332_0⟩ := Kd.at_int HR0.out x8_1 p332 q332
   cases e332
   (try replace hx332_0 := (HB.out.cell (World.block_lt_of_cell? w _ hx332_0)).trans hx332_0)
   replace p332 := eq_true p332
   replace q332 := eq_true q332
   go_wp2_with (first | ((with_reducible refine gate_callee (f := 85) rfl ?_); refine gL_ (some 14) Try.func85 #[.int .i64 x3_1, .int .i64 (rd l0 x8_1)] ?_; (with_reducible refine (impl_GcdOf.calls k1 x3_1 (rd l0 x8_1) t333 _ A5.out).mono ?_); rintro e w6 ⟨rfl, hb⟩; refine ⟨_, rfl, ?_⟩; replace HB := bo_ HB hb; (try clear hb)))
   go_roundg k1
   case measure => have := HK1.out; omega
   case rel => exact ⟨(t333), (wrap64 (x8_1 + 1)), rs_, rs_, H', ⟨by have := HK1.out; omega⟩, ⟨bl_ HB.out⟩⟩
mutual
def impl_leasts.l0 : Nat → List Int → Int → List Int → Int → Int → Option (List Int)
 | 0, _, _, _, _, _ => none
 | k + 1, x0, x1, x5, x16, x17 => if x17 < x16 then (if 0 ≤ x17 then (if x17 < (x5.length : Int) then (impl_leasts.l0 k x0 x1 (x5.set (x17 : Int).toNat (-1)) x16 (wrap64 (x17 + 1))) else (none)) else (none)) else (if 0 < (x5.length : Int) then (impl_leasts.l1 k x0 x1 (x5.set (0 : Int).toNat 0) true) else (none))
def impl_leasts.l1 : Nat → List Int → Int → List Int → Bool → Option (List Int)
 | 0, _, _, _, _ => none
 | k + 1, x0, x1, x5, x7 => if x7 = true then (impl_leasts.l2 k x0 x1 x5 false (x5.length : Int) 0) else (some x5)
def impl_leasts.l2 : Nat → List Int → Int → List Int → Bool → Int → Int → Option (List Int)
 | 0, _, _, _, _, _, _ => none
 | k + 1, x0, x1, x5, x7, x28, x29 => if x29 < x28 then (if 0 ≤ x29 then (if x29 < (x5.length : Int) then (if (rd x5 x29) < 0 then (impl_leasts.l2 k x0 x1 x5 x7 x28 (wrap64 (x29 + 1))) else (impl_leasts.l3 k x0 x1 x5 x7 x29 (rd x5 x29) x28 x29 x0 (x0.length : Int) 0)) else (none)) else (none)) else (impl_leasts.l1 k x0 x1 x5 x7)
def impl_leasts.l3 : Nat → List Int → Int → List Int → Bool → Int → Int → Int → Int → List Int → Int → Int → Option (List Int)
 | 0, _, _, _, _, _, _, _, _, _, _, _ => none
 | k + 1, x0, x1, x5, x7, x8, x9, x28, x29, x36, x37, x38 => if x38 < x37 then (if 0 ≤ x38 then (if x38 < (x36.length : Int) then (if x1 = 0 then (none) else (if 0 ≤ (Int.tmod (wrap64 (x8 + (rd x36 x38))) x1) then (if (Int.tmod (wrap64 (x8 + (rd x36 x38))) x1) < (x5.length : Int) then (if (rd x5 (Int.tmod (wrap64 (x8 + (rd x36 x38))) x1)) < 0 then (impl_leasts.l3 k x0 x1 (x5.set ((Int.tmod (wrap64 (x8 + (rd x36 x38))) x1) : Int).toNat (wrap64 (x9 + (rd x36 x38)))) true x8 x9 x28 x29 x36 x37 (wrap64 (x38 + 1))) else (if (wrap64 (x9 + (rd x36 x38))) < (rd x5 (Int.tmod (wrap64 (x8 + (rd x36 x38))) x1)) then (impl_leasts.l3 k x0 x1 (x5.set ((Int.tmod (wrap64 (x8 + (rd x36 x38))) x1) : Int).toNat (wrap64 (x9 + (rd x36 x38)))) true x8 x9 x28 x29 x36 x37 (wrap64 (x38 + 1))) else (impl_leasts.l3 k x0 x1 x5 x7 x8 x9 x28 x29 x36 x37 (wrap64 (x38 + 1))))) else (none)) else (none))) else (none)) else (none)) else (impl_leasts.l2 k x0 x1 x5 x7 x28 (wrap64 (x29 + 1)))
end
def impl_leasts.f (k : Nat) (l0 : List Int) (a1 : Int) : Option (List Int) := if 0 ≤ a1 then (if (a1 : Int).toNat ≤ 35184372088832 then ((some (List.replicate (a1 : Int).toNat 0 : List Int)).bind fun y334 => (impl_leasts.l0 k l0 a1 y334 (y334.length : Int) 0)) else (none)) else (none)
theorem impl_leasts.calls (k : Nat) (A0 : Option Addr) (c0 : Nat) (l0 : List Int) (a1 : Int) (r : List Int) (w : World) (hr0 : Kd.C (Kd.int .i64) w A0 l0.length l0) (hc0 : l0.length ≤ c0) (h : impl_leasts.f k l0 a1 = some r) :
 Calls Try.prog 59 #[.slice A0 l0.length c0, .int .i64 a1] w fun e w' => ∃ v0_ : Value, e = .returned (v0_) ∧ Kd.R (Kd.int .i64) 3 w' w.heap.size (fun _ => True) v0_ r ∧ Below w.heap.size w w' := by
 have HR0 := Aside0.mk hr0
 have HC0 := Aside0.mk hc0
 clear hr0 hc0
 have HB := Aside0.mk (Below.refl w.heap.size w)
 have H := h
 clear h
 unfold impl_leasts.f at H
 obtain ⟨c3, H⟩ := ip_ H
 have c3b0 := eq_true c3
 have c3b1 : decide (0 ≤ a1) = true := decide_eq_true c3
 clear c3
 obtain ⟨c4, H⟩ := ip_ H
 have c4b0 := eq_true c4
 have c4b1 : decide ((a1 : Int).toNat ≤ 35184372088832) = true := decide_eq_true c4
 clear c4
 obtain ⟨y334, hy334⟩ : ∃ y_ : List Int, y_ = (List.replicate (a1 : Int).toNat 0) := ⟨_, rfl⟩
 replace H : (impl_leasts.l0 k l0 a1 y334 (y334.length : Int) 0) = some r := by subst hy334; exact H
 have Ny334 := Aside0.mk hy334
 clear hy334
 have H' := Aside0.mk H
 clear H
 go_enter Try.func59, Try.ntmps59
 go_wp2_with (first | ((with_reducible refine gate_dst (N := 14) rfl ?_); refine Kd.R_make (Kd.int .i64) _ 3 rfl (N := 14) rfl 24 _ _ rfl a1 rfl rfl Try.underlying24 (.int .i64 0) 8 info3 rfl (by decide) (by omega) 0 (ok := fun _ => True) (okp := fun _ => True) rfl (fun _ hk => hk) trivial (od_) (Nat.le_trans (Nat.mul_le_mul_right _ (od_ : a1.toNat ≤ 35184372088832)) (by omega)) (Below.refl _ _) (Nat.le_refl _) ?_; intro v335 w5 ho6 hb hg_ hnew_; clear hg_ hnew_; (first | rw [← Ny334.out] at ho6 | (simp only [Int.reduceToNat] at ho6; rw [← Ny334.out] at ho6)); have HO336 := Aside0.mk (Kd.R_lower ho6 (below_size (bl_ HB.out))); replace HB := bo_ HB hb; clear hb ho6; obtain ⟨Ao7, co7, eo7⟩ := Kd.R_slice HO336.out; subst eo7))
 go_loopg [17] k (fun kq v17 w' => ∃ (x5_1 : List Int) (x17_1 : Int), v17 = .int .i64 x17_1 ∧ Aside0 (impl_leasts.l0 kq l0 a1 x5_1 (y334.length : Int) x17_1 = some r) ∧ Aside0 (kq ≤ k) ∧ Aside0 (Kd.R (Kd.int .i64) 3 w' w.heap.size (fun _ => True) (.slice Ao7 y334.length co7) x5_1) ∧ Aside0 (Below w.heap.size w w'))
 case atStart => exact ⟨(y334), (0), rs_, H', ⟨Nat.le_refl _⟩, ⟨re_ HO336.out⟩, ⟨bl_ HB.out⟩⟩
 case round =>
  clear H'
  try clear c3b0
  try clear c3b1
  try clear c4b0
  try clear c4b1
  obtain ⟨x5_1, x17_1, rfl, HA, HK1, HO_5, HB⟩ := hrel
  have hl5_1 := (Kd.R_reads' HO_5.out).1
  rw [hl5_1] at HO_5
  (try simp only [hl5_1])
  cases gk with
  | zero => exact absurd HA.out (by simp [impl_leasts.l0])
  | succ k1 =>
   have H := HA.out
   clear HA
   simp only [impl_leasts.l0] at H
   by_cases c8 : x17_1 < (y334.length : Int)
   · rw [if_pos c8] at H
     have c8b0 : decide (x17_1 < (y334.length : Int)) = true := decide_eq_true c8
     (try (have c8h := c8b0; simp only [hl5_1] at c8h))
     clear c8
     obtain ⟨c9b0, H⟩ := ipd_ H
     obtain ⟨c10, H⟩ := ip_ H
     have c10b0 : decide (x17_1 < (x5_1.length : Int)) = true := decide_eq_true c10
     (try (have c10h := c10b0; simp only [hl5_1] at c10h))
     clear c10
     obtain ⟨y337, hy337⟩ : ∃ y_ : List Int, y_ = (x5_1.set (x17_1 : Int).toNat (-1)) := ⟨_, rfl⟩
     replace H : (impl_leasts.l0 k1 l0 a1 y337 (y334.length : Int) (wrap64 (x17_1 + 1))) = some r := by subst hy337; exact H
     have Ny337 := Aside0.mk hy337
     clear hy337
     have H' := Aside0.mk H
     clear H
     have p11 : 0 ≤ (x17_1 : Int) := od_
     have q11 : (x17_1 : Int) < ((x5_1.length : Int) : Int) := od_
     obtain ⟨go11, co11, eo11, gb11, gl11, cl11, HG11⟩ := Kd.R_form HO_5.out (by omega)
     (first | cases eo11 | (injection eo11 with ea_ en_ ec_; (first | subst ea_ | (injection ea_ with ea_; subst ea_)); subst ec_; clear en_))
     have GB11 := Aside0.mk gb11
     have GG11 := Aside0.mk HG11
     clear gb11 gl11 HG11
     obtain ⟨hx11_0, hf11_0⟩ := Kd.R_celln 0 HO_5.out (x17_1 : Int) p11 q11
     replace p11 := eq_true p11
     replace q11 := eq_true q11
     have HP12 := Kd.R_putg HO_5.out (x17_1 : Int) (-1)
     go_wp2_with (first | ((with_reducible refine gate_store (t := 3) (p := 22) rfl ?_); refine store_event (t := 3) (p := 22) (v := ?vo_w13) (w1 := (wr.setCell ⟨go11, (x17_1 : Int).toNat, none⟩ (.int .i64 (-1)))) ?hg ?ho ?hn ?hr ?_; (case ho => rfl); (case hg => rfl); (case hn => rfl); (case hr => first | (go_simp; done) | (go_simp; rfl)); intro w13 hw; have hg : wr.grownBy w13 (some go11) := (by rw [hw]; exact HP12.2); have hp_ : Kd.R (Kd.int .i64) 3 w13 w.heap.size (fun _ => True) (.slice (some ⟨go11, 0, none⟩) x5_1.length co7) y337 := (by rw [hw, Ny337.out]; exact HP12.1); clear HP12; replace HO_5 := Aside0.mk (hp_); replace HB := Aside0.mk ((by rw [hw]; exact below_set (HB.out) GB11.out : Below w.heap.size w w13)); clear hg hw hp_))
     (try simp only [← hl5_1])
     go_roundg k1
     case measure => have := HK1.out; omega
     case rel => exact ⟨(y337), (wrap64 (x17_1 + 1)), rs_, H', ⟨by have := HK1.out; omega⟩, ⟨by (try simp only [hl5_1]); (with_reducible repeat (first | apply Kd.R_alloc | apply Kd.R_drewN | apply Kd.R_drew)); exact HO_5.out⟩, ⟨bl_ HB.out⟩⟩
   rw [if_neg c8] at H
   have c8b0 : decide (x17_1 < (y334.length : Int)) = false := decide_eq_false c8
   (try (have c8h := c8b0; simp only [hl5_1] at c8h))
   clear c8
   obtain ⟨c14, H⟩ := ip_ H
   have c14b0 : decide (0 < (x5_1.length : Int)) = true := decide_eq_true c14
   have c14b1 : decide (0 < x5_1.length) = true := decide_eq_true (by omega)
   (try (have c14h := c14b0; simp only [hl5_1] at c14h))
   clear c14
   obtain ⟨y338, hy338⟩ : ∃ y_ : List Int, y_ = (x5_1.set (0 : Int).toNat 0) := ⟨_, rfl⟩
   replace H : (impl_leasts.l1 k1 l0 a1 y338 true) = some r := by subst hy338; exact H
   have Ny338 := Aside0.mk hy338
   clear hy338
   have H' := Aside0.mk H
   clear H
   have p15 : 0 ≤ (0 : Int) := (by omega)
   have q15 : (0 : Int) < ((x5_1.length : Int) : Int) := od_
   have qi15 : (0 < x5_1.length) = True := eq_true (by omega)
   obtain ⟨go15, co15, eo15, gb15, gl15, cl15, HG15⟩ := Kd.R_form HO_5.out (by omega)
   (first | cases eo15 | (injection eo15 with ea_ en_ ec_; (first | subst ea_ | (injection ea_ with ea_; subst ea_)); subst ec_; clear en_))
   have GB15 := Aside0.mk gb15
   have GG15 := Aside0.mk HG15
   clear gb15 gl15 HG15
   obtain ⟨hx15_0, hf15_0⟩ := Kd.R_celln 0 HO_5.out (0 : Int) p15 q15
   (try rw [show ((0 : Int)).toNat = 0 from rfl] at hx15_0)
   (try simp only [Nat.reduceMul, Nat.zero_mul, Nat.zero_add, Nat.reduceAdd] at hx15_0)
   (try rw [show ((0 : Int)).toNat = 0 from rfl] at hf15_0)
   (try simp only [Nat.reduceMul, Nat.zero_mul, Nat.zero_add, Nat.reduceAdd] at hf15_0)
   replace p15 := eq_true p15
   replace q15 := eq_true q15
   have HP16 := Kd.R_putg HO_5.out (0 : Int) 0
   go_wp2_with (first | ((with_reducible refine gate_store (t := 3) (p := 25) rfl ?_); refine store_event (t := 3) (p := 25) (v := ?vo_w17) (w1 := (wr.setCell ⟨go15, (0 : Int).toNat, none⟩ (.int .i64 0))) ?hg ?ho ?hn ?hr ?_; (case ho => rfl); (case hg => rfl); (case hn => rfl); (case hr => first | (go_simp; done) | (go_simp; rfl)); intro w17 hw; have hg : wr.grownBy w17 (some go15) := (by rw [hw]; exact HP16.2); have hp_ : Kd.R (Kd.int .i64) 3 w17 w.heap.size (fun _ => True) (.slice (some ⟨go15, 0, none⟩) x5_1.length co7) y338 := (by rw [hw, Ny338.out]; exact HP16.1); clear HP16; replace HO_5 := Aside0.mk (hp_); replace HB := Aside0.mk ((by rw [hw]; exact below_set (HB.out) GB15.out : Below w.heap.size w w17)); clear hg hw hp_))
   go_loopg [7] k1 (fun kq v7 w' => ∃ (x5_2 : List Int) (x7_2 : Bool), v7 = .bool x7_2 ∧ Aside0 (impl_leasts.l1 kq l0 a1 x5_2 x7_2 = some r) ∧ Aside0 (kq ≤ k1) ∧ Aside0 (Kd.R (Kd.int .i64) 3 w' w.heap.size (fun _ => True) (.slice (some ⟨go15, 0, none⟩) x5_1.length co7) x5_2) ∧ Aside0 (Below w.heap.size w w'))
   case atStart => exact ⟨(y338), (true), rs_, H', ⟨Nat.le_refl _⟩, ⟨by (try simp only [hl5_1]); (with_reducible repeat (first | apply Kd.R_alloc | apply Kd.R_drewN | apply Kd.R_drew)); exact HO_5.out⟩, ⟨bl_ HB.out⟩⟩
   case round =>
    clear H'
    try clear c8b0
    try clear c14b0
    try clear c14b1
    try clear p15
    try clear q15
    try clear qi15
    try clear hx15_0
    obtain ⟨x5_2, x7_2, rfl, HA, HK2, HO_5, HB⟩ := hrel
    have hl5_2 := (Kd.R_reads' HO_5.out).1
    rw [hl5_2] at HO_5
    (try simp only [hl5_2])
    cases gk with
    | zero => exact absurd HA.out (by simp [impl_leasts.l1])
    | succ k2 =>
     have H := HA.out
     clear HA
     simp only [impl_leasts.l1] at H
     by_cases c18 : x7_2 = true
     rotate_left
     · replace c18 := Bool.eq_false_iff.mpr c18
       subst c18
       rw [if_neg (show ¬ (false = true) by decide)] at H
       obtain rfl := Option.some.inj H
       go_wp2
       go_ret
       exact ⟨_, rf_, re_ HO_5.out, bl_ HB.out⟩
     subst c18
     rw [if_pos rfl] at H
     have H' := Aside0.mk H
     clear H
     go_wp2
     go_loopg [7, 29] k2 (fun kq v7 v29 w' => ∃ (x5_3 : List Int) (x7_3 : Bool) (x29_3 : Int), v7 = .bool x7_3 ∧ v29 = .int .i64 x29_3 ∧ Aside0 (impl_leasts.l2 kq l0 a1 x5_3 x7_3 (x5_2.length : Int) x29_3 = some r) ∧ Aside0 (kq ≤ k2) ∧ Aside0 (Kd.R (Kd.int .i64) 3 w' w.heap.size (fun _ => True) (.slice (some ⟨go15, 0, none⟩) x5_2.length co7) x5_3) ∧ Aside0 (Below w.heap.size w w'))
     case atStart => exact ⟨(x5_2), (false), (0), rs_, rs_, H', ⟨Nat.le_refl _⟩, ⟨by (try simp only [hl5_1]); (try simp only [hl5_2]); (with_reducible repeat (first | apply Kd.R_alloc | apply Kd.R_drewN | apply Kd.R_drew)); exact HO_5.out⟩, ⟨bl_ HB.out⟩⟩
     case round =>
      clear H'
      obtain ⟨x5_3, x7_3, x29_3, rfl, rfl, HA, HK3, HO_5, HB⟩ := hrel
      have hl5_3 := (Kd.R_reads' HO_5.out).1
      rw [hl5_3] at HO_5
      (try simp only [hl5_3])
      cases gk with
      | zero => exact absurd HA.out (by simp [impl_leasts.l2])
      | succ k3 =>
       have H := HA.out
       clear HA
       simp only [impl_leasts.l2] at H
       by_cases c19 : x29_3 < (x5_2.length : Int)
       rotate_left
       · rw [if_neg c19] at H
         have c19b0 : decide (x29_3 < (x5_2.length : Int)) = false := decide_eq_false c19
         (try (have c19h := c19b0; simp only [hl5_1, hl5_2, hl5_3] at c19h))
         clear c19
         have H' := Aside0.mk H
         clear H
         go_wp2
         (try simp only [← hl5_2, ← hl5_3])
         go_roundg k3
         case measure => have := HK1.out; have := HK2.out; have := HK3.out; omega
         case rel => exact ⟨(x5_3), (x7_3), rs_, H', ⟨by have := HK1.out; have := HK2.out; have := HK3.out; omega⟩, ⟨by (try simp only [hl5_1]); (try simp only [hl5_2]); (try simp only [hl5_3]); (with_reducible repeat (first | apply Kd.R_alloc | apply Kd.R_drewN | apply Kd.R_drew)); exact HO_5.out⟩, ⟨bl_ HB.out⟩⟩
       rw [if_pos c19] at H
       have c19b0 : decide (x29_3 < (x5_2.length : Int)) = true := decide_eq_true c19
       (try (have c19h := c19b0; simp only [hl5_1, hl5_2, hl5_3] at c19h))
       clear c19
       obtain ⟨c20b0, H⟩ := ipd_ H
       obtain ⟨c21, H⟩ := ip_ H
       have c21b0 : decide (x29_3 < (x5_3.length : Int)) = true := decide_eq_true c21
       (try (have c21h := c21b0; simp only [hl5_1, hl5_2, hl5_3] at c21h))
       clear c21
       by_cases c22 : (rd x5_3 x29_3) < 0
       · rw [if_pos c22] at H
         have c22b0 : decide ((rd x5_3 x29_3) < 0) = true := decide_eq_true c22
         clear c22
         have H' := Aside0.mk H
         clear H
         have p339 : 0 ≤ (x29_3 : Int) := od_
         have q339 : x29_3 < (x5_3.length : Int) := od_
         obtain ⟨ad339, e339, hx339_0⟩ := Kd.at_int (Kd.R_reads' HO_5.out).2.2 x29_3 p339 q339
         obtain rfl : (⟨go15, 0, none⟩ : Addr) = ad339 := (by injection e339)
         (first | simp only [add_plain] at hx339_0 | simp only [add_at] at hx339_0 | simp only [Addr.add, Nat.zero_add] at hx339_0 | skip)
         replace p339 := eq_true p339
         replace q339 := eq_true q339
         go_wp2
         (try simp only [← hl5_3])
         go_roundg k3
         case measure => have := HK1.out; have := HK2.out; have := HK3.out; omega
         case rel => exact ⟨(x5_3), (x7_3), (wrap64 (x29_3 + 1)), rs_, rs_, H', ⟨by have := HK1.out; have := HK2.out; have := HK3.out; omega⟩, ⟨by (try simp only [hl5_1]); (try simp only [hl5_2]); (try simp only [hl5_3]); (with_reducible repeat (first | apply Kd.R_alloc | apply Kd.R_drewN | apply Kd.R_drew)); exact HO_5.out⟩, ⟨bl_ HB.out⟩⟩
       rw [if_neg c22] at H
       have c22b0 : decide ((rd x5_3 x29_3) < 0) = false := decide_eq_false c22
       clear c22
       have H' := Aside0.mk H
       clear H
       have p339 : 0 ≤ (x29_3 : Int) := od_
       have q339 : x29_3 < (x5_3.length : Int) := od_
       obtain ⟨ad339, e339, hx339_0⟩ := Kd.at_int (Kd.R_reads' HO_5.out).2.2 x29_3 p339 q339
       obtain rfl : (⟨go15, 0, none⟩ : Addr) = ad339 := (by injection e339)
       (first | simp only [add_plain] at hx339_0 | simp only [add_at] at hx339_0 | simp only [Addr.add, Nat.zero_add] at hx339_0 | skip)
       replace p339 := eq_true p339
       replace q339 := eq_true q339
       go_wp2
       go_loopg [7, 38] k3 (fun kq v7 v38 w' => ∃ (x5_4 : List Int) (x7_4 : Bool) (x38_4 : Int), v7 = .bool x7_4 ∧ v38 = .int .i64 x38_4 ∧ Aside0 (impl_leasts.l3 kq l0 a1 x5_4 x7_4 x29_3 (rd x5_3 x29_3) (x5_2.length : Int) x29_3 l0 (l0.length : Int) x38_4 = some r) ∧ Aside0 (kq ≤ k3) ∧ Aside0 (Kd.R (Kd.int .i64) 3 w' w.heap.size (fun _ => True) (.slice (some ⟨go15, 0, none⟩) x5_3.length co7) x5_4) ∧ Aside0 (Below w.heap.size w w'))
       case atStart => exact ⟨(x5_3), (x7_3), (0), rs_, rs_, H', ⟨Nat.le_refl _⟩, ⟨by (try simp only [hl5_1]); (try simp only [hl5_2]); (try simp only [hl5_3]); (with_reducible repeat (first | apply Kd.R_alloc | apply Kd.R_drewN | apply Kd.R_drew)); exact HO_5.out⟩, ⟨bl_ HB.out⟩⟩
       case round =>
        clear H'
        try clear c19b0
        try clear c20b0
        try clear c21b0
        try clear c22b0
        try clear hx339_0
        try clear p339
        try clear q339
        obtain ⟨x5_4, x7_4, x38_4, rfl, rfl, HA, HK4, HO_5, HB⟩ := hrel
        have hl5_4 := (Kd.R_reads' HO_5.out).1
        rw [hl5_4] at HO_5
        (try simp only [hl5_4])
        cases gk with
        | zero => exact absurd HA.out (by simp [impl_leasts.l3])
        | succ k4 =>
         have H := HA.out
         clear HA
         simp only [impl_leasts.l3] at H
         by_cases c23 : x38_4 < (l0.length : Int)
         rotate_left
         · rw [if_neg c23] at H
           have c23b0 : decide (x38_4 < (l0.length : Int)) = false := decide_eq_false c23
           (try (have c23h := c23b0; simp only [hl5_1, hl5_2, hl5_3, hl5_4] at c23h))
           clear c23
           have H' := Aside0.mk H
           clear H
           go_wp2
           (try simp only [← hl5_3, ← hl5_4])
           go_roundg k4
           case measure => have := HK1.out; have := HK2.out; have := HK3.out; have := HK4.out; omega
           case rel => exact ⟨(x5_4), (x7_4), (wrap64 (x29_3 + 1)), rs_, rs_, H', ⟨by have := HK1.out; have := HK2.out; have := HK3.out; have := HK4.out; omega⟩, ⟨by (try simp only [hl5_1]); (try simp only [hl5_2]); (try simp only [hl5_3]); (try simp only [hl5_4]); (with_reducible repeat (first | apply Kd.R_alloc | apply Kd.R_drewN | apply Kd.R_drew)); exact HO_5.out⟩, ⟨bl_ HB.out⟩⟩
         rw [if_pos c23] at H
         have c23b0 : decide (x38_4 < (l0.length : Int)) = true := decide_eq_true c23
         (try (have c23h := c23b0; simp only [hl5_1, hl5_2, hl5_3, hl5_4] at c23h))
         clear c23
         obtain ⟨c24b0, H⟩ := ipd_ H
         obtain ⟨c25, H⟩ := ip_ H
         have c25b0 : decide (x38_4 < (l0.length : Int)) = true := decide_eq_true c25
         (try (have c25h := c25b0; simp only [hl5_1, hl5_2, hl5_3, hl5_4] at c25h))
         clear c25
         obtain ⟨c26, H⟩ := in_ H
         have c26b0 : (a1 == 0) = false := beq_eq_false_iff_ne.mpr c26
         have c26b1 : (a1 != 0) = true := bne_iff_ne.mpr c26
         obtain ⟨ji27, hji27⟩ : ∃ j_ : Int, (Int.tmod (wrap64 (x29_3 + (rd l0 x38_4))) a1) = j_ := ⟨_, rfl⟩
         replace H : (if 0 ≤ (ji27) then (if (ji27) < (x5_4.length : Int) then (if (rd x5_4 (ji27)) < 0 then (impl_leasts.l3 k4 l0 a1 (x5_4.set ((ji27) : Int).toNat (wrap64 ((rd x5_3 x29_3) + (rd l0 x38_4)))) true x29_3 (rd x5_3 x29_3) (x5_2.length : Int) x29_3 l0 (l0.length : Int) (wrap64 (x38_4 + 1))) else (if (wrap64 ((rd x5_3 x29_3) + (rd l0 x38_4))) < (rd x5_4 (ji27)) then (impl_leasts.l3 k4 l0 a1 (x5_4.set ((ji27) : Int).toNat (wrap64 ((rd x5_3 x29_3) + (rd l0 x38_4)))) true x29_3 (rd x5_3 x29_3) (x5_2.length : Int) x29_3 l0 (l0.length : Int) (wrap64 (x38_4 + 1))) else (impl_leasts.l3 k4 l0 a1 x5_4 x7_4 x29_3 (rd x5_3 x29_3) (x5_2.length : Int) x29_3 l0 (l0.length : Int) (wrap64 (x38_4 + 1))))) else (none)) else (none)) = some r := by first | (rw [hji27] at H; exact H) | (simp only [hji27] at H ⊢; exact H)
         obtain ⟨c28b0, H⟩ := ipd_ H
         obtain ⟨c29, H⟩ := ip_ H
         have c29b0 : decide ((ji27) < (x5_4.length : Int)) = true := decide_eq_true c29
         (try (have c29h := c29b0; simp only [hl5_1, hl5_2, hl5_3, hl5_4] at c29h))
         clear c29
         by_cases c30 : (rd x5_4 (ji27)) < 0
         · rw [if_pos c30] at H
           have c30b0 : decide ((rd x5_4 (ji27)) < 0) = true := decide_eq_true c30
           clear c30
           obtain ⟨y342, hy342⟩ : ∃ y_ : List Int, y_ = (x5_4.set ((ji27) : Int).toNat (wrap64 ((rd x5_3 x29_3) + (rd l0 x38_4)))) := ⟨_, rfl⟩
           replace H : (impl_leasts.l3 k4 l0 a1 y342 true x29_3 (rd x5_3 x29_3) (x5_2.length : Int) x29_3 l0 (l0.length : Int) (wrap64 (x38_4 + 1))) = some r := by subst hy342; exact H
           have Ny342 := Aside0.mk hy342
           clear hy342
           have H' := Aside0.mk H
           clear H
           have p340 : 0 ≤ (x38_4 : Int) := od_
           have q340 : x38_4 < (l0.length : Int) := od_
           obtain ⟨ad340, e340, hx340_0⟩ := Kd.at_int HR0.out x38_4 p340 q340
           cases e340
           (try replace hx340_0 := (HB.out.cell (World.block_lt_of_cell? w _ hx340_0)).trans hx340_0)
           replace p340 := eq_true p340
           replace q340 := eq_true q340
           have p341 : 0 ≤ ((ji27) : Int) := od_
           have q341 : (ji27) < (x5_4.length : Int) := od_
           obtain ⟨ad341, e341, hx341_0⟩ := Kd.at_int (Kd.R_reads' HO_5.out).2.2 (ji27) p341 q341
           obtain rfl : (⟨go15, 0, none⟩ : Addr) = ad341 := (by injection e341)
           (first | simp only [add_plain] at hx341_0 | simp only [add_at] at hx341_0 | simp only [Addr.add, Nat.zero_add] at hx341_0 | skip)
           replace p341 := eq_true p341
           replace q341 := eq_true q341
           have p31 : 0 ≤ ((ji27) : Int) := od_
           have q31 : ((ji27) : Int) < ((x5_4.length : Int) : Int) := od_
           obtain ⟨hx31_0, hf31_0⟩ := Kd.R_celln 0 HO_5.out ((ji27) : Int) p31 q31
           replace p31 := eq_true p31
           replace q31 := eq_true q31
           have HP32 := Kd.R_putg HO_5.out ((ji27) : Int) (wrap64 ((rd x5_3 x29_3) + (rd l0 x38_4)))
           go_wp2_with (first | ((with_reducible refine gate_store (t := 3) (p := 67) rfl ?_); refine store_event (t := 3) (p := 67) (v := ?vo_w33) (w1 := (wr.setCell ⟨go15, ((ji27) : Int).toNat, none⟩ (.int .i64 (wrap64 ((rd x5_3 x29_3) + (rd l0 x38_4)))))) ?hg ?ho ?hn ?hr ?_; (case ho => rfl); (case hg => rfl); (case hn => rfl); (case hr => first | (go_simp; done) | (go_simp; rfl)); intro w33 hw; have hg : wr.grownBy w33 (some go15) := (by rw [hw]; exact HP32.2); have hp_ : Kd.R (Kd.int .i64) 3 w33 w.heap.size (fun _ => True) (.slice (some ⟨go15, 0, none⟩) x5_4.length co7) y342 := (by rw [hw, Ny342.out]; exact HP32.1); clear HP32; replace HO_5 := Aside0.mk (hp_); replace HB := Aside0.mk ((by rw [hw]; exact below_set (HB.out) GB15.out : Below w.heap.size w w33)); clear hg hw hp_))
           (try simp only [← hl5_4])
           go_roundg k4
           case measure => have := HK1.out; have := HK2.out; have := HK3.out; have := HK4.out; omega
           case rel => exact ⟨(y342), (true), (wrap64 (x38_4 + 1)), rs_, rs_, H', ⟨by have := HK1.out; have := HK2.out; have := HK3.out; have := HK4.out; omega⟩, ⟨by (try simp only [hl5_1]); (try simp only [hl5_2]); (try simp only [hl5_3]); (try simp only [hl5_4]); (with_reducible repeat (first | apply Kd.R_alloc | apply Kd.R_drewN | apply Kd.R_drew)); exact HO_5.out⟩, ⟨bl_ HB.out⟩⟩
         rw [if_neg c30] at H
         have c30b0 : decide ((rd x5_4 (ji27)) < 0) = false := decide_eq_false c30
         clear c30
         by_cases c34 : (wrap64 ((rd x5_3 x29_3) + (rd l0 x38_4))) < (rd x5_4 (ji27))
         rotate_left
         · rw [if_neg c34] at H
           have c34b0 : decide ((wrap64 ((rd x5_3 x29_3) + (rd l0 x38_4))) < (rd x5_4 (ji27))) = false := decide_eq_false c34
           clear c34
           have H' := Aside0.mk H
           clear H
           have p340 : 0 ≤ (x38_4 : Int) := od_
           have q340 : x38_4 < (l0.length : Int) := od_
           obtain ⟨ad340, e340, hx340_0⟩ := Kd.at_int HR0.out x38_4 p340 q340
           cases e340
           (try replace hx340_0 := (HB.out.cell (World.block_lt_of_cell? w _ hx340_0)).trans hx340_0)
           replace p340 := eq_true p340
           replace q340 := eq_true q340
           have p341 : 0 ≤ ((ji27) : Int) := od_
           have q341 : (ji27) < (x5_4.length : Int) := od_
           obtain ⟨ad341, e341, hx341_0⟩ := Kd.at_int (Kd.R_reads' HO_5.out).2.2 (ji27) p341 q341
           obtain rfl : (⟨go15, 0, none⟩ : Addr) = ad341 := (by injection e341)
           (first | simp only [add_plain] at hx341_0 | simp only [add_at] at hx341_0 | simp only [Addr.add, Nat.zero_add] at hx341_0 | skip)
           replace p341 := eq_true p341
           replace q341 := eq_true q341
           have p343 : 0 ≤ ((ji27) : Int) := od_
           have q343 : (ji27) < (x5_4.length : Int) := od_
           obtain ⟨ad343, e343, hx343_0⟩ := Kd.at_int (Kd.R_reads' HO_5.out).2.2 (ji27) p343 q343
           obtain rfl : (⟨go15, 0, none⟩ : Addr) = ad343 := (by injection e343)
           (first | simp only [add_plain] at hx343_0 | simp only [add_at] at hx343_0 | simp only [Addr.add, Nat.zero_add] at hx343_0 | skip)
           replace p343 := eq_true p343
           replace q343 := eq_true q343
           go_wp2
           (try simp only [← hl5_4])
           go_roundg k4
           case measure => have := HK1.out; have := HK2.out; have := HK3.out; have := HK4.out; omega
           case rel => exact ⟨(x5_4), (x7_4), (wrap64 (x38_4 + 1)), rs_, rs_, H', ⟨by have := HK1.out; have := HK2.out; have := HK3.out; have := HK4.out; omega⟩, ⟨by (try simp only [hl5_1]); (try simp only [hl5_2]); (try simp only [hl5_3]); (try simp only [hl5_4]); (with_reducible repeat (first | apply Kd.R_alloc | apply Kd.R_drewN | apply Kd.R_drew)); exact HO_5.out⟩, ⟨bl_ HB.out⟩⟩
         rw [if_pos c34] at H
         have c34b0 : decide ((wrap64 ((rd x5_3 x29_3) + (rd l0 x38_4))) < (rd x5_4 (ji27))) = true := decide_eq_true c34
         clear c34
         obtain ⟨y344, hy344⟩ : ∃ y_ : List Int, y_ = (x5_4.set ((ji27) : Int).toNat (wrap64 ((rd x5_3 x29_3) + (rd l0 x38_4)))) := ⟨_, rfl⟩
         replace H : (impl_leasts.l3 k4 l0 a1 y344 true x29_3 (rd x5_3 x29_3) (x5_2.length : Int) x29_3 l0 (l0.length : Int) (wrap64 (x38_4 + 1))) = some r := by subst hy344; exact H
         have Ny344 := Aside0.mk hy344
         clear hy344
         have H' := Aside0.mk H
         clear H
         have p340 : 0 ≤ (x38_4 : Int) := od_
         have q340 : x38_4 < (l0.length : Int) := od_
         obtain ⟨ad340, e340, hx340_0⟩ := Kd.at_int HR0.out x38_4 p340 q340
         cases e340
         (try replace hx340_0 := (HB.out.cell (World.block_lt_of_cell? w _ hx340_0)).trans hx340_0)
         replace p340 := eq_true p340
         replace q340 := eq_true q340
         have p341 : 0 ≤ ((ji27) : Int) := od_
         have q341 : (ji27) < (x5_4.length : Int) := od_
         obtain ⟨ad341, e341, hx341_0⟩ := Kd.at_int (Kd.R_reads' HO_5.out).2.2 (ji27) p341 q341
         obtain rfl : (⟨go15, 0, none⟩ : Addr) = ad341 := (by injection e341)
         (first | simp only [add_plain] at hx341_0 | simp only [add_at] at hx341_0 | simp only [Addr.add, Nat.zero_add] at hx341_0 | skip)
         replace p341 := eq_true p341
         replace q341 := eq_true q341
         have p343 : 0 ≤ ((ji27) : Int) := od_
         have q343 : (ji27) < (x5_4.length : Int) := od_
         obtain ⟨ad343, e343, hx343_0⟩ := Kd.at_int (Kd.R_reads' HO_5.out).2.2 (ji27) p343 q343
         obtain rfl : (⟨go15, 0, none⟩ : Addr) = ad343 := (by injection e343)
         (first | simp only [add_plain] at hx343_0 | simp only [add_at] at hx343_0 | simp only [Addr.add, Nat.zero_add] at hx343_0 | skip)
         replace p343 := eq_true p343
         replace q343 := eq_true q343
         have p35 : 0 ≤ ((ji27) : Int) := od_
         have q35 : ((ji27) : Int) < ((x5_4.length : Int) : Int) := od_
         obtain ⟨hx35_0, hf35_0⟩ := Kd.R_celln 0 HO_5.out ((ji27) : Int) p35 q35
         replace p35 := eq_true p35
         replace q35 := eq_true q35
         have HP36 := Kd.R_putg HO_5.out ((ji27) : Int) (wrap64 ((rd x5_3 x29_3) + (rd l0 x38_4)))
         go_wp2_with (first | ((with_reducible refine gate_store (t := 3) (p := 67) rfl ?_); refine store_event (t := 3) (p := 67) (v := ?vo_w37) (w1 := (wr.setCell ⟨go15, ((ji27) : Int).toNat, none⟩ (.int .i64 (wrap64 ((rd x5_3 x29_3) + (rd l0 x38_4)))))) ?hg ?ho ?hn ?hr ?_; (case ho => rfl); (case hg => rfl); (case hn => rfl); (case hr => first | (go_simp; done) | (go_simp; rfl)); intro w37 hw; have hg : wr.grownBy w37 (some go15) := (by rw [hw]; exact HP36.2); have hp_ : Kd.R (Kd.int .i64) 3 w37 w.heap.size (fun _ => True) (.slice (some ⟨go15, 0, none⟩) x5_4.length co7) y344 := (by rw [hw, Ny344.out]; exact HP36.1); clear HP36; replace HO_5 := Aside0.mk (hp_); replace HB := Aside0.mk ((by rw [hw]; exact below_set (HB.out) GB15.out : Below w.heap.size w w37)); clear hg hw hp_))
         (try simp only [← hl5_4])
         go_roundg k4
         case measure => have := HK1.out; have := HK2.out; have := HK3.out; have := HK4.out; omega
         case rel => exact ⟨(y344), (true), (wrap64 (x38_4 + 1)), rs_, rs_, H', ⟨by have := HK1.out; have := HK2.out; have := HK3.out; have := HK4.out; omega⟩, ⟨by (try simp only [hl5_1]); (try simp only [hl5_2]); (try simp only [hl5_3]); (try simp only [hl5_4]); (with_reducible repeat (first | apply Kd.R_alloc | apply Kd.R_drewN | apply Kd.R_drew)); exact HO_5.out⟩, ⟨bl_ HB.out⟩⟩
def impl_usable.f (k : Nat) (l0 : List Int) : Option (Bool) := (impl_within.f (l0.length : Int) 1 20).bind fun t345 => (if t345 = true then ((impl_allWithin.f k l0 1 60).bind fun t346 => (some t346)) else (some false))
theorem impl_usable.calls (k : Nat) (A0 : Option Addr) (c0 : Nat) (l0 : List Int) (r : Bool) (w : World) (hr0 : Kd.C (Kd.int .i64) w A0 l0.length l0) (hc0 : l0.length ≤ c0) (h : impl_usable.f k l0 = some r) :
 Calls Try.prog 86 #[.slice A0 l0.length c0] w fun e w' => e = .returned (.bool r) ∧ Drawn0 w w' := by
 have HR0 := Aside0.mk hr0
 have HC0 := Aside0.mk hc0
 clear hr0 hc0
 have H := h
 clear h
 unfold impl_usable.f at H
 obtain ⟨t345, A2, H⟩ := ob_ H
 by_cases c3 : t345 = true
 rotate_left
 · replace c3 := Bool.eq_false_iff.mpr c3
   subst c3
   rw [if_neg (show ¬ (false = true) by decide)] at H
   obtain rfl := Option.some.inj H
   go_enter Try.func86, Try.ntmps86
   go_wp2_with (first | ((with_reducible refine gate_callee (f := 40) rfl ?_); refine gL_ (some 5) Try.func40 #[.int .i64 (l0.length : Int), .int .i64 1, .int .i64 20] ?_; (with_reducible refine (impl_within.calls (l0.length : Int) 1 20 false _ A2.out).mono ?_); rintro e w' ⟨rfl, ⟨nd, rfl⟩⟩; refine ⟨_, rfl, ?_⟩))
   go_ret
   exact ⟨by first | rfl | (simp; done) | (simp [*]; done), by repeat (first | exact Drawn0.refl _ | apply Drawn0.step)⟩
 subst c3
 rw [if_pos rfl] at H
 obtain ⟨t346, A4, H⟩ := ob_ H
 obtain rfl := Option.some.inj H
 go_enter Try.func86, Try.ntmps86
 go_wp2_with (first | ((with_reducible refine gate_callee (f := 40) rfl ?_); refine gL_ (some 5) Try.func40 #[.int .i64 (l0.length : Int), .int .i64 1, .int .i64 20] ?_; (with_reducible refine (impl_within.calls (l0.length : Int) 1 20 true _ A2.out).mono ?_); rintro e w' ⟨rfl, ⟨nd, rfl⟩⟩; refine ⟨_, rfl, ?_⟩) | (go_at_call 55; (with_reducible refine (impl_allWithin.calls k _ _ l0 1 60 t346 _ ?side1 ?side2 A4.out).mono ?_); (case side1 => exact ce_ (HR0.out)); (case side2 => exact HC0.out); rintro e w' ⟨rfl, ⟨nd, rfl⟩⟩))
 go_ret
 exact ⟨by first | rfl | (simp; done) | (simp [*]; done), by repeat (first | exact Drawn0.refl _ | apply Drawn0.step)⟩
end Go.Proofs.Ytonknpgfbkgbjaa.PA
end
