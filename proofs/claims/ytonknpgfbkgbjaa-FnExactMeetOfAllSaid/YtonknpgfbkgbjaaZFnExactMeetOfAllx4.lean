-- Bundled by shake.py from this session's printed and written texts; Lean checks it.
import Derived.Test.YtonknpgfbkgbjaaZFnExactMeetOfAllx1
import Derived.Test.YtonknpgfbkgbjaaZFnExactMeetOfAllx2
import Derived.Test.YtonknpgfbkgbjaaZFnExactMeetOfAllx3
section
namespace Go.Proofs.Ytonknpgfbkgbjaa.PA
open Go.RowKit Go.Proofs.YtonknpgfbkgbjaaW.PrintWords Go.Proofs.YtonknpgfbkgbjaaW.PrintLast Go.Proofs.YtonknpgfbkgbjaaW.PrintMore
attribute [local go_sem] max2_int min2_int max_two min_two max_three min_three max_four min_four
set_option linter.unusedVariables false
set_option linter.unusedSimpArgs false
set_option maxHeartbeats 8000000
set_option maxRecDepth 100000
def spec_MeetOf.j0 : Nat → Bool → List Int → List Int → Option (List Int × Bool)
 | 0, _, _, _ => none
 | k + 1, x15, x270000, x271000 => if x15 = true then (some (([] : List Int), false)) else ((spec_l4Gaps.f k x270000).bind fun t274 => ((spec_l4Gaps.f k x271000).bind fun t277 => (if t274.length + t277.length < 17592186044416 then ((spec_SortList.f k (t274 ++ t277)).bind fun t283 => ((spec_FromGaps.f k t283).bind fun bt286 => (some (bt286.1, bt286.2)))) else (none))))
def spec_MeetOf.f (k : Nat) (l0_0 : List Int) (l1_0 : List Int) : Option (List Int × Bool) := (spec_IsSemigroup.f k l0_0).bind fun t272 => (if t272 = true then ((spec_IsSemigroup.f k l1_0).bind fun t273 => (spec_MeetOf.j0 k (!t273) l0_0 l1_0)) else (spec_MeetOf.j0 k true l0_0 l1_0))
def spec_MeetOf.T3 : Bool × List (List Nat × List Nat) := (true, [([], []), ([0], [0]), ([], []), ([2, 1], [2]), ([1, 3, 3], [1, 3]), ([4, 4], [4]), ([5, 5], [5]), ([6], [6]), ([7], [7]), ([7], [7]), ([], []), ([10, 8, 6, 0, 1, 2, 3, 4, 5, 6, 7, 8, 10], [8, 10]), ([9, 11, 0, 1, 2, 3, 4, 5, 6, 7, 8, 9, 10, 11], [9])])
def spec_MeetOf.B3 : List Nat := [0, 1, 0, 7, 15, 31, 63, 127, 255, 255, 0, 1535, 4095]
theorem spec_MeetOf.tab3 : rtab .any (opsOf Try.f27 3) = spec_MeetOf.T3 := by kernel_rfl
theorem spec_MeetOf.bits3 : waitsOk spec_MeetOf.T3.2 spec_MeetOf.B3 = true := by kernel_rfl
theorem spec_MeetOf.calls (k : Nat) (A0_0 : Option Addr) (c0_0 : Nat) (l0_0 : List Int) (A1_0 : Option Addr) (c1_0 : Nat) (l1_0 : List Int) (r1 : List Int) (r2 : Bool) (w : World) (hr0_0 : Kd.C (Kd.int .i64) w A0_0 l0_0.length l0_0) (hc0_0 : l0_0.length ≤ c0_0) (hr1_0 : Kd.C (Kd.int .i64) w A1_0 l1_0.length l1_0) (hc1_0 : l1_0.length ≤ c1_0) (h : spec_MeetOf.f k l0_0 l1_0 = some (r1, r2)) :
 Calls Try.prog 27 #[.agg #[.slice A0_0 l0_0.length c0_0], .agg #[.slice A1_0 l1_0.length c1_0]] w fun e w' => ∃ v0_ : Value, e = .returned (.tuple #[.agg #[v0_], .bool r2]) ∧ Kd.R (Kd.int .i64) 3 w' w.heap.size (fun _ => True) v0_ r1 ∧ Below w.heap.size w w' := by
 have hu26 := Try.underlying26
 have HR0_0 := Aside0.mk hr0_0
 have HC0_0 := Aside0.mk hc0_0
 clear hr0_0 hc0_0
 have HR1_0 := Aside0.mk hr1_0
 have HC1_0 := Aside0.mk hc1_0
 clear hr1_0 hc1_0
 have HB := Aside0.mk (Below.refl w.heap.size w)
 have H := h
 clear h
 unfold spec_MeetOf.f at H
 have HC3 := Aside0.mk H
 clear H
 go_enter Try.func27, Try.ntmps27
 go_upto_region 1 with (first | ((with_reducible refine gate_dst (N := 2) rfl ?_); refine bx_ 2 #[.slice A0_0 l0_0.length c0_0] 26 ?_; intro gb269 hg w4 hbox hb; have BK269 := Aside0.mk (hbox); have GW269 := gw_ hg HB; have GE269 := gw_ hg HB; replace HB := bo_ HB hb; clear hb hbox hg) | ((with_reducible refine gate_dst (N := 3) rfl ?_); refine bx_ 3 #[.slice A1_0 l1_0.length c1_0] 26 ?_; intro gb270 hg w5 hbox hb; have BK270 := Aside0.mk (hbox); have GW270 := gq_ hg (bq_ HB); have GE270 := gq_ hg (bq_ HB); replace HB := bp_ HB hb; have NB269_270 := nl_ hg BK269; have NB270_269 := ng_ hg BK269; replace BK269 := bk_ BK269 hb; clear hb hbox hg) | ((with_reducible refine gate_dst (N := 4) rfl ?_); refine bx_ 4 #[.slice none 0 0] 26 ?_; intro gb271 hg w6 hbox hb; have BK271 := Aside0.mk (hbox); have GW271 := gq_ hg (bq_ HB); have GE271 := gq_ hg (bq_ HB); replace HB := bp_ HB hb; have NB269_271 := nl_ hg BK269; have NB271_269 := ng_ hg BK269; replace BK269 := bk_ BK269 hb; have NB270_271 := nl_ hg BK270; have NB271_270 := ng_ hg BK270; replace BK270 := bk_ BK270 hb; clear hb hbox hg))
 (try simp only [Act.put, z1_, z2_, z3_])
 go_cut [15] (fun v15 wc => ∃ (kq : Nat) (x15_2 : Bool), v15 = .bool x15_2 ∧ Aside0 (spec_MeetOf.j0 kq x15_2 l0_0 l1_0 = some (r1, r2)) ∧ Aside0 (kq ≤ k) ∧ Aside0 (wc.heap[gb269]? = some (.cells #[(.slice A0_0 l0_0.length c0_0)] 26 (0, 0))) ∧ Aside0 (wc.heap[gb270]? = some (.cells #[(.slice A1_0 l1_0.length c1_0)] 26 (0, 0))) ∧ Aside0 (wc.heap[gb271]? = some (.cells #[(.slice none 0 0)] 26 (0, 0))) ∧ Aside0 (Below w.heap.size w wc))
 case first =>
  have H := HC3.out
  clear HC3
  obtain ⟨t272, A7, H⟩ := ob_ H
  by_cases c8 : t272 = true
  rotate_left
  · replace c8 := Bool.eq_false_iff.mpr c8
    subst c8
    rw [if_neg (show ¬ (false = true) by decide)] at H
    have H' := Aside0.mk H
    clear H
    have hnb17 := NB269_270.out
    have hnc17 := NB270_269.out
    have hnb18 := NB269_271.out
    have hnc18 := NB271_269.out
    have hcz19_0 := cz_ BK269
    have hfz19_0 := blk_frozen BK269.out 0
    go_wp2_with (first | ((with_reducible refine gate_callee (f := 25) rfl ?_); refine gL_ (some 9) Try.func25 #[.agg #[.slice A0_0 l0_0.length c0_0]] ?_; (with_reducible refine (spec_IsSemigroup.calls k _ _ l0_0 false _ ?side1 ?side2 A7.out).mono ?_); (case side1 => exact ch_ HR0_0 HB); (case side2 => exact HC0_0.out); rintro e w20 ⟨rfl, hb⟩; refine ⟨_, rfl, ?_⟩; replace BK269 := bk_ BK269 hb; replace BK270 := bk_ BK270 hb; replace BK271 := bk_ BK271 hb; replace HB := bp_ HB hb; (try clear hb)))
    go_meet
    case rel => exact ⟨_, (true), rs_, H', ⟨by first | omega | exact Nat.le_refl _⟩, ⟨be_ BK269.out⟩, ⟨be_ BK270.out⟩, ⟨be_ BK271.out⟩, ⟨bq_ HB⟩⟩
  subst c8
  rw [if_pos rfl] at H
  obtain ⟨t273, A9, H⟩ := ob_ H
  have H' := Aside0.mk H
  clear H
  have hnb10 := NB269_270.out
  have hnc10 := NB270_269.out
  have hnb11 := NB269_271.out
  have hnc11 := NB271_269.out
  have hcz12_0 := cz_ BK269
  have hfz12_0 := blk_frozen BK269.out 0
  go_wp2_with (first | ((with_reducible refine gate_callee (f := 25) rfl ?_); refine gL_ (some 9) Try.func25 #[.agg #[.slice A0_0 l0_0.length c0_0]] ?_; (with_reducible refine (spec_IsSemigroup.calls k _ _ l0_0 true _ ?side1 ?side2 A7.out).mono ?_); (case side1 => exact ch_ HR0_0 HB); (case side2 => exact HC0_0.out); rintro e w13 ⟨rfl, hb⟩; refine ⟨_, rfl, ?_⟩; replace BK269 := bk_ BK269 hb; replace BK270 := bk_ BK270 hb; replace BK271 := bk_ BK271 hb; replace HB := bp_ HB hb; (try clear hb); have hnb14 := NB270_271.out; have hnc14 := NB271_270.out; have hcz15_0 := cz_ BK270; have hfz15_0 := blk_frozen BK270.out 0) | (go_at_call 25; (with_reducible refine (spec_IsSemigroup.calls k _ _ l1_0 t273 _ ?side1 ?side2 A9.out).mono ?_); (case side1 => exact ch_ HR1_0 HB); (case side2 => exact HC1_0.out); rintro e w16 ⟨rfl, hb⟩; replace BK269 := bk_ BK269 hb; replace BK270 := bk_ BK270 hb; replace BK271 := bk_ BK271 hb; replace HB := bp_ HB hb; (try clear hb)))
  go_meet
  case rel => exact ⟨_, (!t273), rs_, H', ⟨by first | omega | exact Nat.le_refl _⟩, ⟨be_ BK269.out⟩, ⟨be_ BK270.out⟩, ⟨be_ BK271.out⟩, ⟨bq_ HB⟩⟩
 case rest =>
  clear HC3
  obtain ⟨kq, x15_2, rfl, HA, HJ2, BK269, BK270, BK271, HB⟩ := hcut
  cases kq with
  | zero => exact absurd HA.out (by simp [spec_MeetOf.j0])
  | succ kj2 =>
   have H := HA.out
   clear HA
   simp only [spec_MeetOf.j0] at H
   by_cases c21 : x15_2 = true
   · subst c21
     rw [if_pos rfl] at H
     simp only [Option.some.injEq, Prod.mk.injEq] at H
     obtain ⟨rfl, rfl⟩ := H
     have hnb22 := NB271_269.out
     have hnc22 := NB269_271.out
     have hnb23 := NB271_270.out
     have hnc23 := NB270_271.out
     have hcz24_0 := cz_ BK271
     have hfz24_0 := blk_frozen BK271.out 0
     go_wp2
     refine bodyPost_ret (results_ct rfl _ _ gb271 26 #[.slice none 0 0] (0, 0) _ rfl (bz_ BK271) Try.underlying26 rfl (by kernel_rfl)) rfl ?_
     exact ⟨_, rf_, by first | exact Kd.R_nil _ _ _ _ _ | exact Kd.N_nil _ _ _ _ _ | exact Kd.V_nil _ _ _ _ _ | exact Kd.Q_nil _ _ _ _ _ | exact Kd.S_nil _ _ _ _ _, bq_ HB⟩
   replace c21 := Bool.eq_false_iff.mpr c21
   subst c21
   rw [if_neg (show ¬ (false = true) by decide)] at H
   obtain ⟨t274, A25, H⟩ := ob_ H
   obtain ⟨t277, A26, H⟩ := ob_ H
   obtain ⟨c27, H⟩ := ip_ H
   have LMc27 := Aside0.mk c27
   clear c27
   obtain ⟨y280, hy280⟩ : ∃ y_ : List Int, y_ = (t274 ++ t277) := ⟨_, rfl⟩
   replace H : ((spec_SortList.f kj2 y280).bind fun t283 => ((spec_FromGaps.f kj2 t283).bind fun bt286 => (some (bt286.1, bt286.2)))) = some (r1, r2) := by subst hy280; exact H
   have Ny280 := Aside0.mk hy280
   clear hy280
   obtain ⟨t283, A28, H⟩ := ob_ H
   obtain ⟨⟨t286, t289⟩, A29, H⟩ := ob_ H
   (try dsimp only at H)
   simp only [Option.some.injEq, Prod.mk.injEq] at H
   obtain ⟨rfl, rfl⟩ := H
   try go_wp2
   replace BK269 := Aside0.mk (blk_drew BK269.out)
   replace BK270 := Aside0.mk (blk_drew BK270.out)
   replace BK271 := Aside0.mk (blk_drew BK271.out)
   replace HB := Aside0.mk (below_drew1 HB.out)
   refine start_ (n := 13) (S := fun w' => w'.cell? ⟨gb269, 0, none⟩ = some (.slice A0_0 l0_0.length c0_0) ∧ w'.cell? ⟨gb270, 0, none⟩ = some (.slice A1_0 l1_0.length c1_0)) (ds := []) (B_ 0 13) (by kernel_rfl) rfl rfl ⟨(blk_cell BK269.out 0).trans rfl, (blk_cell BK270.out 0).trans rfl⟩ (fun hHeld => ?_); refine with_tabW spec_MeetOf.tab3 spec_MeetOf.bits3 (fun HT_ HW_ => ?_)
   generalize wc.drew = w30 at BK269 BK270 BK271 HB hHeld ⊢
   refine tk2_ HT_ HW_ hHeld 0 18 (B_ 1 13) ?_
   refine tk2_ HT_ HW_ hHeld 2 20 (B_ 5 13) ?_
   refine join_ (σ := Value × Value × Value × Value × Value × Nat) 2 (B_ 2047 13) (fun s_ => [(19, s_.1), (21, s_.2.1), (22, s_.2.2.1), (23, s_.2.2.2.1), (24, .tuple #[.agg #[s_.2.2.2.2.1], .bool t289]), (6, .pointer (some ⟨s_.2.2.2.2.2, 0, none⟩)), (17, .tuple #[.agg #[s_.2.2.2.2.1], .bool t289]), (25, .agg #[s_.2.2.2.2.1]), (26, .bool t289)]) (fun s_ w' => (w'.cell? ⟨gb269, 0, none⟩ = some (.slice A0_0 l0_0.length c0_0) ∧ w'.cell? ⟨gb270, 0, none⟩ = some (.slice A1_0 l1_0.length c1_0)) ∧ (Kd.R (Kd.int .i64) 3 w' w.heap.size (fun k_ => some k_ ≠ (s_.2.2.1 : Value).ownBlock ∧ some k_ ≠ (s_.2.2.2.1 : Value).ownBlock ∧ some k_ ≠ (s_.2.2.2.2.1 : Value).ownBlock) s_.2.1 t277) ∧ (Kd.R (Kd.int .i64) 3 w' w.heap.size (fun k_ => some k_ ≠ (s_.2.1 : Value).ownBlock ∧ some k_ ≠ (s_.2.2.2.1 : Value).ownBlock ∧ some k_ ≠ (s_.2.2.2.2.1 : Value).ownBlock) s_.2.2.1 y280) ∧ (Kd.R (Kd.int .i64) 3 w' w.heap.size (fun k_ => some k_ ≠ (s_.2.1 : Value).ownBlock ∧ some k_ ≠ (s_.2.2.1 : Value).ownBlock ∧ some k_ ≠ (s_.2.2.2.2.1 : Value).ownBlock) s_.2.2.2.1 t283) ∧ (Kd.R (Kd.int .i64) 3 w' w.heap.size (fun k_ => some k_ ≠ (s_.2.1 : Value).ownBlock ∧ some k_ ≠ (s_.2.2.1 : Value).ownBlock ∧ some k_ ≠ (s_.2.2.2.1 : Value).ownBlock) s_.2.2.2.2.1 t286) ∧ (w'.heap[gb269]? = some (.cells #[.slice A0_0 l0_0.length c0_0] 26 (0, 0))) ∧ (w'.heap[gb270]? = some (.cells #[.slice A1_0 l1_0.length c1_0] 26 (0, 0))) ∧ (w'.heap[gb271]? = some (.cells #[.slice none 0 0] 26 (0, 0))) ∧ (w'.heap[s_.2.2.2.2.2]? = some (.cells #[.slice none 0 0] 26 (0, 0))) ∧ (w.heap.size ≤ s_.2.2.2.2.2) ∧ (w.heap.size ≤ s_.2.2.2.2.2) ∧ (gb269 ≠ s_.2.2.2.2.2) ∧ (s_.2.2.2.2.2 ≠ gb269) ∧ (gb270 ≠ s_.2.2.2.2.2) ∧ (s_.2.2.2.2.2 ≠ gb270) ∧ (gb271 ≠ s_.2.2.2.2.2) ∧ (s_.2.2.2.2.2 ≠ gb271) ∧ (Below w.heap.size w w')) ?_ ?_
   rotate_left
   · intro hJ1_3_4_5_6_10
     refine join_ (σ := Value × Value × Value × Value × Value) 3 (B_ 1023 13) (fun s_ => [(19, s_.1), (21, s_.2.1), (22, s_.2.2.1), (23, s_.2.2.2.1), (24, .tuple #[.agg #[s_.2.2.2.2], .bool t289]), (17, .tuple #[.agg #[s_.2.2.2.2], .bool t289]), (25, .agg #[s_.2.2.2.2]), (26, .bool t289)]) (fun s_ w' => (w'.cell? ⟨gb269, 0, none⟩ = some (.slice A0_0 l0_0.length c0_0) ∧ w'.cell? ⟨gb270, 0, none⟩ = some (.slice A1_0 l1_0.length c1_0)) ∧ (Kd.R (Kd.int .i64) 3 w' w.heap.size (fun k_ => some k_ ≠ (s_.2.2.1 : Value).ownBlock ∧ some k_ ≠ (s_.2.2.2.1 : Value).ownBlock ∧ some k_ ≠ (s_.2.2.2.2 : Value).ownBlock) s_.2.1 t277) ∧ (Kd.R (Kd.int .i64) 3 w' w.heap.size (fun k_ => some k_ ≠ (s_.2.1 : Value).ownBlock ∧ some k_ ≠ (s_.2.2.2.1 : Value).ownBlock ∧ some k_ ≠ (s_.2.2.2.2 : Value).ownBlock) s_.2.2.1 y280) ∧ (Kd.R (Kd.int .i64) 3 w' w.heap.size (fun k_ => some k_ ≠ (s_.2.1 : Value).ownBlock ∧ some k_ ≠ (s_.2.2.1 : Value).ownBlock ∧ some k_ ≠ (s_.2.2.2.2 : Value).ownBlock) s_.2.2.2.1 t283) ∧ (Kd.R (Kd.int .i64) 3 w' w.heap.size (fun k_ => some k_ ≠ (s_.2.1 : Value).ownBlock ∧ some k_ ≠ (s_.2.2.1 : Value).ownBlock ∧ some k_ ≠ (s_.2.2.2.1 : Value).ownBlock) s_.2.2.2.2 t286) ∧ (w'.heap[gb269]? = some (.cells #[.slice A0_0 l0_0.length c0_0] 26 (0, 0))) ∧ (w'.heap[gb270]? = some (.cells #[.slice A1_0 l1_0.length c1_0] 26 (0, 0))) ∧ (w'.heap[gb271]? = some (.cells #[.slice none 0 0] 26 (0, 0))) ∧ (Below w.heap.size w w')) ?_ ?_
     rotate_left
     · intro hJ1_3_4_5_6
       refine join_ (σ := Value × Value × Value × Value × Nat) 6 (B_ 1087 13) (fun s_ => [(19, s_.1), (21, s_.2.1), (22, s_.2.2.1), (23, s_.2.2.2.1), (6, .pointer (some ⟨s_.2.2.2.2, 0, none⟩))]) (fun s_ w' => (w'.cell? ⟨gb269, 0, none⟩ = some (.slice A0_0 l0_0.length c0_0) ∧ w'.cell? ⟨gb270, 0, none⟩ = some (.slice A1_0 l1_0.length c1_0)) ∧ (Kd.R (Kd.int .i64) 3 w' w.heap.size (fun k_ => some k_ ≠ (s_.2.2.1 : Value).ownBlock ∧ some k_ ≠ (s_.2.2.2.1 : Value).ownBlock) s_.2.1 t277) ∧ (Kd.R (Kd.int .i64) 3 w' w.heap.size (fun k_ => some k_ ≠ (s_.2.1 : Value).ownBlock ∧ some k_ ≠ (s_.2.2.2.1 : Value).ownBlock) s_.2.2.1 y280) ∧ (Kd.R (Kd.int .i64) 3 w' w.heap.size (fun k_ => some k_ ≠ (s_.2.1 : Value).ownBlock ∧ some k_ ≠ (s_.2.2.1 : Value).ownBlock) s_.2.2.2.1 t283) ∧ (w'.heap[gb269]? = some (.cells #[.slice A0_0 l0_0.length c0_0] 26 (0, 0))) ∧ (w'.heap[gb270]? = some (.cells #[.slice A1_0 l1_0.length c1_0] 26 (0, 0))) ∧ (w'.heap[gb271]? = some (.cells #[.slice none 0 0] 26 (0, 0))) ∧ (w'.heap[s_.2.2.2.2]? = some (.cells #[.slice none 0 0] 26 (0, 0))) ∧ (w.heap.size ≤ s_.2.2.2.2) ∧ (w.heap.size ≤ s_.2.2.2.2) ∧ (gb269 ≠ s_.2.2.2.2) ∧ (s_.2.2.2.2 ≠ gb269) ∧ (gb270 ≠ s_.2.2.2.2) ∧ (s_.2.2.2.2 ≠ gb270) ∧ (gb271 ≠ s_.2.2.2.2) ∧ (s_.2.2.2.2 ≠ gb271) ∧ (Below w.heap.size w w')) ?_ ?_
       rotate_left
       · intro hJ1_3_4_5_10
         refine join_ (σ := Value × Value × Value × Value) 7 (B_ 63 13) (fun s_ => [(19, s_.1), (21, s_.2.1), (22, s_.2.2.1), (23, s_.2.2.2)]) (fun s_ w' => (w'.cell? ⟨gb269, 0, none⟩ = some (.slice A0_0 l0_0.length c0_0) ∧ w'.cell? ⟨gb270, 0, none⟩ = some (.slice A1_0 l1_0.length c1_0)) ∧ (Kd.R (Kd.int .i64) 3 w' w.heap.size (fun k_ => some k_ ≠ (s_.2.2.1 : Value).ownBlock ∧ some k_ ≠ (s_.2.2.2 : Value).ownBlock) s_.2.1 t277) ∧ (Kd.R (Kd.int .i64) 3 w' w.heap.size (fun k_ => some k_ ≠ (s_.2.1 : Value).ownBlock ∧ some k_ ≠ (s_.2.2.2 : Value).ownBlock) s_.2.2.1 y280) ∧ (Kd.R (Kd.int .i64) 3 w' w.heap.size (fun k_ => some k_ ≠ (s_.2.1 : Value).ownBlock ∧ some k_ ≠ (s_.2.2.1 : Value).ownBlock) s_.2.2.2 t283) ∧ (w'.heap[gb269]? = some (.cells #[.slice A0_0 l0_0.length c0_0] 26 (0, 0))) ∧ (w'.heap[gb270]? = some (.cells #[.slice A1_0 l1_0.length c1_0] 26 (0, 0))) ∧ (w'.heap[gb271]? = some (.cells #[.slice none 0 0] 26 (0, 0))) ∧ (Below w.heap.size w w')) ?_ ?_
         rotate_left
         · intro hJ1_3_4_5
           refine join_ (σ := Value × Value × Value × Nat) 7 (B_ 1055 13) (fun s_ => [(19, s_.1), (21, s_.2.1), (22, s_.2.2.1), (6, .pointer (some ⟨s_.2.2.2, 0, none⟩))]) (fun s_ w' => (w'.cell? ⟨gb269, 0, none⟩ = some (.slice A0_0 l0_0.length c0_0) ∧ w'.cell? ⟨gb270, 0, none⟩ = some (.slice A1_0 l1_0.length c1_0)) ∧ (Kd.R (Kd.int .i64) 3 w' w.heap.size (fun k_ => some k_ ≠ (s_.2.2.1 : Value).ownBlock) s_.2.1 t277) ∧ (Kd.R (Kd.int .i64) 3 w' w.heap.size (fun k_ => some k_ ≠ (s_.2.1 : Value).ownBlock) s_.2.2.1 y280) ∧ (w'.heap[gb269]? = some (.cells #[.slice A0_0 l0_0.length c0_0] 26 (0, 0))) ∧ (w'.heap[gb270]? = some (.cells #[.slice A1_0 l1_0.length c1_0] 26 (0, 0))) ∧ (w'.heap[gb271]? = some (.cells #[.slice none 0 0] 26 (0, 0))) ∧ (w'.heap[s_.2.2.2]? = some (.cells #[.slice none 0 0] 26 (0, 0))) ∧ (w.heap.size ≤ s_.2.2.2) ∧ (w.heap.size ≤ s_.2.2.2) ∧ (gb269 ≠ s_.2.2.2) ∧ (s_.2.2.2 ≠ gb269) ∧ (gb270 ≠ s_.2.2.2) ∧ (s_.2.2.2 ≠ gb270) ∧ (gb271 ≠ s_.2.2.2) ∧ (s_.2.2.2 ≠ gb271) ∧ (Below w.heap.size w w')) ?_ ?_
           rotate_left
           · intro hJ1_3_4_10
             refine join_ (σ := Value × Value × Value) 8 (B_ 31 13) (fun s_ => [(19, s_.1), (21, s_.2.1), (22, s_.2.2)]) (fun s_ w' => (w'.cell? ⟨gb269, 0, none⟩ = some (.slice A0_0 l0_0.length c0_0) ∧ w'.cell? ⟨gb270, 0, none⟩ = some (.slice A1_0 l1_0.length c1_0)) ∧ (Kd.R (Kd.int .i64) 3 w' w.heap.size (fun k_ => some k_ ≠ (s_.2.2 : Value).ownBlock) s_.2.1 t277) ∧ (Kd.R (Kd.int .i64) 3 w' w.heap.size (fun k_ => some k_ ≠ (s_.2.1 : Value).ownBlock) s_.2.2 y280) ∧ (w'.heap[gb269]? = some (.cells #[.slice A0_0 l0_0.length c0_0] 26 (0, 0))) ∧ (w'.heap[gb270]? = some (.cells #[.slice A1_0 l1_0.length c1_0] 26 (0, 0))) ∧ (w'.heap[gb271]? = some (.cells #[.slice none 0 0] 26 (0, 0))) ∧ (Below w.heap.size w w')) ?_ ?_
             rotate_left
             · intro hJ1_3_4
               refine join_ (σ := Value × Value × Nat) 8 (B_ 1039 13) (fun s_ => [(19, s_.1), (21, s_.2.1), (6, .pointer (some ⟨s_.2.2, 0, none⟩))]) (fun s_ w' => (w'.cell? ⟨gb269, 0, none⟩ = some (.slice A0_0 l0_0.length c0_0) ∧ w'.cell? ⟨gb270, 0, none⟩ = some (.slice A1_0 l1_0.length c1_0)) ∧ (Kd.R (Kd.int .i64) 3 w' w.heap.size (fun k_ => some k_ ≠ (s_.2.1 : Value).ownBlock) s_.1 t274) ∧ (Kd.R (Kd.int .i64) 3 w' w.heap.size (fun k_ => some k_ ≠ (s_.1 : Value).ownBlock) s_.2.1 t277) ∧ (w'.heap[gb269]? = some (.cells #[.slice A0_0 l0_0.length c0_0] 26 (0, 0))) ∧ (w'.heap[gb270]? = some (.cells #[.slice A1_0 l1_0.length c1_0] 26 (0, 0))) ∧ (w'.heap[gb271]? = some (.cells #[.slice none 0 0] 26 (0, 0))) ∧ (w'.heap[s_.2.2]? = some (.cells #[.slice none 0 0] 26 (0, 0))) ∧ (w.heap.size ≤ s_.2.2) ∧ (w.heap.size ≤ s_.2.2) ∧ (gb269 ≠ s_.2.2) ∧ (s_.2.2 ≠ gb269) ∧ (gb270 ≠ s_.2.2) ∧ (s_.2.2 ≠ gb270) ∧ (gb271 ≠ s_.2.2) ∧ (s_.2.2 ≠ gb271) ∧ (Below w.heap.size w w')) ?_ ?_
               rotate_left
               · intro hJ1_3_10
                 refine join_ (σ := Value × Value) 9 (B_ 15 13) (fun s_ => [(19, s_.1), (21, s_.2)]) (fun s_ w' => (w'.cell? ⟨gb269, 0, none⟩ = some (.slice A0_0 l0_0.length c0_0) ∧ w'.cell? ⟨gb270, 0, none⟩ = some (.slice A1_0 l1_0.length c1_0)) ∧ (Kd.R (Kd.int .i64) 3 w' w.heap.size (fun k_ => some k_ ≠ (s_.2 : Value).ownBlock) s_.1 t274) ∧ (Kd.R (Kd.int .i64) 3 w' w.heap.size (fun k_ => some k_ ≠ (s_.1 : Value).ownBlock) s_.2 t277) ∧ (w'.heap[gb269]? = some (.cells #[.slice A0_0 l0_0.length c0_0] 26 (0, 0))) ∧ (w'.heap[gb270]? = some (.cells #[.slice A1_0 l1_0.length c1_0] 26 (0, 0))) ∧ (w'.heap[gb271]? = some (.cells #[.slice none 0 0] 26 (0, 0))) ∧ (Below w.heap.size w w')) ?_ ?_
                 rotate_left
                 · intro hJ1_3
                   refine join_ (σ := Value × Nat) 9 (B_ 1031 13) (fun s_ => [(19, s_.1), (6, .pointer (some ⟨s_.2, 0, none⟩))]) (fun s_ w' => (w'.cell? ⟨gb269, 0, none⟩ = some (.slice A0_0 l0_0.length c0_0) ∧ w'.cell? ⟨gb270, 0, none⟩ = some (.slice A1_0 l1_0.length c1_0)) ∧ (Kd.R (Kd.int .i64) 3 w' w.heap.size (fun _ => True) s_.1 t274) ∧ (w'.heap[gb269]? = some (.cells #[.slice A0_0 l0_0.length c0_0] 26 (0, 0))) ∧ (w'.heap[gb270]? = some (.cells #[.slice A1_0 l1_0.length c1_0] 26 (0, 0))) ∧ (w'.heap[gb271]? = some (.cells #[.slice none 0 0] 26 (0, 0))) ∧ (w'.heap[s_.2]? = some (.cells #[.slice none 0 0] 26 (0, 0))) ∧ (w.heap.size ≤ s_.2) ∧ (w.heap.size ≤ s_.2) ∧ (gb269 ≠ s_.2) ∧ (s_.2 ≠ gb269) ∧ (gb270 ≠ s_.2) ∧ (s_.2 ≠ gb270) ∧ (gb271 ≠ s_.2) ∧ (s_.2 ≠ gb271) ∧ (Below w.heap.size w w')) ?_ ?_
                   rotate_left
                   · intro hJ1_10
                     refine join_ (σ := Value) 10 (B_ 7 13) (fun s_ => [(19, s_)]) (fun s_ w' => (w'.cell? ⟨gb269, 0, none⟩ = some (.slice A0_0 l0_0.length c0_0) ∧ w'.cell? ⟨gb270, 0, none⟩ = some (.slice A1_0 l1_0.length c1_0)) ∧ (Kd.R (Kd.int .i64) 3 w' w.heap.size (fun _ => True) s_ t274) ∧ (w'.heap[gb269]? = some (.cells #[.slice A0_0 l0_0.length c0_0] 26 (0, 0))) ∧ (w'.heap[gb270]? = some (.cells #[.slice A1_0 l1_0.length c1_0] 26 (0, 0))) ∧ (w'.heap[gb271]? = some (.cells #[.slice none 0 0] 26 (0, 0))) ∧ (Below w.heap.size w w')) ?_ ?_
                     rotate_left
                     · intro hJ1
                       refine join_ (σ := Nat) 10 (B_ 1029 13) (fun s_ => [(6, .pointer (some ⟨s_, 0, none⟩))]) (fun s_ w' => (w'.cell? ⟨gb269, 0, none⟩ = some (.slice A0_0 l0_0.length c0_0) ∧ w'.cell? ⟨gb270, 0, none⟩ = some (.slice A1_0 l1_0.length c1_0)) ∧ (w'.heap[gb269]? = some (.cells #[.slice A0_0 l0_0.length c0_0] 26 (0, 0))) ∧ (w'.heap[gb270]? = some (.cells #[.slice A1_0 l1_0.length c1_0] 26 (0, 0))) ∧ (w'.heap[gb271]? = some (.cells #[.slice none 0 0] 26 (0, 0))) ∧ (w'.heap[s_]? = some (.cells #[.slice none 0 0] 26 (0, 0))) ∧ (w.heap.size ≤ s_) ∧ (w.heap.size ≤ s_) ∧ (gb269 ≠ s_) ∧ (s_ ≠ gb269) ∧ (gb270 ≠ s_) ∧ (s_ ≠ gb270) ∧ (gb271 ≠ s_) ∧ (s_ ≠ gb271) ∧ (Below w.heap.size w w')) ?_ ?_
                       rotate_left
                       · intro hJ10
                         refine two_ (i := 1) (j := 10) (Ni := some 19) (Nj := some 6) (B_ 7 13) (B_ 1029 13) rfl rfl rfl rfl (two_of HT_.out (by kernel_rfl)) (by decide) (by decide) (fun K hK => ?_) (fun K hK => ?_)
                         · skip
                           refine goes_ Try.func54 (by kernel_rfl) rfl #[.agg #[.slice A0_0 l0_0.length c0_0]] (by rfl) rfl rfl (by (try simp only [List.map_toArray, List.map_cons, List.map_nil]); first | done | rfl | (simp only [List.length_drop, List.length_take]; rfl)) ?_
                           with_reducible refine (spec_l4Gaps.calls kj2 _ _ l0_0 t274 _ ?side1 ?side2 A25.out).mono ?_
                           (case side1 => exact ch_ HR0_0 HB)
                           (case side2 => exact HC0_0.out)
                           rintro e w31 ⟨v275, rfl, ho0, hb⟩
                           refine ⟨_, rfl, ?_⟩
                           have HO276 := Aside0.mk (Kd.R_lower ho0 (below_size (bq_ HB)))
                           replace BK269 := bk_ BK269 hb
                           replace BK270 := bk_ BK270 hb
                           replace BK271 := bk_ BK271 hb
                           replace HB := bp_ HB hb
                           (try clear hb)
                           (try clear ho0)
                           refine hK.out _ _ ⟨(blk_cell BK269.out 0).trans rfl, (blk_cell BK270.out 0).trans rfl⟩ (fun hHeld => ?_)
                           clear hK K
                           refine norm_ (a' := ?_) ?_ ?_
                           rotate_left
                           · show Act.put _ (some 19) _ = _
                             simp only [Act.put, z1_, z2_, z3_, i64_w, i32_w]
                             rfl
                           exact norm_ (by first | (simp only [putAll, Act.put, z1_, z2_, z3_]; done) | (simp only [putAll, Act.put, z1_, z2_, z3_]; rfl)) (hJ1 (v275) _ ⟨hHeld, (re_ HO276.out), (be_ BK269.out), (be_ BK270.out), (be_ BK271.out), (bq_ HB)⟩)
                         · skip
                           refine box_step ?hg (N := 6) ?hd (cs := #[.slice none 0 0]) (t := 26) ?hr ?_; (case hd => rfl); (case hg => rfl); (case hr => first | (go_simp; done) | (go_simp; rfl))
                           intro gb290 hg w31 hbox hb
                           have BK290 := Aside0.mk (hbox)
                           have GW290 := gq_ hg (bq_ HB)
                           have GE290 := gq_ hg (bq_ HB)
                           replace HB := bp_ HB hb
                           have NB269_290 := nl_ hg BK269
                           have NB290_269 := ng_ hg BK269
                           replace BK269 := bk_ BK269 hb
                           have NB270_290 := nl_ hg BK270
                           have NB290_270 := ng_ hg BK270
                           replace BK270 := bk_ BK270 hb
                           have NB271_290 := nl_ hg BK271
                           have NB290_271 := ng_ hg BK271
                           replace BK271 := bk_ BK271 hb
                           clear hb hbox hg
                           refine hK.out _ _ ⟨(blk_cell BK269.out 0).trans rfl, (blk_cell BK270.out 0).trans rfl⟩ (fun hHeld => ?_)
                           clear hK K
                           refine norm_ (a' := ?_) ?_ ?_
                           rotate_left
                           · show Act.put _ (some 6) _ = _
                             simp only [Act.put, z1_, z2_, z3_, i64_w, i32_w]
                             rfl
                           exact norm_ (by first | (simp only [putAll, Act.put, z1_, z2_, z3_]; done) | (simp only [putAll, Act.put, z1_, z2_, z3_]; rfl)) (hJ10 (gb290) _ ⟨hHeld, (be_ BK269.out), (be_ BK270.out), (be_ BK271.out), (be_ BK290.out), GW290.out, GE290.out, NB269_290.out, NB290_269.out, NB270_290.out, NB290_270.out, NB271_290.out, NB290_271.out, (bq_ HB)⟩)
                       · skip
                         rintro gb290 w32 ⟨hS_, h0_, h1_, h2_, h3_, h4_, h5_, h6_, h7_, h8_, h9_, h10_, h11_, h12_⟩
                         have n0_ : Aside0 (w32.heap[gb269]? = some (.cells #[.slice A0_0 l0_0.length c0_0] 26 (0, 0))) := ⟨h0_⟩
                         have n1_ : Aside0 (w32.heap[gb270]? = some (.cells #[.slice A1_0 l1_0.length c1_0] 26 (0, 0))) := ⟨h1_⟩
                         have n2_ : Aside0 (w32.heap[gb271]? = some (.cells #[.slice none 0 0] 26 (0, 0))) := ⟨h2_⟩
                         have n3_ : Aside0 (w32.heap[gb290]? = some (.cells #[.slice none 0 0] 26 (0, 0))) := ⟨h3_⟩
                         have n4_ : Aside0 (w.heap.size ≤ gb290) := ⟨h4_⟩
                         have n5_ : Aside0 (w.heap.size ≤ gb290) := ⟨h5_⟩
                         have n6_ : Aside0 (gb269 ≠ gb290) := ⟨h6_⟩
                         have n7_ : Aside0 (gb290 ≠ gb269) := ⟨h7_⟩
                         have n8_ : Aside0 (gb270 ≠ gb290) := ⟨h8_⟩
                         have n9_ : Aside0 (gb290 ≠ gb270) := ⟨h9_⟩
                         have n10_ : Aside0 (gb271 ≠ gb290) := ⟨h10_⟩
                         have n11_ : Aside0 (gb290 ≠ gb271) := ⟨h11_⟩
                         have n12_ : Aside0 (Below w.heap.size w w32) := ⟨h12_⟩
                         clear BK269
                         clear BK270
                         clear BK271
                         clear HB
                         clear h0_ h1_ h2_ h3_ h4_ h5_ h6_ h7_ h8_ h9_ h10_ h11_ h12_
                         have BK269 := n0_
                         have BK270 := n1_
                         have BK271 := n2_
                         have BK290 := n3_
                         have GW290 := n4_
                         have GE290 := n5_
                         have NB269_290 := n6_
                         have NB290_269 := n7_
                         have NB270_290 := n8_
                         have NB290_270 := n9_
                         have NB271_290 := n10_
                         have NB290_271 := n11_
                         have HB := n12_
                         clear n0_ n1_ n2_ n3_ n4_ n5_ n6_ n7_ n8_ n9_ n10_ n11_ n12_
                         have hHeld : w32.cell? ⟨gb269, 0, none⟩ = some (.slice A0_0 l0_0.length c0_0) ∧ w32.cell? ⟨gb270, 0, none⟩ = some (.slice A1_0 l1_0.length c1_0) := hS_
                         refine norm_ (a' := ?_) ?_ ?_
                         rotate_left
                         · simp only [putAll, Act.put, z1_, z2_, z3_]
                           rfl
                         refine on_ HT_ 1 19 (B_ 1031 13) (fun K hK => ?_)
                         refine goes_ Try.func54 (by kernel_rfl) rfl #[.agg #[.slice A0_0 l0_0.length c0_0]] (by rfl) rfl rfl (by (try simp only [List.map_toArray, List.map_cons, List.map_nil]); first | done | rfl | (simp only [List.length_drop, List.length_take]; rfl)) ?_
                         with_reducible refine (spec_l4Gaps.calls kj2 _ _ l0_0 t274 _ ?side1 ?side2 A25.out).mono ?_
                         (case side1 => exact ch_ HR0_0 HB)
                         (case side2 => exact HC0_0.out)
                         rintro e w33 ⟨v275, rfl, ho0, hb⟩
                         refine ⟨_, rfl, ?_⟩
                         have HO276 := Aside0.mk (Kd.R_lower ho0 (below_size (bq_ HB)))
                         replace BK269 := bk_ BK269 hb
                         replace BK270 := bk_ BK270 hb
                         replace BK271 := bk_ BK271 hb
                         replace BK290 := bk_ BK290 hb
                         replace HB := bp_ HB hb
                         (try clear hb)
                         (try clear ho0)
                         refine hK.out _ _ ⟨(blk_cell BK269.out 0).trans rfl, (blk_cell BK270.out 0).trans rfl⟩ (fun hHeld => ?_)
                         clear hK K
                         refine norm_ (a' := ?_) ?_ ?_
                         rotate_left
                         · show Act.put _ (some 19) _ = _
                           simp only [Act.put, z1_, z2_, z3_, i64_w, i32_w]
                           rfl
                         exact norm_ (by first | (simp only [putAll, Act.put, z1_, z2_, z3_]; done) | (simp only [putAll, Act.put, z1_, z2_, z3_]; rfl)) (hJ1_10 (v275, gb290) _ ⟨hHeld, (re_ HO276.out), (be_ BK269.out), (be_ BK270.out), (be_ BK271.out), (be_ BK290.out), GW290.out, GE290.out, NB269_290.out, NB290_269.out, NB270_290.out, NB290_270.out, NB271_290.out, NB290_271.out, (bq_ HB)⟩)
                     · skip
                       rintro v275 w32 ⟨hS_, h0_, h1_, h2_, h3_, h4_⟩
                       have n0_ : Aside0 (Kd.R (Kd.int .i64) 3 w32 w.heap.size (fun _ => True) v275 t274) := ⟨h0_⟩
                       have n1_ : Aside0 (w32.heap[gb269]? = some (.cells #[.slice A0_0 l0_0.length c0_0] 26 (0, 0))) := ⟨h1_⟩
                       have n2_ : Aside0 (w32.heap[gb270]? = some (.cells #[.slice A1_0 l1_0.length c1_0] 26 (0, 0))) := ⟨h2_⟩
                       have n3_ : Aside0 (w32.heap[gb271]? = some (.cells #[.slice none 0 0] 26 (0, 0))) := ⟨h3_⟩
                       have n4_ : Aside0 (Below w.heap.size w w32) := ⟨h4_⟩
                       clear BK269
                       clear BK270
                       clear BK271
                       clear HB
                       clear h0_ h1_ h2_ h3_ h4_
                       have HO276 := n0_
                       have BK269 := n1_
                       have BK270 := n2_
                       have BK271 := n3_
                       have HB := n4_
                       clear n0_ n1_ n2_ n3_ n4_
                       have hHeld : w32.cell? ⟨gb269, 0, none⟩ = some (.slice A0_0 l0_0.length c0_0) ∧ w32.cell? ⟨gb270, 0, none⟩ = some (.slice A1_0 l1_0.length c1_0) := hS_
                       refine norm_ (a' := ?_) ?_ ?_
                       rotate_left
                       · simp only [putAll, Act.put, z1_, z2_, z3_]
                         rfl
                       refine two_ (i := 3) (j := 10) (Ni := some 21) (Nj := some 6) (B_ 15 13) (B_ 1031 13) rfl rfl rfl rfl (two_of HT_.out (by kernel_rfl)) (by decide) (by decide) (fun K hK => ?_) (fun K hK => ?_)
                       · skip
                         refine goes_ Try.func54 (by kernel_rfl) rfl #[.agg #[.slice A1_0 l1_0.length c1_0]] (by rfl) rfl rfl (by (try simp only [List.map_toArray, List.map_cons, List.map_nil]); first | done | rfl | (simp only [List.length_drop, List.length_take]; rfl)) ?_
                         with_reducible refine (spec_l4Gaps.calls kj2 _ _ l1_0 t277 _ ?side1 ?side2 A26.out).mono ?_
                         (case side1 => exact ch_ HR1_0 HB)
                         (case side2 => exact HC1_0.out)
                         rintro e w33 ⟨v278, rfl, ho0, hb⟩
                         refine ⟨_, rfl, ?_⟩
                         have HO279 := Aside0.mk (Kd.R_lower (Kd.R_new' ho0 (Kd.R_lt (re_ HO276.out))) (below_size (bq_ HB)))
                         replace HO276 := Aside0.mk (Kd.R_elder' (re_ HO276.out) (Kd.R_base ho0) hb)
                         replace BK269 := bk_ BK269 hb
                         replace BK270 := bk_ BK270 hb
                         replace BK271 := bk_ BK271 hb
                         replace HB := bp_ HB hb
                         (try clear hb)
                         (try clear ho0)
                         refine hK.out _ _ ⟨(blk_cell BK269.out 0).trans rfl, (blk_cell BK270.out 0).trans rfl⟩ (fun hHeld => ?_)
                         clear hK K
                         refine norm_ (a' := ?_) ?_ ?_
                         rotate_left
                         · show Act.put _ (some 21) _ = _
                           simp only [Act.put, z1_, z2_, z3_, i64_w, i32_w]
                           rfl
                         exact norm_ (by first | (simp only [putAll, Act.put, z1_, z2_, z3_]; done) | (simp only [putAll, Act.put, z1_, z2_, z3_]; rfl)) (hJ1_3 (v275, v278) _ ⟨hHeld, (by (with_reducible repeat (first | apply Kd.R_alloc | apply Kd.R_drewN | apply Kd.R_drew)); exact Kd.R_mono HO276.out (fun _ hk => hk.2)), (by (with_reducible repeat (first | apply Kd.R_alloc | apply Kd.R_drewN | apply Kd.R_drew)); exact Kd.R_mono HO279.out (fun _ hk => hk.2)), (be_ BK269.out), (be_ BK270.out), (be_ BK271.out), (bq_ HB)⟩)
                       · skip
                         refine box_step ?hg (N := 6) ?hd (cs := #[.slice none 0 0]) (t := 26) ?hr ?_; (case hd => rfl); (case hg => rfl); (case hr => first | (go_simp; done) | (go_simp; rfl))
                         intro gb290 hg w33 hbox hb
                         replace HO276 := Aside0.mk (Kd.R_below (re_ HO276.out) hb)
                         have BK290 := Aside0.mk (hbox)
                         have GW290 := gq_ hg (bq_ HB)
                         have GE290 := gq_ hg (bq_ HB)
                         replace HB := bp_ HB hb
                         have NB269_290 := nl_ hg BK269
                         have NB290_269 := ng_ hg BK269
                         replace BK269 := bk_ BK269 hb
                         have NB270_290 := nl_ hg BK270
                         have NB290_270 := ng_ hg BK270
                         replace BK270 := bk_ BK270 hb
                         have NB271_290 := nl_ hg BK271
                         have NB290_271 := ng_ hg BK271
                         replace BK271 := bk_ BK271 hb
                         clear hb hbox hg
                         refine hK.out _ _ ⟨(blk_cell BK269.out 0).trans rfl, (blk_cell BK270.out 0).trans rfl⟩ (fun hHeld => ?_)
                         clear hK K
                         refine norm_ (a' := ?_) ?_ ?_
                         rotate_left
                         · show Act.put _ (some 6) _ = _
                           simp only [Act.put, z1_, z2_, z3_, i64_w, i32_w]
                           rfl
                         exact norm_ (by first | (simp only [putAll, Act.put, z1_, z2_, z3_]; done) | (simp only [putAll, Act.put, z1_, z2_, z3_]; rfl)) (hJ1_10 (v275, gb290) _ ⟨hHeld, (re_ HO276.out), (be_ BK269.out), (be_ BK270.out), (be_ BK271.out), (be_ BK290.out), GW290.out, GE290.out, NB269_290.out, NB290_269.out, NB270_290.out, NB290_270.out, NB271_290.out, NB290_271.out, (bq_ HB)⟩)
                   · skip
                     rintro ⟨v275, gb290⟩ w33 ⟨hS_, h0_, h1_, h2_, h3_, h4_, h5_, h6_, h7_, h8_, h9_, h10_, h11_, h12_, h13_⟩
                     have n0_ : Aside0 (Kd.R (Kd.int .i64) 3 w33 w.heap.size (fun _ => True) v275 t274) := ⟨h0_⟩
                     have n1_ : Aside0 (w33.heap[gb269]? = some (.cells #[.slice A0_0 l0_0.length c0_0] 26 (0, 0))) := ⟨h1_⟩
                     have n2_ : Aside0 (w33.heap[gb270]? = some (.cells #[.slice A1_0 l1_0.length c1_0] 26 (0, 0))) := ⟨h2_⟩
                     have n3_ : Aside0 (w33.heap[gb271]? = some (.cells #[.slice none 0 0] 26 (0, 0))) := ⟨h3_⟩
                     have n4_ : Aside0 (w33.heap[gb290]? = some (.cells #[.slice none 0 0] 26 (0, 0))) := ⟨h4_⟩
                     have n5_ : Aside0 (w.heap.size ≤ gb290) := ⟨h5_⟩
                     have n6_ : Aside0 (w.heap.size ≤ gb290) := ⟨h6_⟩
                     have n7_ : Aside0 (gb269 ≠ gb290) := ⟨h7_⟩
                     have n8_ : Aside0 (gb290 ≠ gb269) := ⟨h8_⟩
                     have n9_ : Aside0 (gb270 ≠ gb290) := ⟨h9_⟩
                     have n10_ : Aside0 (gb290 ≠ gb270) := ⟨h10_⟩
                     have n11_ : Aside0 (gb271 ≠ gb290) := ⟨h11_⟩
                     have n12_ : Aside0 (gb290 ≠ gb271) := ⟨h12_⟩
                     have n13_ : Aside0 (Below w.heap.size w w33) := ⟨h13_⟩
                     clear BK269
                     clear BK270
                     clear BK271
                     clear HB
                     clear h0_ h1_ h2_ h3_ h4_ h5_ h6_ h7_ h8_ h9_ h10_ h11_ h12_ h13_
                     have HO276 := n0_
                     have BK269 := n1_
                     have BK270 := n2_
                     have BK271 := n3_
                     have BK290 := n4_
                     have GW290 := n5_
                     have GE290 := n6_
                     have NB269_290 := n7_
                     have NB290_269 := n8_
                     have NB270_290 := n9_
                     have NB290_270 := n10_
                     have NB271_290 := n11_
                     have NB290_271 := n12_
                     have HB := n13_
                     clear n0_ n1_ n2_ n3_ n4_ n5_ n6_ n7_ n8_ n9_ n10_ n11_ n12_ n13_
                     have hHeld : w33.cell? ⟨gb269, 0, none⟩ = some (.slice A0_0 l0_0.length c0_0) ∧ w33.cell? ⟨gb270, 0, none⟩ = some (.slice A1_0 l1_0.length c1_0) := hS_
                     refine norm_ (a' := ?_) ?_ ?_
                     rotate_left
                     · simp only [putAll, Act.put, z1_, z2_, z3_]
                       rfl
                     refine on_ HT_ 3 21 (B_ 1039 13) (fun K hK => ?_)
                     refine goes_ Try.func54 (by kernel_rfl) rfl #[.agg #[.slice A1_0 l1_0.length c1_0]] (by rfl) rfl rfl (by (try simp only [List.map_toArray, List.map_cons, List.map_nil]); first | done | rfl | (simp only [List.length_drop, List.length_take]; rfl)) ?_
                     with_reducible refine (spec_l4Gaps.calls kj2 _ _ l1_0 t277 _ ?side1 ?side2 A26.out).mono ?_
                     (case side1 => exact ch_ HR1_0 HB)
                     (case side2 => exact HC1_0.out)
                     rintro e w34 ⟨v278, rfl, ho0, hb⟩
                     refine ⟨_, rfl, ?_⟩
                     have HO279 := Aside0.mk (Kd.R_lower (Kd.R_new' ho0 (Kd.R_lt (re_ HO276.out))) (below_size (bq_ HB)))
                     replace HO276 := Aside0.mk (Kd.R_elder' (re_ HO276.out) (Kd.R_base ho0) hb)
                     replace BK269 := bk_ BK269 hb
                     replace BK270 := bk_ BK270 hb
                     replace BK271 := bk_ BK271 hb
                     replace BK290 := bk_ BK290 hb
                     replace HB := bp_ HB hb
                     (try clear hb)
                     (try clear ho0)
                     refine hK.out _ _ ⟨(blk_cell BK269.out 0).trans rfl, (blk_cell BK270.out 0).trans rfl⟩ (fun hHeld => ?_)
                     clear hK K
                     refine norm_ (a' := ?_) ?_ ?_
                     rotate_left
                     · show Act.put _ (some 21) _ = _
                       simp only [Act.put, z1_, z2_, z3_, i64_w, i32_w]
                       rfl
                     exact norm_ (by first | (simp only [putAll, Act.put, z1_, z2_, z3_]; done) | (simp only [putAll, Act.put, z1_, z2_, z3_]; rfl)) (hJ1_3_10 (v275, v278, gb290) _ ⟨hHeld, (by (with_reducible repeat (first | apply Kd.R_alloc | apply Kd.R_drewN | apply Kd.R_drew)); exact Kd.R_mono HO276.out (fun _ hk => hk.2)), (by (with_reducible repeat (first | apply Kd.R_alloc | apply Kd.R_drewN | apply Kd.R_drew)); exact Kd.R_mono HO279.out (fun _ hk => hk.2)), (be_ BK269.out), (be_ BK270.out), (be_ BK271.out), (be_ BK290.out), GW290.out, GE290.out, NB269_290.out, NB290_269.out, NB270_290.out, NB290_270.out, NB271_290.out, NB290_271.out, (bq_ HB)⟩)
                 · skip
                   rintro ⟨v275, v278⟩ w33 ⟨hS_, h0_, h1_, h2_, h3_, h4_, h5_⟩
                   have n0_ : Aside0 (Kd.R (Kd.int .i64) 3 w33 w.heap.size (fun k_ => some k_ ≠ (v278 : Value).ownBlock) v275 t274) := ⟨h0_⟩
                   have n1_ : Aside0 (Kd.R (Kd.int .i64) 3 w33 w.heap.size (fun k_ => some k_ ≠ (v275 : Value).ownBlock) v278 t277) := ⟨h1_⟩
                   have n2_ : Aside0 (w33.heap[gb269]? = some (.cells #[.slice A0_0 l0_0.length c0_0] 26 (0, 0))) := ⟨h2_⟩
                   have n3_ : Aside0 (w33.heap[gb270]? = some (.cells #[.slice A1_0 l1_0.length c1_0] 26 (0, 0))) := ⟨h3_⟩
                   have n4_ : Aside0 (w33.heap[gb271]? = some (.cells #[.slice none 0 0] 26 (0, 0))) := ⟨h4_⟩
                   have n5_ : Aside0 (Below w.heap.size w w33) := ⟨h5_⟩
                   clear BK269
                   clear BK270
                   clear BK271
                   clear HB
                   clear h0_ h1_ h2_ h3_ h4_ h5_
                   have HO276 := n0_
                   have HO279 := n1_
                   have BK269 := n2_
                   have BK270 := n3_
                   have BK271 := n4_
                   have HB := n5_
                   clear n0_ n1_ n2_ n3_ n4_ n5_
                   have hHeld : w33.cell? ⟨gb269, 0, none⟩ = some (.slice A0_0 l0_0.length c0_0) ∧ w33.cell? ⟨gb270, 0, none⟩ = some (.slice A1_0 l1_0.length c1_0) := hS_
                   obtain ⟨Ao35, co35, eo35⟩ := Kd.R_slice HO279.out
                   (first | subst eo35 | (injection eo35 with f1_ f2_ f3_; have f4_ := f1_.symm; have f5_ := f3_.symm; clear f1_ f2_ f3_; subst f4_; subst f5_))
                   refine norm_ (a' := ?_) ?_ ?_
                   rotate_left
                   · simp only [putAll, Act.put, z1_, z2_, z3_]
                     rfl
                   refine two_ (i := 4) (j := 10) (Ni := some 22) (Nj := some 6) (B_ 31 13) (B_ 1039 13) rfl rfl rfl rfl (two_of HT_.out (by kernel_rfl)) (by decide) (by decide) (fun K hK => ?_) (fun K hK => ?_)
                   · skip
                     refine Kd.R_append_rows_step (Kd.int .i64) (w0 := w) w.heap.size (by rfl) (.tmp 19) (.tmp 21) 24 3 (.int .i64 0) 8 rfl Try.underlying24 info3 rfl (by decide) (by omega) v275 t274 t277 _ _ _ (fun k_ => some k_ ≠ (.slice Ao35 t277.length co35 : Value).ownBlock) (fun _ => False) rfl rfl ?aO ?aR (fun _ _ h => h) (fun _ h => h.elim) ?aF ?aB ?aS ?aL ?_
                     (case aR => exact ce_ ((Kd.R_reads' HO279.out).2.2))
                     (case aB => exact (bq_ HB))
                     (case aF => exact (fun k_ hk => Kd.fresh' (Kd.R_lt (re_ HO279.out)) k_ hk))
                     (case aO => exact (re_ HO276.out))
                     (case aS => exact (below_size (bq_ HB)))
                     (case aL => have := LMc27.out; omega)
                     intro v281 w34 ho hb hg hat
                     rw [← Ny280.out] at ho
                     replace BK269 := Aside0.mk (blk_grown (be_ BK269.out) hg (Kd.R_ne HO276.out BK269.out (by decide)))
                     replace BK270 := Aside0.mk (blk_grown (be_ BK270.out) hg (Kd.R_ne HO276.out BK270.out (by decide)))
                     replace BK271 := Aside0.mk (blk_grown (be_ BK271.out) hg (Kd.R_ne HO276.out BK271.out (by decide)))
                     replace HO279 := Aside0.mk (Kd.R_after (ok := (fun _ => True)) (by (with_reducible repeat (first | apply Kd.R_alloc | apply Kd.R_drewN | apply Kd.R_drew)); exact Kd.R_mono HO279.out (fun _ hk => ⟨trivial, hk⟩)) hg hat)
                     replace HB := Aside0.mk (hb)
                     have HO282 := Aside0.mk (ho)
                     clear HO276
                     clear ho hb hg hat
                     refine hK.out _ _ ⟨(blk_cell BK269.out 0).trans rfl, (blk_cell BK270.out 0).trans rfl⟩ (fun hHeld => ?_)
                     clear hK K
                     refine norm_ (a' := ?_) ?_ ?_
                     rotate_left
                     · show Act.put _ (some 22) _ = _
                       simp only [Act.put, z1_, z2_, z3_, i64_w, i32_w]
                       rfl
                     exact norm_ (by first | (simp only [putAll, Act.put, z1_, z2_, z3_]; done) | (simp only [putAll, Act.put, z1_, z2_, z3_]; rfl)) (hJ1_3_4 (v275, .slice Ao35 t277.length co35, v281) _ ⟨hHeld, (by (with_reducible repeat (first | apply Kd.R_alloc | apply Kd.R_drewN | apply Kd.R_drew)); exact Kd.R_mono HO279.out (fun _ hk => hk.2)), (re_ HO282.out), (be_ BK269.out), (be_ BK270.out), (be_ BK271.out), (bq_ HB)⟩)
                   · skip
                     refine box_step ?hg (N := 6) ?hd (cs := #[.slice none 0 0]) (t := 26) ?hr ?_; (case hd => rfl); (case hg => rfl); (case hr => first | (go_simp; done) | (go_simp; rfl))
                     intro gb290 hg w34 hbox hb
                     replace HO276 := Aside0.mk (Kd.R_below (re_ HO276.out) hb)
                     replace HO279 := Aside0.mk (Kd.R_below (re_ HO279.out) hb)
                     have BK290 := Aside0.mk (hbox)
                     have GW290 := gq_ hg (bq_ HB)
                     have GE290 := gq_ hg (bq_ HB)
                     replace HB := bp_ HB hb
                     have NB269_290 := nl_ hg BK269
                     have NB290_269 := ng_ hg BK269
                     replace BK269 := bk_ BK269 hb
                     have NB270_290 := nl_ hg BK270
                     have NB290_270 := ng_ hg BK270
                     replace BK270 := bk_ BK270 hb
                     have NB271_290 := nl_ hg BK271
                     have NB290_271 := ng_ hg BK271
                     replace BK271 := bk_ BK271 hb
                     clear hb hbox hg
                     refine hK.out _ _ ⟨(blk_cell BK269.out 0).trans rfl, (blk_cell BK270.out 0).trans rfl⟩ (fun hHeld => ?_)
                     clear hK K
                     refine norm_ (a' := ?_) ?_ ?_
                     rotate_left
                     · show Act.put _ (some 6) _ = _
                       simp only [Act.put, z1_, z2_, z3_, i64_w, i32_w]
                       rfl
                     exact norm_ (by first | (simp only [putAll, Act.put, z1_, z2_, z3_]; done) | (simp only [putAll, Act.put, z1_, z2_, z3_]; rfl)) (hJ1_3_10 (v275, .slice Ao35 t277.length co35, gb290) _ ⟨hHeld, (re_ HO276.out), (re_ HO279.out), (be_ BK269.out), (be_ BK270.out), (be_ BK271.out), (be_ BK290.out), GW290.out, GE290.out, NB269_290.out, NB290_269.out, NB270_290.out, NB290_270.out, NB271_290.out, NB290_271.out, (bq_ HB)⟩)
               · skip
                 rintro ⟨v275, v278, gb290⟩ w34 ⟨hS_, h0_, h1_, h2_, h3_, h4_, h5_, h6_, h7_, h8_, h9_, h10_, h11_, h12_, h13_, h14_⟩
                 have n0_ : Aside0 (Kd.R (Kd.int .i64) 3 w34 w.heap.size (fun k_ => some k_ ≠ (v278 : Value).ownBlock) v275 t274) := ⟨h0_⟩
                 have n1_ : Aside0 (Kd.R (Kd.int .i64) 3 w34 w.heap.size (fun k_ => some k_ ≠ (v275 : Value).ownBlock) v278 t277) := ⟨h1_⟩
                 have n2_ : Aside0 (w34.heap[gb269]? = some (.cells #[.slice A0_0 l0_0.length c0_0] 26 (0, 0))) := ⟨h2_⟩
                 have n3_ : Aside0 (w34.heap[gb270]? = some (.cells #[.slice A1_0 l1_0.length c1_0] 26 (0, 0))) := ⟨h3_⟩
                 have n4_ : Aside0 (w34.heap[gb271]? = some (.cells #[.slice none 0 0] 26 (0, 0))) := ⟨h4_⟩
                 have n5_ : Aside0 (w34.heap[gb290]? = some (.cells #[.slice none 0 0] 26 (0, 0))) := ⟨h5_⟩
                 have n6_ : Aside0 (w.heap.size ≤ gb290) := ⟨h6_⟩
                 have n7_ : Aside0 (w.heap.size ≤ gb290) := ⟨h7_⟩
                 have n8_ : Aside0 (gb269 ≠ gb290) := ⟨h8_⟩
                 have n9_ : Aside0 (gb290 ≠ gb269) := ⟨h9_⟩
                 have n10_ : Aside0 (gb270 ≠ gb290) := ⟨h10_⟩
                 have n11_ : Aside0 (gb290 ≠ gb270) := ⟨h11_⟩
                 have n12_ : Aside0 (gb271 ≠ gb290) := ⟨h12_⟩
                 have n13_ : Aside0 (gb290 ≠ gb271) := ⟨h13_⟩
                 have n14_ : Aside0 (Below w.heap.size w w34) := ⟨h14_⟩
                 clear BK269
                 clear BK270
                 clear BK271
                 clear HB
                 clear h0_ h1_ h2_ h3_ h4_ h5_ h6_ h7_ h8_ h9_ h10_ h11_ h12_ h13_ h14_
                 have HO276 := n0_
                 have HO279 := n1_
                 have BK269 := n2_
                 have BK270 := n3_
                 have BK271 := n4_
                 have BK290 := n5_
                 have GW290 := n6_
                 have GE290 := n7_
                 have NB269_290 := n8_
                 have NB290_269 := n9_
                 have NB270_290 := n10_
                 have NB290_270 := n11_
                 have NB271_290 := n12_
                 have NB290_271 := n13_
                 have HB := n14_
                 clear n0_ n1_ n2_ n3_ n4_ n5_ n6_ n7_ n8_ n9_ n10_ n11_ n12_ n13_ n14_
                 have hHeld : w34.cell? ⟨gb269, 0, none⟩ = some (.slice A0_0 l0_0.length c0_0) ∧ w34.cell? ⟨gb270, 0, none⟩ = some (.slice A1_0 l1_0.length c1_0) := hS_
                 obtain ⟨Ao36, co36, eo36⟩ := Kd.R_slice HO279.out
                 (first | subst eo36 | (injection eo36 with f1_ f2_ f3_; have f4_ := f1_.symm; have f5_ := f3_.symm; clear f1_ f2_ f3_; subst f4_; subst f5_))
                 refine norm_ (a' := ?_) ?_ ?_
                 rotate_left
                 · simp only [putAll, Act.put, z1_, z2_, z3_]
                   rfl
                 refine on_ HT_ 4 22 (B_ 1055 13) (fun K hK => ?_)
                 refine Kd.R_append_rows_step (Kd.int .i64) (w0 := w) w.heap.size (by rfl) (.tmp 19) (.tmp 21) 24 3 (.int .i64 0) 8 rfl Try.underlying24 info3 rfl (by decide) (by omega) v275 t274 t277 _ _ _ (fun k_ => some k_ ≠ (.slice Ao36 t277.length co36 : Value).ownBlock) (fun _ => False) rfl rfl ?aO ?aR (fun _ _ h => h) (fun _ h => h.elim) ?aF ?aB ?aS ?aL ?_
                 (case aR => exact ce_ ((Kd.R_reads' HO279.out).2.2))
                 (case aB => exact (bq_ HB))
                 (case aF => exact (fun k_ hk => Kd.fresh' (Kd.R_lt (re_ HO279.out)) k_ hk))
                 (case aO => exact (re_ HO276.out))
                 (case aS => exact (below_size (bq_ HB)))
                 (case aL => have := LMc27.out; omega)
                 intro v281 w35 ho hb hg hat
                 rw [← Ny280.out] at ho
                 replace BK269 := Aside0.mk (blk_grown (be_ BK269.out) hg (Kd.R_ne HO276.out BK269.out (by decide)))
                 replace BK270 := Aside0.mk (blk_grown (be_ BK270.out) hg (Kd.R_ne HO276.out BK270.out (by decide)))
                 replace BK271 := Aside0.mk (blk_grown (be_ BK271.out) hg (Kd.R_ne HO276.out BK271.out (by decide)))
                 replace HO279 := Aside0.mk (Kd.R_after (ok := (fun _ => True)) (by (with_reducible repeat (first | apply Kd.R_alloc | apply Kd.R_drewN | apply Kd.R_drew)); exact Kd.R_mono HO279.out (fun _ hk => ⟨trivial, hk⟩)) hg hat)
                 replace BK290 := Aside0.mk (blk_grown (be_ BK290.out) hg (Kd.R_ne HO276.out BK290.out (by decide)))
                 replace HB := Aside0.mk (hb)
                 have HO282 := Aside0.mk (ho)
                 clear HO276
                 clear ho hb hg hat
                 refine hK.out _ _ ⟨(blk_cell BK269.out 0).trans rfl, (blk_cell BK270.out 0).trans rfl⟩ (fun hHeld => ?_)
                 clear hK K
                 refine norm_ (a' := ?_) ?_ ?_
                 rotate_left
                 · show Act.put _ (some 22) _ = _
                   simp only [Act.put, z1_, z2_, z3_, i64_w, i32_w]
                   rfl
                 exact norm_ (by first | (simp only [putAll, Act.put, z1_, z2_, z3_]; done) | (simp only [putAll, Act.put, z1_, z2_, z3_]; rfl)) (hJ1_3_4_10 (v275, .slice Ao36 t277.length co36, v281, gb290) _ ⟨hHeld, (by (with_reducible repeat (first | apply Kd.R_alloc | apply Kd.R_drewN | apply Kd.R_drew)); exact Kd.R_mono HO279.out (fun _ hk => hk.2)), (re_ HO282.out), (be_ BK269.out), (be_ BK270.out), (be_ BK271.out), (be_ BK290.out), GW290.out, GE290.out, NB269_290.out, NB290_269.out, NB270_290.out, NB290_270.out, NB271_290.out, NB290_271.out, (bq_ HB)⟩)
             · skip
               rintro ⟨v275, v278, v281⟩ w35 ⟨hS_, h0_, h1_, h2_, h3_, h4_, h5_⟩
               have n0_ : Aside0 (Kd.R (Kd.int .i64) 3 w35 w.heap.size (fun k_ => some k_ ≠ (v281 : Value).ownBlock) v278 t277) := ⟨h0_⟩
               have n1_ : Aside0 (Kd.R (Kd.int .i64) 3 w35 w.heap.size (fun k_ => some k_ ≠ (v278 : Value).ownBlock) v281 y280) := ⟨h1_⟩
               have n2_ : Aside0 (w35.heap[gb269]? = some (.cells #[.slice A0_0 l0_0.length c0_0] 26 (0, 0))) := ⟨h2_⟩
               have n3_ : Aside0 (w35.heap[gb270]? = some (.cells #[.slice A1_0 l1_0.length c1_0] 26 (0, 0))) := ⟨h3_⟩
               have n4_ : Aside0 (w35.heap[gb271]? = some (.cells #[.slice none 0 0] 26 (0, 0))) := ⟨h4_⟩
               have n5_ : Aside0 (Below w.heap.size w w35) := ⟨h5_⟩
               clear BK269
               clear BK270
               clear BK271
               clear HB
               clear h0_ h1_ h2_ h3_ h4_ h5_
               have HO279 := n0_
               have HO282 := n1_
               have BK269 := n2_
               have BK270 := n3_
               have BK271 := n4_
               have HB := n5_
               clear n0_ n1_ n2_ n3_ n4_ n5_
               have hHeld : w35.cell? ⟨gb269, 0, none⟩ = some (.slice A0_0 l0_0.length c0_0) ∧ w35.cell? ⟨gb270, 0, none⟩ = some (.slice A1_0 l1_0.length c1_0) := hS_
               obtain ⟨Ao36, co36, eo36⟩ := Kd.R_slice HO282.out
               (first | subst eo36 | (injection eo36 with f1_ f2_ f3_; have f4_ := f1_.symm; have f5_ := f3_.symm; clear f1_ f2_ f3_; subst f4_; subst f5_))
               refine norm_ (a' := ?_) ?_ ?_
               rotate_left
               · simp only [putAll, Act.put, z1_, z2_, z3_]
                 rfl
               refine two_ (i := 5) (j := 10) (Ni := some 23) (Nj := some 6) (B_ 63 13) (B_ 1055 13) rfl rfl rfl rfl (two_of HT_.out (by kernel_rfl)) (by decide) (by decide) (fun K hK => ?_) (fun K hK => ?_)
               · skip
                 refine goes_ Try.func53 (by kernel_rfl) rfl #[.slice Ao36 y280.length co36] (by rfl) rfl rfl (by (try simp only [List.map_toArray, List.map_cons, List.map_nil]); first | done | rfl | (simp only [List.length_drop, List.length_take]; rfl)) ?_
                 with_reducible refine (spec_SortList.calls kj2 _ _ y280 t283 _ ?side1 ?side2 A28.out).mono ?_
                 (case side1 => exact ce_ ((Kd.R_reads' HO282.out).2.2))
                 (case side2 => exact (Kd.R_reads' HO282.out).2.1)
                 rintro e w37 ⟨v284, rfl, ho0, hb⟩
                 refine ⟨_, rfl, ?_⟩
                 have HO285 := Aside0.mk (Kd.R_lower (Kd.R_new' (Kd.R_new' ho0 (Kd.R_lt (re_ HO279.out))) (Kd.R_lt (re_ HO282.out))) (below_size (bq_ HB)))
                 replace HO279 := Aside0.mk (Kd.R_elder' (re_ HO279.out) (Kd.R_base ho0) hb)
                 replace HO282 := Aside0.mk (Kd.R_elder' (re_ HO282.out) (Kd.R_base ho0) hb)
                 replace BK269 := bk_ BK269 hb
                 replace BK270 := bk_ BK270 hb
                 replace BK271 := bk_ BK271 hb
                 replace HB := bp_ HB hb
                 (try clear hb)
                 (try clear ho0)
                 refine hK.out _ _ ⟨(blk_cell BK269.out 0).trans rfl, (blk_cell BK270.out 0).trans rfl⟩ (fun hHeld => ?_)
                 clear hK K
                 refine norm_ (a' := ?_) ?_ ?_
                 rotate_left
                 · show Act.put _ (some 23) _ = _
                   simp only [Act.put, z1_, z2_, z3_, i64_w, i32_w]
                   rfl
                 exact norm_ (by first | (simp only [putAll, Act.put, z1_, z2_, z3_]; done) | (simp only [putAll, Act.put, z1_, z2_, z3_]; rfl)) (hJ1_3_4_5 (v275, v278, .slice Ao36 y280.length co36, v284) _ ⟨hHeld, (re_ HO279.out), (re_ HO282.out), (by (with_reducible repeat (first | apply Kd.R_alloc | apply Kd.R_drewN | apply Kd.R_drew)); exact Kd.R_mono HO285.out (fun _ hk => ⟨hk.1.2, hk.2⟩)), (be_ BK269.out), (be_ BK270.out), (be_ BK271.out), (bq_ HB)⟩)
               · skip
                 refine box_step ?hg (N := 6) ?hd (cs := #[.slice none 0 0]) (t := 26) ?hr ?_; (case hd => rfl); (case hg => rfl); (case hr => first | (go_simp; done) | (go_simp; rfl))
                 intro gb290 hg w36 hbox hb
                 replace HO279 := Aside0.mk (Kd.R_below (re_ HO279.out) hb)
                 replace HO282 := Aside0.mk (Kd.R_below (re_ HO282.out) hb)
                 have BK290 := Aside0.mk (hbox)
                 have GW290 := gq_ hg (bq_ HB)
                 have GE290 := gq_ hg (bq_ HB)
                 replace HB := bp_ HB hb
                 have NB269_290 := nl_ hg BK269
                 have NB290_269 := ng_ hg BK269
                 replace BK269 := bk_ BK269 hb
                 have NB270_290 := nl_ hg BK270
                 have NB290_270 := ng_ hg BK270
                 replace BK270 := bk_ BK270 hb
                 have NB271_290 := nl_ hg BK271
                 have NB290_271 := ng_ hg BK271
                 replace BK271 := bk_ BK271 hb
                 clear hb hbox hg
                 refine hK.out _ _ ⟨(blk_cell BK269.out 0).trans rfl, (blk_cell BK270.out 0).trans rfl⟩ (fun hHeld => ?_)
                 clear hK K
                 refine norm_ (a' := ?_) ?_ ?_
                 rotate_left
                 · show Act.put _ (some 6) _ = _
                   simp only [Act.put, z1_, z2_, z3_, i64_w, i32_w]
                   rfl
                 exact norm_ (by first | (simp only [putAll, Act.put, z1_, z2_, z3_]; done) | (simp only [putAll, Act.put, z1_, z2_, z3_]; rfl)) (hJ1_3_4_10 (v275, v278, .slice Ao36 y280.length co36, gb290) _ ⟨hHeld, (re_ HO279.out), (re_ HO282.out), (be_ BK269.out), (be_ BK270.out), (be_ BK271.out), (be_ BK290.out), GW290.out, GE290.out, NB269_290.out, NB290_269.out, NB270_290.out, NB290_270.out, NB271_290.out, NB290_271.out, (bq_ HB)⟩)
           · skip
             rintro ⟨v275, v278, v281, gb290⟩ w36 ⟨hS_, h0_, h1_, h2_, h3_, h4_, h5_, h6_, h7_, h8_, h9_, h10_, h11_, h12_, h13_, h14_⟩
             have n0_ : Aside0 (Kd.R (Kd.int .i64) 3 w36 w.heap.size (fun k_ => some k_ ≠ (v281 : Value).ownBlock) v278 t277) := ⟨h0_⟩
             have n1_ : Aside0 (Kd.R (Kd.int .i64) 3 w36 w.heap.size (fun k_ => some k_ ≠ (v278 : Value).ownBlock) v281 y280) := ⟨h1_⟩
             have n2_ : Aside0 (w36.heap[gb269]? = some (.cells #[.slice A0_0 l0_0.length c0_0] 26 (0, 0))) := ⟨h2_⟩
             have n3_ : Aside0 (w36.heap[gb270]? = some (.cells #[.slice A1_0 l1_0.length c1_0] 26 (0, 0))) := ⟨h3_⟩
             have n4_ : Aside0 (w36.heap[gb271]? = some (.cells #[.slice none 0 0] 26 (0, 0))) := ⟨h4_⟩
             have n5_ : Aside0 (w36.heap[gb290]? = some (.cells #[.slice none 0 0] 26 (0, 0))) := ⟨h5_⟩
             have n6_ : Aside0 (w.heap.size ≤ gb290) := ⟨h6_⟩
             have n7_ : Aside0 (w.heap.size ≤ gb290) := ⟨h7_⟩
             have n8_ : Aside0 (gb269 ≠ gb290) := ⟨h8_⟩
             have n9_ : Aside0 (gb290 ≠ gb269) := ⟨h9_⟩
             have n10_ : Aside0 (gb270 ≠ gb290) := ⟨h10_⟩
             have n11_ : Aside0 (gb290 ≠ gb270) := ⟨h11_⟩
             have n12_ : Aside0 (gb271 ≠ gb290) := ⟨h12_⟩
             have n13_ : Aside0 (gb290 ≠ gb271) := ⟨h13_⟩
             have n14_ : Aside0 (Below w.heap.size w w36) := ⟨h14_⟩
             clear BK269
             clear BK270
             clear BK271
             clear HB
             clear h0_ h1_ h2_ h3_ h4_ h5_ h6_ h7_ h8_ h9_ h10_ h11_ h12_ h13_ h14_
             have HO279 := n0_
             have HO282 := n1_
             have BK269 := n2_
             have BK270 := n3_
             have BK271 := n4_
             have BK290 := n5_
             have GW290 := n6_
             have GE290 := n7_
             have NB269_290 := n8_
             have NB290_269 := n9_
             have NB270_290 := n10_
             have NB290_270 := n11_
             have NB271_290 := n12_
             have NB290_271 := n13_
             have HB := n14_
             clear n0_ n1_ n2_ n3_ n4_ n5_ n6_ n7_ n8_ n9_ n10_ n11_ n12_ n13_ n14_
             have hHeld : w36.cell? ⟨gb269, 0, none⟩ = some (.slice A0_0 l0_0.length c0_0) ∧ w36.cell? ⟨gb270, 0, none⟩ = some (.slice A1_0 l1_0.length c1_0) := hS_
             obtain ⟨Ao37, co37, eo37⟩ := Kd.R_slice HO282.out
             (first | subst eo37 | (injection eo37 with f1_ f2_ f3_; have f4_ := f1_.symm; have f5_ := f3_.symm; clear f1_ f2_ f3_; subst f4_; subst f5_))
             refine norm_ (a' := ?_) ?_ ?_
             rotate_left
             · simp only [putAll, Act.put, z1_, z2_, z3_]
               rfl
             refine on_ HT_ 5 23 (B_ 1087 13) (fun K hK => ?_)
             refine goes_ Try.func53 (by kernel_rfl) rfl #[.slice Ao37 y280.length co37] (by rfl) rfl rfl (by (try simp only [List.map_toArray, List.map_cons, List.map_nil]); first | done | rfl | (simp only [List.length_drop, List.length_take]; rfl)) ?_
             with_reducible refine (spec_SortList.calls kj2 _ _ y280 t283 _ ?side1 ?side2 A28.out).mono ?_
             (case side1 => exact ce_ ((Kd.R_reads' HO282.out).2.2))
             (case side2 => exact (Kd.R_reads' HO282.out).2.1)
             rintro e w38 ⟨v284, rfl, ho0, hb⟩
             refine ⟨_, rfl, ?_⟩
             have HO285 := Aside0.mk (Kd.R_lower (Kd.R_new' (Kd.R_new' ho0 (Kd.R_lt (re_ HO279.out))) (Kd.R_lt (re_ HO282.out))) (below_size (bq_ HB)))
             replace HO279 := Aside0.mk (Kd.R_elder' (re_ HO279.out) (Kd.R_base ho0) hb)
             replace HO282 := Aside0.mk (Kd.R_elder' (re_ HO282.out) (Kd.R_base ho0) hb)
             replace BK269 := bk_ BK269 hb
             replace BK270 := bk_ BK270 hb
             replace BK271 := bk_ BK271 hb
             replace BK290 := bk_ BK290 hb
             replace HB := bp_ HB hb
             (try clear hb)
             (try clear ho0)
             refine hK.out _ _ ⟨(blk_cell BK269.out 0).trans rfl, (blk_cell BK270.out 0).trans rfl⟩ (fun hHeld => ?_)
             clear hK K
             refine norm_ (a' := ?_) ?_ ?_
             rotate_left
             · show Act.put _ (some 23) _ = _
               simp only [Act.put, z1_, z2_, z3_, i64_w, i32_w]
               rfl
             exact norm_ (by first | (simp only [putAll, Act.put, z1_, z2_, z3_]; done) | (simp only [putAll, Act.put, z1_, z2_, z3_]; rfl)) (hJ1_3_4_5_10 (v275, v278, .slice Ao37 y280.length co37, v284, gb290) _ ⟨hHeld, (re_ HO279.out), (re_ HO282.out), (by (with_reducible repeat (first | apply Kd.R_alloc | apply Kd.R_drewN | apply Kd.R_drew)); exact Kd.R_mono HO285.out (fun _ hk => ⟨hk.1.2, hk.2⟩)), (be_ BK269.out), (be_ BK270.out), (be_ BK271.out), (be_ BK290.out), GW290.out, GE290.out, NB269_290.out, NB290_269.out, NB270_290.out, NB290_270.out, NB271_290.out, NB290_271.out, (bq_ HB)⟩)
         · skip
           rintro ⟨v275, v278, v281, v284⟩ w37 ⟨hS_, h0_, h1_, h2_, h3_, h4_, h5_, h6_⟩
           have n0_ : Aside0 (Kd.R (Kd.int .i64) 3 w37 w.heap.size (fun k_ => some k_ ≠ (v281 : Value).ownBlock ∧ some k_ ≠ (v284 : Value).ownBlock) v278 t277) := ⟨h0_⟩
           have n1_ : Aside0 (Kd.R (Kd.int .i64) 3 w37 w.heap.size (fun k_ => some k_ ≠ (v278 : Value).ownBlock ∧ some k_ ≠ (v284 : Value).ownBlock) v281 y280) := ⟨h1_⟩
           have n2_ : Aside0 (Kd.R (Kd.int .i64) 3 w37 w.heap.size (fun k_ => some k_ ≠ (v278 : Value).ownBlock ∧ some k_ ≠ (v281 : Value).ownBlock) v284 t283) := ⟨h2_⟩
           have n3_ : Aside0 (w37.heap[gb269]? = some (.cells #[.slice A0_0 l0_0.length c0_0] 26 (0, 0))) := ⟨h3_⟩
           have n4_ : Aside0 (w37.heap[gb270]? = some (.cells #[.slice A1_0 l1_0.length c1_0] 26 (0, 0))) := ⟨h4_⟩
           have n5_ : Aside0 (w37.heap[gb271]? = some (.cells #[.slice none 0 0] 26 (0, 0))) := ⟨h5_⟩
           have n6_ : Aside0 (Below w.heap.size w w37) := ⟨h6_⟩
           clear BK269
           clear BK270
           clear BK271
           clear HB
           clear h0_ h1_ h2_ h3_ h4_ h5_ h6_
           have HO279 := n0_
           have HO282 := n1_
           have HO285 := n2_
           have BK269 := n3_
           have BK270 := n4_
           have BK271 := n5_
           have HB := n6_
           clear n0_ n1_ n2_ n3_ n4_ n5_ n6_
           have hHeld : w37.cell? ⟨gb269, 0, none⟩ = some (.slice A0_0 l0_0.length c0_0) ∧ w37.cell? ⟨gb270, 0, none⟩ = some (.slice A1_0 l1_0.length c1_0) := hS_
           obtain ⟨Ao38, co38, eo38⟩ := Kd.R_slice HO285.out
           (first | subst eo38 | (injection eo38 with f1_ f2_ f3_; have f4_ := f1_.symm; have f5_ := f3_.symm; clear f1_ f2_ f3_; subst f4_; subst f5_))
           refine norm_ (a' := ?_) ?_ ?_
           rotate_left
           · simp only [putAll, Act.put, z1_, z2_, z3_]
             rfl
           refine two_ (i := 6) (j := 10) (Ni := some 24) (Nj := some 6) (B_ 127 13) (B_ 1087 13) rfl rfl rfl rfl (two_of HT_.out (by kernel_rfl)) (by decide) (by decide) (fun K hK => ?_) (fun K hK => ?_)
           · skip
             refine goes_ Try.func52 (by kernel_rfl) rfl #[.slice Ao38 t283.length co38] (by rfl) rfl rfl (by (try simp only [List.map_toArray, List.map_cons, List.map_nil]); first | done | rfl | (simp only [List.length_drop, List.length_take]; rfl)) ?_
             with_reducible refine (spec_FromGaps.calls kj2 _ _ t283 t286 t289 _ ?side1 ?side2 A29.out).mono ?_
             (case side1 => exact ce_ ((Kd.R_reads' HO285.out).2.2))
             (case side2 => exact (Kd.R_reads' HO285.out).2.1)
             rintro e w39 ⟨v287, rfl, ho0, hb⟩
             refine ⟨_, rfl, ?_⟩
             have HO288 := Aside0.mk (Kd.R_lower (Kd.R_new' (Kd.R_new' (Kd.R_new' ho0 (Kd.R_lt (re_ HO279.out))) (Kd.R_lt (re_ HO282.out))) (Kd.R_lt (re_ HO285.out))) (below_size (bq_ HB)))
             replace HO279 := Aside0.mk (Kd.R_elder' (re_ HO279.out) (Kd.R_base ho0) hb)
             replace HO282 := Aside0.mk (Kd.R_elder' (re_ HO282.out) (Kd.R_base ho0) hb)
             replace HO285 := Aside0.mk (Kd.R_elder' (re_ HO285.out) (Kd.R_base ho0) hb)
             replace BK269 := bk_ BK269 hb
             replace BK270 := bk_ BK270 hb
             replace BK271 := bk_ BK271 hb
             replace HB := bp_ HB hb
             (try clear hb)
             (try clear ho0)
             refine hK.out _ _ ⟨(blk_cell BK269.out 0).trans rfl, (blk_cell BK270.out 0).trans rfl⟩ (fun hHeld => ?_)
             clear hK K
             refine norm_ (a' := ?_) ?_ ?_
             rotate_left
             · show Act.put _ (some 24) _ = _
               simp only [Act.put, z1_, z2_, z3_, i64_w, i32_w]
               rfl
             refine pu_ HT_ 7 17 (B_ 255 13) ?_
             refine pu_ HT_ 8 25 (B_ 511 13) ?_
             refine pu_ HT_ 9 26 (B_ 1023 13) ?_
             exact norm_ (by first | (simp only [putAll, Act.put, z1_, z2_, z3_]; done) | (simp only [putAll, Act.put, z1_, z2_, z3_]; rfl)) (hJ1_3_4_5_6 (v275, v278, v281, .slice Ao38 t283.length co38, v287) _ ⟨hHeld, (by (with_reducible repeat (first | apply Kd.R_alloc | apply Kd.R_drewN | apply Kd.R_drew)); exact Kd.R_mono HO279.out (fun _ hk => ⟨hk.1.1, ⟨hk.1.2, hk.2⟩⟩)), (by (with_reducible repeat (first | apply Kd.R_alloc | apply Kd.R_drewN | apply Kd.R_drew)); exact Kd.R_mono HO282.out (fun _ hk => ⟨hk.1.1, ⟨hk.1.2, hk.2⟩⟩)), (by (with_reducible repeat (first | apply Kd.R_alloc | apply Kd.R_drewN | apply Kd.R_drew)); exact Kd.R_mono HO285.out (fun _ hk => ⟨hk.1.1, ⟨hk.1.2, hk.2⟩⟩)), (by (with_reducible repeat (first | apply Kd.R_alloc | apply Kd.R_drewN | apply Kd.R_drew)); exact Kd.R_mono HO288.out (fun _ hk => ⟨hk.1.1.2, ⟨hk.1.2, hk.2⟩⟩)), (be_ BK269.out), (be_ BK270.out), (be_ BK271.out), (bq_ HB)⟩)
           · skip
             refine box_step ?hg (N := 6) ?hd (cs := #[.slice none 0 0]) (t := 26) ?hr ?_; (case hd => rfl); (case hg => rfl); (case hr => first | (go_simp; done) | (go_simp; rfl))
             intro gb290 hg w38 hbox hb
             replace HO279 := Aside0.mk (Kd.R_below (re_ HO279.out) hb)
             replace HO282 := Aside0.mk (Kd.R_below (re_ HO282.out) hb)
             replace HO285 := Aside0.mk (Kd.R_below (re_ HO285.out) hb)
             have BK290 := Aside0.mk (hbox)
             have GW290 := gq_ hg (bq_ HB)
             have GE290 := gq_ hg (bq_ HB)
             replace HB := bp_ HB hb
             have NB269_290 := nl_ hg BK269
             have NB290_269 := ng_ hg BK269
             replace BK269 := bk_ BK269 hb
             have NB270_290 := nl_ hg BK270
             have NB290_270 := ng_ hg BK270
             replace BK270 := bk_ BK270 hb
             have NB271_290 := nl_ hg BK271
             have NB290_271 := ng_ hg BK271
             replace BK271 := bk_ BK271 hb
             clear hb hbox hg
             refine hK.out _ _ ⟨(blk_cell BK269.out 0).trans rfl, (blk_cell BK270.out 0).trans rfl⟩ (fun hHeld => ?_)
             clear hK K
             refine norm_ (a' := ?_) ?_ ?_
             rotate_left
             · show Act.put _ (some 6) _ = _
               simp only [Act.put, z1_, z2_, z3_, i64_w, i32_w]
               rfl
             exact norm_ (by first | (simp only [putAll, Act.put, z1_, z2_, z3_]; done) | (simp only [putAll, Act.put, z1_, z2_, z3_]; rfl)) (hJ1_3_4_5_10 (v275, v278, v281, .slice Ao38 t283.length co38, gb290) _ ⟨hHeld, (re_ HO279.out), (re_ HO282.out), (re_ HO285.out), (be_ BK269.out), (be_ BK270.out), (be_ BK271.out), (be_ BK290.out), GW290.out, GE290.out, NB269_290.out, NB290_269.out, NB270_290.out, NB290_270.out, NB271_290.out, NB290_271.out, (bq_ HB)⟩)
       · skip
         rintro ⟨v275, v278, v281, v284, gb290⟩ w38 ⟨hS_, h0_, h1_, h2_, h3_, h4_, h5_, h6_, h7_, h8_, h9_, h10_, h11_, h12_, h13_, h14_, h15_⟩
         have n0_ : Aside0 (Kd.R (Kd.int .i64) 3 w38 w.heap.size (fun k_ => some k_ ≠ (v281 : Value).ownBlock ∧ some k_ ≠ (v284 : Value).ownBlock) v278 t277) := ⟨h0_⟩
         have n1_ : Aside0 (Kd.R (Kd.int .i64) 3 w38 w.heap.size (fun k_ => some k_ ≠ (v278 : Value).ownBlock ∧ some k_ ≠ (v284 : Value).ownBlock) v281 y280) := ⟨h1_⟩
         have n2_ : Aside0 (Kd.R (Kd.int .i64) 3 w38 w.heap.size (fun k_ => some k_ ≠ (v278 : Value).ownBlock ∧ some k_ ≠ (v281 : Value).ownBlock) v284 t283) := ⟨h2_⟩
         have n3_ : Aside0 (w38.heap[gb269]? = some (.cells #[.slice A0_0 l0_0.length c0_0] 26 (0, 0))) := ⟨h3_⟩
         have n4_ : Aside0 (w38.heap[gb270]? = some (.cells #[.slice A1_0 l1_0.length c1_0] 26 (0, 0))) := ⟨h4_⟩
         have n5_ : Aside0 (w38.heap[gb271]? = some (.cells #[.slice none 0 0] 26 (0, 0))) := ⟨h5_⟩
         have n6_ : Aside0 (w38.heap[gb290]? = some (.cells #[.slice none 0 0] 26 (0, 0))) := ⟨h6_⟩
         have n7_ : Aside0 (w.heap.size ≤ gb290) := ⟨h7_⟩
         have n8_ : Aside0 (w.heap.size ≤ gb290) := ⟨h8_⟩
         have n9_ : Aside0 (gb269 ≠ gb290) := ⟨h9_⟩
         have n10_ : Aside0 (gb290 ≠ gb269) := ⟨h10_⟩
         have n11_ : Aside0 (gb270 ≠ gb290) := ⟨h11_⟩
         have n12_ : Aside0 (gb290 ≠ gb270) := ⟨h12_⟩
         have n13_ : Aside0 (gb271 ≠ gb290) := ⟨h13_⟩
         have n14_ : Aside0 (gb290 ≠ gb271) := ⟨h14_⟩
         have n15_ : Aside0 (Below w.heap.size w w38) := ⟨h15_⟩
         clear BK269
         clear BK270
         clear BK271
         clear HB
         clear h0_ h1_ h2_ h3_ h4_ h5_ h6_ h7_ h8_ h9_ h10_ h11_ h12_ h13_ h14_ h15_
         have HO279 := n0_
         have HO282 := n1_
         have HO285 := n2_
         have BK269 := n3_
         have BK270 := n4_
         have BK271 := n5_
         have BK290 := n6_
         have GW290 := n7_
         have GE290 := n8_
         have NB269_290 := n9_
         have NB290_269 := n10_
         have NB270_290 := n11_
         have NB290_270 := n12_
         have NB271_290 := n13_
         have NB290_271 := n14_
         have HB := n15_
         clear n0_ n1_ n2_ n3_ n4_ n5_ n6_ n7_ n8_ n9_ n10_ n11_ n12_ n13_ n14_ n15_
         have hHeld : w38.cell? ⟨gb269, 0, none⟩ = some (.slice A0_0 l0_0.length c0_0) ∧ w38.cell? ⟨gb270, 0, none⟩ = some (.slice A1_0 l1_0.length c1_0) := hS_
         obtain ⟨Ao39, co39, eo39⟩ := Kd.R_slice HO285.out
         (first | subst eo39 | (injection eo39 with f1_ f2_ f3_; have f4_ := f1_.symm; have f5_ := f3_.symm; clear f1_ f2_ f3_; subst f4_; subst f5_))
         refine norm_ (a' := ?_) ?_ ?_
         rotate_left
         · simp only [putAll, Act.put, z1_, z2_, z3_]
           rfl
         refine on_ HT_ 6 24 (B_ 1151 13) (fun K hK => ?_)
         refine goes_ Try.func52 (by kernel_rfl) rfl #[.slice Ao39 t283.length co39] (by rfl) rfl rfl (by (try simp only [List.map_toArray, List.map_cons, List.map_nil]); first | done | rfl | (simp only [List.length_drop, List.length_take]; rfl)) ?_
         with_reducible refine (spec_FromGaps.calls kj2 _ _ t283 t286 t289 _ ?side1 ?side2 A29.out).mono ?_
         (case side1 => exact ce_ ((Kd.R_reads' HO285.out).2.2))
         (case side2 => exact (Kd.R_reads' HO285.out).2.1)
         rintro e w40 ⟨v287, rfl, ho0, hb⟩
         refine ⟨_, rfl, ?_⟩
         have HO288 := Aside0.mk (Kd.R_lower (Kd.R_new' (Kd.R_new' (Kd.R_new' ho0 (Kd.R_lt (re_ HO279.out))) (Kd.R_lt (re_ HO282.out))) (Kd.R_lt (re_ HO285.out))) (below_size (bq_ HB)))
         replace HO279 := Aside0.mk (Kd.R_elder' (re_ HO279.out) (Kd.R_base ho0) hb)
         replace HO282 := Aside0.mk (Kd.R_elder' (re_ HO282.out) (Kd.R_base ho0) hb)
         replace HO285 := Aside0.mk (Kd.R_elder' (re_ HO285.out) (Kd.R_base ho0) hb)
         replace BK269 := bk_ BK269 hb
         replace BK270 := bk_ BK270 hb
         replace BK271 := bk_ BK271 hb
         replace BK290 := bk_ BK290 hb
         replace HB := bp_ HB hb
         (try clear hb)
         (try clear ho0)
         refine hK.out _ _ ⟨(blk_cell BK269.out 0).trans rfl, (blk_cell BK270.out 0).trans rfl⟩ (fun hHeld => ?_)
         clear hK K
         refine norm_ (a' := ?_) ?_ ?_
         rotate_left
         · show Act.put _ (some 24) _ = _
           simp only [Act.put, z1_, z2_, z3_, i64_w, i32_w]
           rfl
         refine pu_ HT_ 7 17 (B_ 1279 13) ?_
         refine pu_ HT_ 8 25 (B_ 1535 13) ?_
         refine pu_ HT_ 9 26 (B_ 2047 13) ?_
         exact norm_ (by first | (simp only [putAll, Act.put, z1_, z2_, z3_]; done) | (simp only [putAll, Act.put, z1_, z2_, z3_]; rfl)) (hJ1_3_4_5_6_10 (v275, v278, v281, .slice Ao39 t283.length co39, v287, gb290) _ ⟨hHeld, (by (with_reducible repeat (first | apply Kd.R_alloc | apply Kd.R_drewN | apply Kd.R_drew)); exact Kd.R_mono HO279.out (fun _ hk => ⟨hk.1.1, ⟨hk.1.2, hk.2⟩⟩)), (by (with_reducible repeat (first | apply Kd.R_alloc | apply Kd.R_drewN | apply Kd.R_drew)); exact Kd.R_mono HO282.out (fun _ hk => ⟨hk.1.1, ⟨hk.1.2, hk.2⟩⟩)), (by (with_reducible repeat (first | apply Kd.R_alloc | apply Kd.R_drewN | apply Kd.R_drew)); exact Kd.R_mono HO285.out (fun _ hk => ⟨hk.1.1, ⟨hk.1.2, hk.2⟩⟩)), (by (with_reducible repeat (first | apply Kd.R_alloc | apply Kd.R_drewN | apply Kd.R_drew)); exact Kd.R_mono HO288.out (fun _ hk => ⟨hk.1.1.2, ⟨hk.1.2, hk.2⟩⟩)), (be_ BK269.out), (be_ BK270.out), (be_ BK271.out), (be_ BK290.out), GW290.out, GE290.out, NB269_290.out, NB290_269.out, NB270_290.out, NB290_270.out, NB271_290.out, NB290_271.out, (bq_ HB)⟩)
     · skip
       rintro ⟨v275, v278, v281, v284, v287⟩ w39 ⟨hS_, h0_, h1_, h2_, h3_, h4_, h5_, h6_, h7_⟩
       have n0_ : Aside0 (Kd.R (Kd.int .i64) 3 w39 w.heap.size (fun k_ => some k_ ≠ (v281 : Value).ownBlock ∧ some k_ ≠ (v284 : Value).ownBlock ∧ some k_ ≠ (v287 : Value).ownBlock) v278 t277) := ⟨h0_⟩
       have n1_ : Aside0 (Kd.R (Kd.int .i64) 3 w39 w.heap.size (fun k_ => some k_ ≠ (v278 : Value).ownBlock ∧ some k_ ≠ (v284 : Value).ownBlock ∧ some k_ ≠ (v287 : Value).ownBlock) v281 y280) := ⟨h1_⟩
       have n2_ : Aside0 (Kd.R (Kd.int .i64) 3 w39 w.heap.size (fun k_ => some k_ ≠ (v278 : Value).ownBlock ∧ some k_ ≠ (v281 : Value).ownBlock ∧ some k_ ≠ (v287 : Value).ownBlock) v284 t283) := ⟨h2_⟩
       have n3_ : Aside0 (Kd.R (Kd.int .i64) 3 w39 w.heap.size (fun k_ => some k_ ≠ (v278 : Value).ownBlock ∧ some k_ ≠ (v281 : Value).ownBlock ∧ some k_ ≠ (v284 : Value).ownBlock) v287 t286) := ⟨h3_⟩
       have n4_ : Aside0 (w39.heap[gb269]? = some (.cells #[.slice A0_0 l0_0.length c0_0] 26 (0, 0))) := ⟨h4_⟩
       have n5_ : Aside0 (w39.heap[gb270]? = some (.cells #[.slice A1_0 l1_0.length c1_0] 26 (0, 0))) := ⟨h5_⟩
       have n6_ : Aside0 (w39.heap[gb271]? = some (.cells #[.slice none 0 0] 26 (0, 0))) := ⟨h6_⟩
       have n7_ : Aside0 (Below w.heap.size w w39) := ⟨h7_⟩
       clear BK269
       clear BK270
       clear BK271
       clear HB
       clear h0_ h1_ h2_ h3_ h4_ h5_ h6_ h7_
       have HO279 := n0_
       have HO282 := n1_
       have HO285 := n2_
       have HO288 := n3_
       have BK269 := n4_
       have BK270 := n5_
       have BK271 := n6_
       have HB := n7_
       clear n0_ n1_ n2_ n3_ n4_ n5_ n6_ n7_
       have hHeld : w39.cell? ⟨gb269, 0, none⟩ = some (.slice A0_0 l0_0.length c0_0) ∧ w39.cell? ⟨gb270, 0, none⟩ = some (.slice A1_0 l1_0.length c1_0) := hS_
       refine norm_ (a' := ?_) ?_ ?_
       rotate_left
       · simp only [putAll, Act.put, z1_, z2_, z3_]
         rfl
       refine on_ HT_ 10 6 (B_ 2047 13) (fun K hK => ?_)
       refine box_step ?hg (N := 6) ?hd (cs := #[.slice none 0 0]) (t := 26) ?hr ?_; (case hd => rfl); (case hg => rfl); (case hr => first | (go_simp; done) | (go_simp; rfl))
       intro gb290 hg w40 hbox hb
       replace HO279 := Aside0.mk (Kd.R_below (re_ HO279.out) hb)
       replace HO282 := Aside0.mk (Kd.R_below (re_ HO282.out) hb)
       replace HO285 := Aside0.mk (Kd.R_below (re_ HO285.out) hb)
       replace HO288 := Aside0.mk (Kd.R_below (re_ HO288.out) hb)
       have BK290 := Aside0.mk (hbox)
       have GW290 := gq_ hg (bq_ HB)
       have GE290 := gq_ hg (bq_ HB)
       replace HB := bp_ HB hb
       have NB269_290 := nl_ hg BK269
       have NB290_269 := ng_ hg BK269
       replace BK269 := bk_ BK269 hb
       have NB270_290 := nl_ hg BK270
       have NB290_270 := ng_ hg BK270
       replace BK270 := bk_ BK270 hb
       have NB271_290 := nl_ hg BK271
       have NB290_271 := ng_ hg BK271
       replace BK271 := bk_ BK271 hb
       clear hb hbox hg
       refine hK.out _ _ ⟨(blk_cell BK269.out 0).trans rfl, (blk_cell BK270.out 0).trans rfl⟩ (fun hHeld => ?_)
       clear hK K
       refine norm_ (a' := ?_) ?_ ?_
       rotate_left
       · show Act.put _ (some 6) _ = _
         simp only [Act.put, z1_, z2_, z3_, i64_w, i32_w]
         rfl
       exact norm_ (by first | (simp only [putAll, Act.put, z1_, z2_, z3_]; done) | (simp only [putAll, Act.put, z1_, z2_, z3_]; rfl)) (hJ1_3_4_5_6_10 (v275, v278, v281, v284, v287, gb290) _ ⟨hHeld, (re_ HO279.out), (re_ HO282.out), (re_ HO285.out), (re_ HO288.out), (be_ BK269.out), (be_ BK270.out), (be_ BK271.out), (be_ BK290.out), GW290.out, GE290.out, NB269_290.out, NB290_269.out, NB270_290.out, NB290_270.out, NB271_290.out, NB290_271.out, (bq_ HB)⟩)
   rintro ⟨v275, v278, v281, v284, v287, gb290⟩ w40 ⟨hS_, h0_, h1_, h2_, h3_, h4_, h5_, h6_, h7_, h8_, h9_, h10_, h11_, h12_, h13_, h14_, h15_, h16_⟩
   have n0_ : Aside0 (Kd.R (Kd.int .i64) 3 w40 w.heap.size (fun k_ => some k_ ≠ (v281 : Value).ownBlock ∧ some k_ ≠ (v284 : Value).ownBlock ∧ some k_ ≠ (v287 : Value).ownBlock) v278 t277) := ⟨h0_⟩
   have n1_ : Aside0 (Kd.R (Kd.int .i64) 3 w40 w.heap.size (fun k_ => some k_ ≠ (v278 : Value).ownBlock ∧ some k_ ≠ (v284 : Value).ownBlock ∧ some k_ ≠ (v287 : Value).ownBlock) v281 y280) := ⟨h1_⟩
   have n2_ : Aside0 (Kd.R (Kd.int .i64) 3 w40 w.heap.size (fun k_ => some k_ ≠ (v278 : Value).ownBlock ∧ some k_ ≠ (v281 : Value).ownBlock ∧ some k_ ≠ (v287 : Value).ownBlock) v284 t283) := ⟨h2_⟩
   have n3_ : Aside0 (Kd.R (Kd.int .i64) 3 w40 w.heap.size (fun k_ => some k_ ≠ (v278 : Value).ownBlock ∧ some k_ ≠ (v281 : Value).ownBlock ∧ some k_ ≠ (v284 : Value).ownBlock) v287 t286) := ⟨h3_⟩
   have n4_ : Aside0 (w40.heap[gb269]? = some (.cells #[.slice A0_0 l0_0.length c0_0] 26 (0, 0))) := ⟨h4_⟩
   have n5_ : Aside0 (w40.heap[gb270]? = some (.cells #[.slice A1_0 l1_0.length c1_0] 26 (0, 0))) := ⟨h5_⟩
   have n6_ : Aside0 (w40.heap[gb271]? = some (.cells #[.slice none 0 0] 26 (0, 0))) := ⟨h6_⟩
   have n7_ : Aside0 (w40.heap[gb290]? = some (.cells #[.slice none 0 0] 26 (0, 0))) := ⟨h7_⟩
   have n8_ : Aside0 (w.heap.size ≤ gb290) := ⟨h8_⟩
   have n9_ : Aside0 (w.heap.size ≤ gb290) := ⟨h9_⟩
   have n10_ : Aside0 (gb269 ≠ gb290) := ⟨h10_⟩
   have n11_ : Aside0 (gb290 ≠ gb269) := ⟨h11_⟩
   have n12_ : Aside0 (gb270 ≠ gb290) := ⟨h12_⟩
   have n13_ : Aside0 (gb290 ≠ gb270) := ⟨h13_⟩
   have n14_ : Aside0 (gb271 ≠ gb290) := ⟨h14_⟩
   have n15_ : Aside0 (gb290 ≠ gb271) := ⟨h15_⟩
   have n16_ : Aside0 (Below w.heap.size w w40) := ⟨h16_⟩
   clear BK269
   clear BK270
   clear BK271
   clear HB
   clear h0_ h1_ h2_ h3_ h4_ h5_ h6_ h7_ h8_ h9_ h10_ h11_ h12_ h13_ h14_ h15_ h16_
   have HO279 := n0_
   have HO282 := n1_
   have HO285 := n2_
   have HO288 := n3_
   have BK269 := n4_
   have BK270 := n5_
   have BK271 := n6_
   have BK290 := n7_
   have GW290 := n8_
   have GE290 := n9_
   have NB269_290 := n10_
   have NB290_269 := n11_
   have NB270_290 := n12_
   have NB290_270 := n13_
   have NB271_290 := n14_
   have NB290_271 := n15_
   have HB := n16_
   clear n0_ n1_ n2_ n3_ n4_ n5_ n6_ n7_ n8_ n9_ n10_ n11_ n12_ n13_ n14_ n15_ n16_
   have hHeld : w40.cell? ⟨gb269, 0, none⟩ = some (.slice A0_0 l0_0.length c0_0) ∧ w40.cell? ⟨gb270, 0, none⟩ = some (.slice A1_0 l1_0.length c1_0) := hS_
   obtain ⟨Ao41, co41, eo41⟩ := Kd.R_slice HO288.out
   (first | subst eo41 | (injection eo41 with f1_ f2_ f3_; have f4_ := f1_.symm; have f5_ := f3_.symm; clear f1_ f2_ f3_; subst f4_; subst f5_))
   refine norm_ (a' := ?_) ?_ ?_
   rotate_left
   · simp only [putAll, Act.put, z1_, z2_, z3_]
     rfl
   refine one_ (i := 11) (N := none) (B_ 4095 13) rfl rfl (one_of HT_.out (by kernel_rfl)) (by decide) (fun K hK => ?_)
   have hs42 : w40.cell? ⟨gb290, 0, none⟩ = some (.slice none 0 0) := (blk_cell BK290.out 0).trans rfl
   have hfs42 := blk_frozen BK290.out 0
   have hns42_0 := NB269_290.out
   have hns42_1 := NB270_290.out
   have hns42_2 := NB271_290.out
   have hms42_0 := NB290_269.out
   have hms42_1 := NB290_270.out
   have hms42_2 := NB290_271.out
   refine skip_ (w1 := ?_) (by rfl) rfl ?_ ?_
   rotate_left
   · go_simp
     rfl
   refine hK.out _ _ ⟨((cell_far (p := ⟨gb290, _, none⟩) NB269_290.out _).trans (hHeld.1)), ((cell_far (p := ⟨gb290, _, none⟩) NB270_290.out _).trans (hHeld.2))⟩ (fun hHeld => ?_)
   clear hK K
   refine pu_ HT_ 12 7 (B_ 8191 13) ?_
   refine done_ (done_of HT_.out (by kernel_rfl)) ?_
   have hnb43 := NB290_269.out
   have hnc43 := NB269_290.out
   have hnb44 := NB290_270.out
   have hnc44 := NB270_290.out
   have hnb45 := NB290_271.out
   have hnc45 := NB271_290.out
   have hcz46_0 : w40.cell? ⟨gb290, 0, none⟩ = some (.slice none 0 0) := (blk_cell BK290.out 0).trans rfl
   have hfz46_0 := blk_frozen BK290.out 0
   have hnb47 := NB271_269.out
   have hnc47 := NB269_271.out
   have hnb48 := NB271_270.out
   have hnc48 := NB270_271.out
   have hcz49_0 := cz_ BK271
   have hfz49_0 := blk_frozen BK271.out 0
   try go_wp2
   refine bodyPost_ret (results_ct rfl _ _ gb271 26 #[.slice Ao41 t286.length co41] (0, 0) _ rfl (bz_ BK271) Try.underlying26 rfl (by kernel_rfl)) rfl ?_
   exact ⟨_, rf_, by (with_reducible repeat (first | apply Kd.R_alloc | apply Kd.R_drewN | apply Kd.R_drew)); exact Kd.R_mono (Kd.R_far (p := ⟨gb271, 0, none⟩) (Kd.R_far (p := ⟨gb290, 0, none⟩) (Kd.R_types (Kd.R_types HO288.out BK290.out (by decide)) BK271.out (by decide)) (fun _ hk => hk.1.2) (.slice Ao41 t286.length co41)) (fun _ hk => hk.2) (.slice Ao41 t286.length co41)) (fun _ hk => trivial), bq_ HB⟩
end Go.Proofs.Ytonknpgfbkgbjaa.PA
end
