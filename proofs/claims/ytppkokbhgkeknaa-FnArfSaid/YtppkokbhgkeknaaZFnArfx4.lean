-- Bundled by shake.py from this session's printed and written texts; Lean checks it.
import Derived.Test.YtppkokbhgkeknaaZFnArfx1
import Derived.Test.YtppkokbhgkeknaaZFnArfx2
import Derived.Test.YtppkokbhgkeknaaZFnArfx3
section
namespace Go.Proofs.Ytppkokbhgkeknaa.PA
open Go.RowKit Go.Proofs.YtppkokbhgkeknaaW.PrintWords Go.Proofs.YtppkokbhgkeknaaW.PrintLast Go.Proofs.YtppkokbhgkeknaaW.PrintMore
attribute [local go_sem] max2_int min2_int max_two min_two max_three min_three max_four min_four
set_option linter.unusedVariables false
set_option linter.unusedSimpArgs false
set_option maxHeartbeats 8000000
set_option maxRecDepth 100000
def spec_l3Bent.f (k : Nat) (s0_0 : List Int) (s0_1 : Int) (s0_2 : Int) : Option (List Int × Int × Int) := (spec_l3Draw.f k s0_0 s0_1 s0_2).bind fun bt311 => ((spec_l1Below.f s0_0 bt311.2.1 bt311.2.2 12).bind fun bt317 => (if bt317.1 = 0 then ((spec_l1PickInt.f s0_0 bt317.2.1 bt317.2.2 (([0, 61, 12, (-3), 60] : List Int))).bind fun bt323 => (if bt311.1.length < 17592186044416 then (some ((bt311.1 ++ [bt323.1]), bt323.2.1, bt323.2.2)) else (none))) else (if bt317.1 = 1 then (if 1 ≤ (bt311.1.length : Int) then (some ((bt311.1.drop (1 : Int).toNat), bt317.2.1, bt317.2.2)) else (none)) else (if bt317.1 = 2 then ((spec_l1PickInt.f s0_0 bt317.2.1 bt317.2.2 (([0, 59, 4] : List Int))).bind fun bt335 => (some ((([bt335.1, 60] : List Int)), bt335.2.1, bt335.2.2))) else (some (bt311.1, bt317.2.1, bt317.2.2))))))
def spec_l3Bent.T4 : Bool × List (List Nat × List Nat) := (true, [([], []), ([0], [0]), ([], []), ([], []), ([2, 3], [2, 3]), ([4], [4]), ([1, 5, 4], [1, 5]), ([0, 1, 2, 3, 4, 5, 6], []), ([7, 6, 6, 0, 1, 2, 3, 4, 5, 6], [6, 7])])
def spec_l3Bent.B4 : List Nat := [0, 1, 0, 0, 12, 28, 63, 127, 255]
theorem spec_l3Bent.tab4 : rtab .any (opsOf Try.f22 4) = spec_l3Bent.T4 := by kernel_rfl
theorem spec_l3Bent.bits4 : waitsOk spec_l3Bent.T4.2 spec_l3Bent.B4 = true := by kernel_rfl
theorem spec_l3Bent.calls (k : Nat) (g : Nat) (s0_0 : List Int) (s0_1 : Int) (s0_2 : Int) (r1 : List Int) (r2 : Int) (r3 : Int) (w0 w : World) (hI : IsS55 w0 w g s0_0 s0_1 s0_2) (hB : Below w0.heap.size w0 w) (h : spec_l3Bent.f k s0_0 s0_1 s0_2 = some (r1, r2, r3)) :
 Calls Try.prog 22 #[.pointer (some ⟨g, 0, none⟩)] w fun e w' => ∃ v0_ : Value, e = .returned (.agg #[v0_]) ∧ Kd.Q (Kd.int .i64) 3 w' w.heap.size (fun _ => True) v0_ r1 ∧ IsS55 w0 w' g s0_0 r2 r3 ∧ Below w0.heap.size w0 w' ∧ KeepBut w w' g none := by
 have hu26 := Try.underlying26
 have HI0 := Aside0.mk hI
 have HK := Aside0.mk (KeepBut.refl w g none)
 have HL := Aside0.mk hB.size
 clear hI
 have HW0 := Aside0.mk hB.size
 have HB := Aside0.mk hB
 clear hB
 have H := h
 clear h
 unfold spec_l3Bent.f at H
 obtain ⟨⟨t311, t314, t315⟩, A2, H⟩ := ob_ H
 (try dsimp only at H)
 obtain ⟨⟨t317, t318, t319⟩, A3, H⟩ := ob_ H
 (try dsimp only at H)
 by_cases c4 : t317 = 0
 rotate_left
 · rw [if_neg c4] at H
   have c4b0 : (t317 == 0) = false := beq_eq_false_iff_ne.mpr c4
   have c4b1 : (t317 != 0) = true := bne_iff_ne.mpr c4
   by_cases c26 : t317 = 1
   · rw [if_pos c26] at H
     have c26b0 : (t317 == 1) = true := beq_iff_eq.mpr c26
     have c26b1 : (t317 != 1) = false := bne_eq_false_iff_eq.mpr c26
     clear c26
     obtain ⟨c27, H⟩ := ip_ H
     have c27b0 := eq_true c27
     have c27b1 : decide (1 ≤ (t311.length : Int)) = true := decide_eq_true c27
     clear c27
     obtain ⟨y329, hy329⟩ : ∃ y_ : List Int, y_ = (t311.drop (1 : Int).toNat) := ⟨_, rfl⟩
     replace H : (some (y329, t318, t319)) = some (r1, r2, r3) := by subst hy329; exact H
     have Ny329 := Aside0.mk hy329
     clear hy329
     simp only [Option.some.injEq, Prod.mk.injEq] at H
     obtain ⟨rfl, rfl, rfl⟩ := H
     go_enter Try.func22, Try.ntmps22
     go_wp2_with (first | ((with_reducible refine gate_dst (N := 2) rfl ?_); refine bx_ 2 #[.slice none 0 0] 26 ?_; intro gb310 hg w28 hbox hb; replace HB := Aside0.mk (below_step (bi_ HB (IsS55.ge HI0.out)) hb); have BK310 := Aside0.mk (hbox); have GW310 := Aside0.mk ((by rw [hg]; exact (keep_size (w := w) (g := g) (row := none) (kq_ HK)) : w.heap.size ≤ gb310)); have GE310 := Aside0.mk ((Nat.le_trans HW0.out (by rw [hg]; exact (keep_size (w := w) (g := g) (row := none) (kq_ HK)) : w.heap.size ≤ gb310) : w0.heap.size ≤ gb310)); replace HK := Aside0.mk (KeepBut.trans (kq_ HK) (KeepBut.of_below hb g none) (.inl rfl)); have NB0_310 := Aside0.mk ((by rw [hg]; exact Nat.ne_of_lt (IsS55.lt (show IsS55 w0 _ g s0_0 s0_1 s0_2 from IsS55.q_ HI0)) : g ≠ gb310)); have NB310_0 := Aside0.mk ((by rw [hg]; exact Nat.ne_of_gt (IsS55.lt (show IsS55 w0 _ g s0_0 s0_1 s0_2 from IsS55.q_ HI0)) : gb310 ≠ g)); replace HI0 := Aside0.mk (IsS55.below (IsS55.q_ HI0) hb); clear hb hbox hg) | ((with_reducible refine gate_callee (f := 43) rfl ?_); refine gL_ (some 5) Try.func43 #[.pointer (some ⟨g, 0, none⟩)] ?_; (with_reducible refine (spec_l3Draw.calls k g s0_0 s0_1 s0_2 t311 t314 t315 w0 _ ?side1 ?side2 A2.out).mono ?_); (case side1 => exact IsS55.q_ HI0); (case side2 => exact bi_ HB (IsS55.ge HI0.out)); rintro e w29 ⟨v312, rfl, ho0, hi, hb, hk⟩; refine ⟨_, rfl, ?_⟩; replace BK310 := Aside0.mk (KeepBut.blk hk (g' := gb310) (o := .cells #[.slice none 0 0] 26 (0, 0)) (be_ BK310.out) NB310_0.out (by simp)); have HO313 := Aside0.mk (Kd.R_lower ho0 (keep_size (w := w) (g := g) (row := none) (kq_ HK))); replace HK := Aside0.mk (KeepBut.trans (kq_ HK) hk (.inl rfl)); replace HB := Aside0.mk (hb); replace HI0 := Aside0.mk (hi); (try clear hb); (try clear hk); (try clear hi); (try clear ho0)) | ((with_reducible refine gate_dst (N := 3) rfl ?_); refine bx_ 3 #[.slice none 0 0] 26 ?_; intro gb316 hg w30 hbox hb; replace HO313 := Aside0.mk (Kd.R_below (re_ HO313.out) hb); replace HB := Aside0.mk (below_step (bi_ HB (IsS55.ge HI0.out)) hb); have BK316 := Aside0.mk (hbox); have GW316 := Aside0.mk ((by rw [hg]; exact (keep_size (w := w) (g := g) (row := none) (kq_ HK)) : w.heap.size ≤ gb316)); have GE316 := Aside0.mk ((Nat.le_trans HW0.out (by rw [hg]; exact (keep_size (w := w) (g := g) (row := none) (kq_ HK)) : w.heap.size ≤ gb316) : w0.heap.size ≤ gb316)); replace HK := Aside0.mk (KeepBut.trans (kq_ HK) (KeepBut.of_below hb g none) (.inl rfl)); have NB310_316 := nl_ hg BK310; have NB316_310 := ng_ hg BK310; replace BK310 := bk_ BK310 hb; have NB0_316 := Aside0.mk ((by rw [hg]; exact Nat.ne_of_lt (IsS55.lt (show IsS55 w0 _ g s0_0 t314 t315 from IsS55.q_ HI0)) : g ≠ gb316)); have NB316_0 := Aside0.mk ((by rw [hg]; exact Nat.ne_of_gt (IsS55.lt (show IsS55 w0 _ g s0_0 t314 t315 from IsS55.q_ HI0)) : gb316 ≠ g)); replace HI0 := Aside0.mk (IsS55.below (IsS55.q_ HI0) hb); clear hb hbox hg; obtain ⟨Ao31, co31, eo31⟩ := Kd.R_slice HO313.out; subst eo31; have hnb32 := NB316_310.out; have hnc32 := NB310_316.out; have hnb33 := NB316_0.out; have hnc33 := NB0_316.out; have hcz34_0 := cz_ BK316; have hfz34_0 := blk_frozen BK316.out 0) | ((with_reducible refine gate_callee (f := 44) rfl ?_); refine gL_ (some 7) Try.func44 #[.pointer (some ⟨g, 0, none⟩), .int .i64 12] ?_; (with_reducible refine (spec_l1Below.calls g s0_0 t314 t315 12 t317 t318 t319 w0 _ ?side1 ?side2 A3.out).mono ?_); (case side1 => exact IsS55.q_ HI0); (case side2 => exact bi_ HB (IsS55.ge HI0.out)); rintro e w35 ⟨rfl, hi, hb, hk⟩; refine ⟨_, rfl, ?_⟩; replace BK310 := Aside0.mk (KeepBut.blk hk (g' := gb310) (o := .cells #[.slice none 0 0] 26 (0, 0)) (ba_ BK310) NB310_0.out (by simp)); replace HO313 := Aside0.mk (Kd.R_mono (Kd.R_keep (IsS55.apart (show IsS55 w0 _ g s0_0 t314 t315 from IsS55.q_ HI0) (rf1_ HO313 BK316) (by decide)) hk (fun _ h => h.2)) (fun _ h => h.1)); replace BK316 := Aside0.mk (KeepBut.blk hk (g' := gb316) (o := .cells #[.slice Ao31 t311.length co31] 26 (0, 0)) (bz_ BK316) NB316_0.out (by simp)); replace HK := Aside0.mk (KeepBut.trans (kq_ HK) hk (.inl rfl)); replace HB := Aside0.mk (hb); replace HI0 := Aside0.mk (hi); (try clear hb); (try clear hk); (try clear hi); have hcz36_0 := cz_ BK316; have hfz36_0 := blk_frozen BK316.out 0; have q37 : (1 : Int) ≤ ((t311.length : Int) : Int) := od_; obtain ⟨i037, hi037, _, hsz37, _⟩ := info_parts info3; have hcut37 := cut_from (P := Try.prog) 24 3 .i64 Try.underlying24 hi037 1 hsz37 Ao31 t311.length co31 1 (by omega) q37; have hr37 := Kd.Q_drop (k := (1 : Int).toNat) (Kd.Q_of_R HO313.out) (by omega); obtain ⟨A37, hA37⟩ : ∃ A1, A1 = (if co31 = (1 : Int).toNat then Ao31 else (Ao31 : Option Addr).map (·.add ((1 : Int).toNat * 1))) := ⟨_, rfl⟩; obtain ⟨c37, hc37⟩ : ∃ c1, c1 = co31 - (1 : Int).toNat := ⟨_, rfl⟩; have hy37 : y329.length = t311.length - (1 : Int).toNat := (by rw [Ny329.out, List.length_drop]); rw [← Ny329.out] at hr37; rw [← hy37, ← hA37, ← hc37] at hcut37; replace hr37 : Kd.Q (Kd.int .i64) 3 w35 w.heap.size (fun _ => True) (.slice A37 y329.length c37) y329 := (by rw [hA37, hc37, hy37]; exact hr37); have HE37 : Aside0 ((Value.slice A37 y329.length c37).ownBlock = (.slice Ao31 t311.length co31 : Value).ownBlock) := ⟨by rw [hA37]; split <;> (cases (Ao31 : Option Addr) <;> rfl)⟩; clear hy37 hi037 hsz37 HO313 hA37 hc37; have HO331 := Aside0.mk hr37; clear hr37; replace q37 := eq_true q37; have hnb38 := NB310_0.out; have hnc38 := NB0_310.out; have hcz39_0 := cz_ BK310; have hfz39_0 := blk_frozen BK310.out 0))
     refine bodyPost_ret (results_cell_row rfl _ _ gb310 26 #[.slice A37 y329.length c37] (0, 0) _ rfl (bz_ BK310) Try.underlying26 rfl (by kernel_rfl)) rfl ?_
     exact ⟨_, rf_, by (with_reducible repeat (first | apply Kd.Q_alloc | apply Kd.Q_drewN | apply Kd.Q_drew)); exact Kd.Q_mono (Kd.Q_far (p := ⟨gb310, 0, none⟩) (Kd.Q_far (p := ⟨gb316, 0, none⟩) (Kd.Q_types (Kd.Q_types HO331.out BK316.out (by decide)) BK310.out (by decide)) (fun _ hk => hk.1.2) (.slice A37 y329.length c37)) (fun _ hk => hk.2) (.slice A37 y329.length c37)) (fun _ hk => trivial), IsS55.q_ HI0, bi_ HB (IsS55.ge HI0.out), kq_ HK⟩
   rw [if_neg c26] at H
   have c26b0 : (t317 == 1) = false := beq_eq_false_iff_ne.mpr c26
   have c26b1 : (t317 != 1) = true := bne_iff_ne.mpr c26
   by_cases c40 : t317 = 2
   rotate_left
   · rw [if_neg c40] at H
     have c40b0 : (t317 == 2) = false := beq_eq_false_iff_ne.mpr c40
     have c40b1 : (t317 != 2) = true := bne_iff_ne.mpr c40
     simp only [Option.some.injEq, Prod.mk.injEq] at H
     obtain ⟨rfl, rfl, rfl⟩ := H
     go_enter Try.func22, Try.ntmps22
     go_wp2_with (first | ((with_reducible refine gate_dst (N := 2) rfl ?_); refine bx_ 2 #[.slice none 0 0] 26 ?_; intro gb310 hg w60 hbox hb; replace HB := Aside0.mk (below_step (bi_ HB (IsS55.ge HI0.out)) hb); have BK310 := Aside0.mk (hbox); have GW310 := Aside0.mk ((by rw [hg]; exact (keep_size (w := w) (g := g) (row := none) (kq_ HK)) : w.heap.size ≤ gb310)); have GE310 := Aside0.mk ((Nat.le_trans HW0.out (by rw [hg]; exact (keep_size (w := w) (g := g) (row := none) (kq_ HK)) : w.heap.size ≤ gb310) : w0.heap.size ≤ gb310)); replace HK := Aside0.mk (KeepBut.trans (kq_ HK) (KeepBut.of_below hb g none) (.inl rfl)); have NB0_310 := Aside0.mk ((by rw [hg]; exact Nat.ne_of_lt (IsS55.lt (show IsS55 w0 _ g s0_0 s0_1 s0_2 from IsS55.q_ HI0)) : g ≠ gb310)); have NB310_0 := Aside0.mk ((by rw [hg]; exact Nat.ne_of_gt (IsS55.lt (show IsS55 w0 _ g s0_0 s0_1 s0_2 from IsS55.q_ HI0)) : gb310 ≠ g)); replace HI0 := Aside0.mk (IsS55.below (IsS55.q_ HI0) hb); clear hb hbox hg) | ((with_reducible refine gate_callee (f := 43) rfl ?_); refine gL_ (some 5) Try.func43 #[.pointer (some ⟨g, 0, none⟩)] ?_; (with_reducible refine (spec_l3Draw.calls k g s0_0 s0_1 s0_2 t311 t314 t315 w0 _ ?side1 ?side2 A2.out).mono ?_); (case side1 => exact IsS55.q_ HI0); (case side2 => exact bi_ HB (IsS55.ge HI0.out)); rintro e w61 ⟨v312, rfl, ho0, hi, hb, hk⟩; refine ⟨_, rfl, ?_⟩; replace BK310 := Aside0.mk (KeepBut.blk hk (g' := gb310) (o := .cells #[.slice none 0 0] 26 (0, 0)) (be_ BK310.out) NB310_0.out (by simp)); have HO313 := Aside0.mk (Kd.R_lower ho0 (keep_size (w := w) (g := g) (row := none) (kq_ HK))); replace HK := Aside0.mk (KeepBut.trans (kq_ HK) hk (.inl rfl)); replace HB := Aside0.mk (hb); replace HI0 := Aside0.mk (hi); (try clear hb); (try clear hk); (try clear hi); (try clear ho0)) | ((with_reducible refine gate_dst (N := 3) rfl ?_); refine bx_ 3 #[.slice none 0 0] 26 ?_; intro gb316 hg w62 hbox hb; replace HO313 := Aside0.mk (Kd.R_below (re_ HO313.out) hb); replace HB := Aside0.mk (below_step (bi_ HB (IsS55.ge HI0.out)) hb); have BK316 := Aside0.mk (hbox); have GW316 := Aside0.mk ((by rw [hg]; exact (keep_size (w := w) (g := g) (row := none) (kq_ HK)) : w.heap.size ≤ gb316)); have GE316 := Aside0.mk ((Nat.le_trans HW0.out (by rw [hg]; exact (keep_size (w := w) (g := g) (row := none) (kq_ HK)) : w.heap.size ≤ gb316) : w0.heap.size ≤ gb316)); replace HK := Aside0.mk (KeepBut.trans (kq_ HK) (KeepBut.of_below hb g none) (.inl rfl)); have NB310_316 := nl_ hg BK310; have NB316_310 := ng_ hg BK310; replace BK310 := bk_ BK310 hb; have NB0_316 := Aside0.mk ((by rw [hg]; exact Nat.ne_of_lt (IsS55.lt (show IsS55 w0 _ g s0_0 t314 t315 from IsS55.q_ HI0)) : g ≠ gb316)); have NB316_0 := Aside0.mk ((by rw [hg]; exact Nat.ne_of_gt (IsS55.lt (show IsS55 w0 _ g s0_0 t314 t315 from IsS55.q_ HI0)) : gb316 ≠ g)); replace HI0 := Aside0.mk (IsS55.below (IsS55.q_ HI0) hb); clear hb hbox hg; obtain ⟨Ao63, co63, eo63⟩ := Kd.R_slice HO313.out; subst eo63; have hnb64 := NB316_310.out; have hnc64 := NB310_316.out; have hnb65 := NB316_0.out; have hnc65 := NB0_316.out; have hcz66_0 := cz_ BK316; have hfz66_0 := blk_frozen BK316.out 0) | ((with_reducible refine gate_callee (f := 44) rfl ?_); refine gL_ (some 7) Try.func44 #[.pointer (some ⟨g, 0, none⟩), .int .i64 12] ?_; (with_reducible refine (spec_l1Below.calls g s0_0 t314 t315 12 t317 t318 t319 w0 _ ?side1 ?side2 A3.out).mono ?_); (case side1 => exact IsS55.q_ HI0); (case side2 => exact bi_ HB (IsS55.ge HI0.out)); rintro e w67 ⟨rfl, hi, hb, hk⟩; refine ⟨_, rfl, ?_⟩; replace BK310 := Aside0.mk (KeepBut.blk hk (g' := gb310) (o := .cells #[.slice none 0 0] 26 (0, 0)) (ba_ BK310) NB310_0.out (by simp)); replace HO313 := Aside0.mk (Kd.R_mono (Kd.R_keep (IsS55.apart (show IsS55 w0 _ g s0_0 t314 t315 from IsS55.q_ HI0) (rf1_ HO313 BK316) (by decide)) hk (fun _ h => h.2)) (fun _ h => h.1)); replace BK316 := Aside0.mk (KeepBut.blk hk (g' := gb316) (o := .cells #[.slice Ao63 t311.length co63] 26 (0, 0)) (bz_ BK316) NB316_0.out (by simp)); replace HK := Aside0.mk (KeepBut.trans (kq_ HK) hk (.inl rfl)); replace HB := Aside0.mk (hb); replace HI0 := Aside0.mk (hi); (try clear hb); (try clear hk); (try clear hi); have hcz68_0 := cz_ BK316; have hfz68_0 := blk_frozen BK316.out 0; have hnb69 := NB310_0.out; have hnc69 := NB0_310.out; have hcz70_0 := cz_ BK310; have hfz70_0 := blk_frozen BK310.out 0))
     refine bodyPost_ret (results_cell_row rfl _ _ gb310 26 #[.slice Ao63 t311.length co63] (0, 0) _ rfl (bz_ BK310) Try.underlying26 rfl (by kernel_rfl)) rfl ?_
     exact ⟨_, rf_, Kd.Q_of_R (by (with_reducible repeat (first | apply Kd.R_alloc | apply Kd.R_drewN | apply Kd.R_drew)); exact Kd.R_mono (Kd.R_far (p := ⟨gb310, 0, none⟩) (Kd.R_types HO313.out BK310.out (by decide)) (fun _ hk => hk.2) (.slice Ao63 t311.length co63)) (fun _ hk => trivial)), IsS55.q_ HI0, bi_ HB (IsS55.ge HI0.out), kq_ HK⟩
   rw [if_pos c40] at H
   have c40b0 : (t317 == 2) = true := beq_iff_eq.mpr c40
   have c40b1 : (t317 != 2) = false := bne_eq_false_iff_eq.mpr c40
   clear c40
   obtain ⟨y332, hy332⟩ : ∃ y_ : List Int, y_ = (([0, 59, 4] : List Int)) := ⟨_, rfl⟩
   replace H : ((spec_l1PickInt.f s0_0 t318 t319 y332).bind fun bt335 => (some ((([bt335.1, 60] : List Int)), bt335.2.1, bt335.2.2))) = some (r1, r2, r3) := by subst hy332; exact H
   have Ny332 := Aside0.mk hy332
   clear hy332
   obtain ⟨⟨t335, t336, t337⟩, A41, H⟩ := ob_ H
   (try dsimp only at H)
   obtain ⟨y338, hy338⟩ : ∃ y_ : List Int, y_ = (([t335, 60] : List Int)) := ⟨_, rfl⟩
   replace H : (some (y338, t336, t337)) = some (r1, r2, r3) := by subst hy338; exact H
   have Ny338 := Aside0.mk hy338
   clear hy338
   simp only [Option.some.injEq, Prod.mk.injEq] at H
   obtain ⟨rfl, rfl, rfl⟩ := H
   go_enter Try.func22, Try.ntmps22
   go_wp2_with (first | ((with_reducible refine gate_dst (N := 2) rfl ?_); refine bx_ 2 #[.slice none 0 0] 26 ?_; intro gb310 hg w42 hbox hb; replace HB := Aside0.mk (below_step (bi_ HB (IsS55.ge HI0.out)) hb); have BK310 := Aside0.mk (hbox); have GW310 := Aside0.mk ((by rw [hg]; exact (keep_size (w := w) (g := g) (row := none) (kq_ HK)) : w.heap.size ≤ gb310)); have GE310 := Aside0.mk ((Nat.le_trans HW0.out (by rw [hg]; exact (keep_size (w := w) (g := g) (row := none) (kq_ HK)) : w.heap.size ≤ gb310) : w0.heap.size ≤ gb310)); replace HK := Aside0.mk (KeepBut.trans (kq_ HK) (KeepBut.of_below hb g none) (.inl rfl)); have NB0_310 := Aside0.mk ((by rw [hg]; exact Nat.ne_of_lt (IsS55.lt (show IsS55 w0 _ g s0_0 s0_1 s0_2 from IsS55.q_ HI0)) : g ≠ gb310)); have NB310_0 := Aside0.mk ((by rw [hg]; exact Nat.ne_of_gt (IsS55.lt (show IsS55 w0 _ g s0_0 s0_1 s0_2 from IsS55.q_ HI0)) : gb310 ≠ g)); replace HI0 := Aside0.mk (IsS55.below (IsS55.q_ HI0) hb); clear hb hbox hg) | ((with_reducible refine gate_callee (f := 43) rfl ?_); refine gL_ (some 5) Try.func43 #[.pointer (some ⟨g, 0, none⟩)] ?_; (with_reducible refine (spec_l3Draw.calls k g s0_0 s0_1 s0_2 t311 t314 t315 w0 _ ?side1 ?side2 A2.out).mono ?_); (case side1 => exact IsS55.q_ HI0); (case side2 => exact bi_ HB (IsS55.ge HI0.out)); rintro e w43 ⟨v312, rfl, ho0, hi, hb, hk⟩; refine ⟨_, rfl, ?_⟩; replace BK310 := Aside0.mk (KeepBut.blk hk (g' := gb310) (o := .cells #[.slice none 0 0] 26 (0, 0)) (be_ BK310.out) NB310_0.out (by simp)); have HO313 := Aside0.mk (Kd.R_lower ho0 (keep_size (w := w) (g := g) (row := none) (kq_ HK))); replace HK := Aside0.mk (KeepBut.trans (kq_ HK) hk (.inl rfl)); replace HB := Aside0.mk (hb); replace HI0 := Aside0.mk (hi); (try clear hb); (try clear hk); (try clear hi); (try clear ho0)) | ((with_reducible refine gate_dst (N := 3) rfl ?_); refine bx_ 3 #[.slice none 0 0] 26 ?_; intro gb316 hg w44 hbox hb; replace HO313 := Aside0.mk (Kd.R_below (re_ HO313.out) hb); replace HB := Aside0.mk (below_step (bi_ HB (IsS55.ge HI0.out)) hb); have BK316 := Aside0.mk (hbox); have GW316 := Aside0.mk ((by rw [hg]; exact (keep_size (w := w) (g := g) (row := none) (kq_ HK)) : w.heap.size ≤ gb316)); have GE316 := Aside0.mk ((Nat.le_trans HW0.out (by rw [hg]; exact (keep_size (w := w) (g := g) (row := none) (kq_ HK)) : w.heap.size ≤ gb316) : w0.heap.size ≤ gb316)); replace HK := Aside0.mk (KeepBut.trans (kq_ HK) (KeepBut.of_below hb g none) (.inl rfl)); have NB310_316 := nl_ hg BK310; have NB316_310 := ng_ hg BK310; replace BK310 := bk_ BK310 hb; have NB0_316 := Aside0.mk ((by rw [hg]; exact Nat.ne_of_lt (IsS55.lt (show IsS55 w0 _ g s0_0 t314 t315 from IsS55.q_ HI0)) : g ≠ gb316)); have NB316_0 := Aside0.mk ((by rw [hg]; exact Nat.ne_of_gt (IsS55.lt (show IsS55 w0 _ g s0_0 t314 t315 from IsS55.q_ HI0)) : gb316 ≠ g)); replace HI0 := Aside0.mk (IsS55.below (IsS55.q_ HI0) hb); clear hb hbox hg; obtain ⟨Ao45, co45, eo45⟩ := Kd.R_slice HO313.out; subst eo45; have hnb46 := NB316_310.out; have hnc46 := NB310_316.out; have hnb47 := NB316_0.out; have hnc47 := NB0_316.out; have hcz48_0 := cz_ BK316; have hfz48_0 := blk_frozen BK316.out 0) | ((with_reducible refine gate_callee (f := 44) rfl ?_); refine gL_ (some 7) Try.func44 #[.pointer (some ⟨g, 0, none⟩), .int .i64 12] ?_; (with_reducible refine (spec_l1Below.calls g s0_0 t314 t315 12 t317 t318 t319 w0 _ ?side1 ?side2 A3.out).mono ?_); (case side1 => exact IsS55.q_ HI0); (case side2 => exact bi_ HB (IsS55.ge HI0.out)); rintro e w49 ⟨rfl, hi, hb, hk⟩; refine ⟨_, rfl, ?_⟩; replace BK310 := Aside0.mk (KeepBut.blk hk (g' := gb310) (o := .cells #[.slice none 0 0] 26 (0, 0)) (ba_ BK310) NB310_0.out (by simp)); replace HO313 := Aside0.mk (Kd.R_mono (Kd.R_keep (IsS55.apart (show IsS55 w0 _ g s0_0 t314 t315 from IsS55.q_ HI0) (rf1_ HO313 BK316) (by decide)) hk (fun _ h => h.2)) (fun _ h => h.1)); replace BK316 := Aside0.mk (KeepBut.blk hk (g' := gb316) (o := .cells #[.slice Ao45 t311.length co45] 26 (0, 0)) (bz_ BK316) NB316_0.out (by simp)); replace HK := Aside0.mk (KeepBut.trans (kq_ HK) hk (.inl rfl)); replace HB := Aside0.mk (hb); replace HI0 := Aside0.mk (hi); (try clear hb); (try clear hk); (try clear hi)) | ((with_reducible refine gate_dst (N := 27) rfl ?_); refine Kd.R_lit (Kd.int .i64) _ 3 ?hg (N := 27) ?hd (xs := ([0, 59, 4] : List Int)) (inner := [.int .i64 0, .int .i64 59, .int .i64 4]) (ok := fun _ => True) (okp := fun _ => True) ?hr ?hp (fun _ hk => hk) trivial (Below.refl _ _) (Nat.le_refl _) (by simp) ?_; (case hd => rfl); (case hg => rfl); (case hr => first | (go_simp; done) | (go_simp; rfl)); (case hp => exact (Reps.one (show Kd.M (Kd.int .i64) _ _ _ 0 [.int .i64 0] from rfl) (Reps.one (show Kd.M (Kd.int .i64) _ _ _ 59 [.int .i64 59] from rfl) (Reps.one (show Kd.M (Kd.int .i64) _ _ _ 4 [.int .i64 4] from rfl) (Reps.none _ _))))); intro v333 w50 ho51 hb hg_ hnew_; clear hg_ hnew_; (first | rw [← Ny332.out] at ho51 | (simp only [Int.reduceToNat] at ho51; rw [← Ny332.out] at ho51)); have HO334 := Aside0.mk (Kd.R_lower (Kd.R_new' ho51 (Kd.R_lt (re_ HO313.out))) (keep_size (w := w) (g := g) (row := none) (kq_ HK))); replace HO313 := Aside0.mk (Kd.R_elder' (re_ HO313.out) (Kd.R_base ho51) hb); replace BK310 := bk_ BK310 hb; replace BK316 := bk_ BK316 hb; replace HK := Aside0.mk (KeepBut.trans (kq_ HK) (KeepBut.of_below hb g none) (.inl rfl)); replace HB := Aside0.mk (below_step (bi_ HB (IsS55.ge HI0.out)) hb); replace HI0 := Aside0.mk (IsS55.below (IsS55.q_ HI0) hb); clear hb ho51; obtain ⟨Ao52, co52, eo52⟩ := Kd.R_slice HO334.out; subst eo52) | ((with_reducible refine gate_callee (f := 45) rfl ?_); refine gL_ (some 28) Try.func45 #[.pointer (some ⟨g, 0, none⟩), .slice Ao52 y332.length co52] ?_; (with_reducible refine (spec_l1PickInt.calls g s0_0 t318 t319 _ _ y332 t335 t336 t337 w0 _ ?side1 ?side2 ?side3 ?side4 ?side5 A41.out).mono ?_); (case side1 => exact IsS55.q_ HI0); (case side2 => exact bi_ HB (IsS55.ge HI0.out)); (case side3 => exact ce_ ((Kd.R_reads' HO334.out).2.2)); (case side4 => exact (Kd.R_reads' HO334.out).2.1); (case side5 => exact far_slice (IsS55.own_ne HI0.out HO334.out (by decide))); rintro e w53 ⟨rfl, hi, hb, hk⟩; refine ⟨_, rfl, ?_⟩; replace BK310 := Aside0.mk (KeepBut.blk hk (g' := gb310) (o := .cells #[.slice none 0 0] 26 (0, 0)) (be_ BK310.out) NB310_0.out (by simp)); replace HO313 := Aside0.mk (Kd.R_mono (Kd.R_keep (IsS55.apart (show IsS55 w0 _ g s0_0 t318 t319 from IsS55.q_ HI0) (re_ HO313.out) (by decide)) hk (fun _ h => h.2)) (fun _ h => h.1)); replace BK316 := Aside0.mk (KeepBut.blk hk (g' := gb316) (o := .cells #[.slice Ao45 t311.length co45] 26 (0, 0)) (be_ BK316.out) NB316_0.out (by simp)); replace HO334 := Aside0.mk (Kd.R_mono (Kd.R_keep (IsS55.apart (show IsS55 w0 _ g s0_0 t318 t319 from IsS55.q_ HI0) (re_ HO334.out) (by decide)) hk (fun _ h => h.2)) (fun _ h => h.1)); replace HK := Aside0.mk (KeepBut.trans (kq_ HK) hk (.inl rfl)); replace HB := Aside0.mk (hb); replace HI0 := Aside0.mk (hi); (try clear hb); (try clear hk); (try clear hi)) | ((with_reducible refine gate_dst (N := 29) rfl ?_); refine Kd.R_lit (Kd.int .i64) _ 3 ?hg (N := 29) ?hd (xs := ([t335, 60] : List Int)) (inner := [.int .i64 t335, .int .i64 60]) (ok := fun _ => True) (okp := fun _ => True) ?hr ?hp (fun _ hk => hk) trivial (Below.refl _ _) (Nat.le_refl _) (by simp) ?_; (case hd => rfl); (case hg => rfl); (case hr => first | (go_simp; done) | (go_simp; rfl)); (case hp => exact (Reps.one (show Kd.M (Kd.int .i64) _ _ _ t335 [.int .i64 t335] from rfl) (Reps.one (show Kd.M (Kd.int .i64) _ _ _ 60 [.int .i64 60] from rfl) (Reps.none _ _)))); intro v339 w54 ho55 hb hg_ hnew_; clear hg_ hnew_; (first | rw [← Ny338.out] at ho55 | (simp only [Int.reduceToNat] at ho55; rw [← Ny338.out] at ho55)); have HO340 := Aside0.mk (Kd.R_lower (Kd.R_new' (Kd.R_new' ho55 (Kd.R_lt (re_ HO313.out))) (Kd.R_lt (re_ HO334.out))) (keep_size (w := w) (g := g) (row := none) (kq_ HK))); replace HO313 := Aside0.mk (Kd.R_elder' (re_ HO313.out) (Kd.R_base ho55) hb); replace HO334 := Aside0.mk (Kd.R_elder' (re_ HO334.out) (Kd.R_base ho55) hb); replace BK310 := bk_ BK310 hb; replace BK316 := bk_ BK316 hb; replace HK := Aside0.mk (KeepBut.trans (kq_ HK) (KeepBut.of_below hb g none) (.inl rfl)); replace HB := Aside0.mk (below_step (bi_ HB (IsS55.ge HI0.out)) hb); replace HI0 := Aside0.mk (IsS55.below (IsS55.q_ HI0) hb); clear hb ho55; obtain ⟨Ao56, co56, eo56⟩ := Kd.R_slice HO340.out; subst eo56; have hcz57_0 := cz_ BK316; have hfz57_0 := blk_frozen BK316.out 0; have hnb58 := NB310_0.out; have hnc58 := NB0_310.out; have hcz59_0 := cz_ BK310; have hfz59_0 := blk_frozen BK310.out 0))
   refine bodyPost_ret (results_cell_row rfl _ _ gb310 26 #[.slice Ao56 y338.length co56] (0, 0) _ rfl (bz_ BK310) Try.underlying26 rfl (by kernel_rfl)) rfl ?_
   exact ⟨_, rf_, Kd.Q_of_R (by (with_reducible repeat (first | apply Kd.R_alloc | apply Kd.R_drewN | apply Kd.R_drew)); exact Kd.R_mono (Kd.R_far (p := ⟨gb310, 0, none⟩) (Kd.R_far (p := ⟨gb316, 0, none⟩) (Kd.R_types (Kd.R_types HO340.out BK316.out (by decide)) BK310.out (by decide)) (fun _ hk => hk.1.2) (.slice Ao56 y338.length co56)) (fun _ hk => hk.2) (.slice Ao56 y338.length co56)) (fun _ hk => trivial)), IsS55.q_ HI0, bi_ HB (IsS55.ge HI0.out), kq_ HK⟩
 rw [if_pos c4] at H
 have c4b0 : (t317 == 0) = true := beq_iff_eq.mpr c4
 have c4b1 : (t317 != 0) = false := bne_eq_false_iff_eq.mpr c4
 clear c4
 obtain ⟨y320, hy320⟩ : ∃ y_ : List Int, y_ = (([0, 61, 12, (-3), 60] : List Int)) := ⟨_, rfl⟩
 replace H : ((spec_l1PickInt.f s0_0 t318 t319 y320).bind fun bt323 => (if t311.length < 17592186044416 then (some ((t311 ++ [bt323.1]), bt323.2.1, bt323.2.2)) else (none))) = some (r1, r2, r3) := by subst hy320; exact H
 have Ny320 := Aside0.mk hy320
 clear hy320
 obtain ⟨⟨t323, t324, t325⟩, A5, H⟩ := ob_ H
 (try dsimp only at H)
 obtain ⟨c6, H⟩ := ip_ H
 have LMc6 := Aside0.mk c6
 clear c6
 obtain ⟨y326, hy326⟩ : ∃ y_ : List Int, y_ = (t311 ++ [t323]) := ⟨_, rfl⟩
 replace H : (some (y326, t324, t325)) = some (r1, r2, r3) := by subst hy326; exact H
 have Ny326 := Aside0.mk hy326
 clear hy326
 simp only [Option.some.injEq, Prod.mk.injEq] at H
 obtain ⟨rfl, rfl, rfl⟩ := H
 go_enter Try.func22, Try.ntmps22
 try go_wp2_with (first | ((with_reducible refine gate_dst (N := 2) rfl ?_); refine bx_ 2 #[.slice none 0 0] 26 ?_; intro gb310 hg w7 hbox hb; replace HB := Aside0.mk (below_step (bi_ HB (IsS55.ge HI0.out)) hb); have BK310 := Aside0.mk (hbox); have GW310 := Aside0.mk ((by rw [hg]; exact (keep_size (w := w) (g := g) (row := none) (kq_ HK)) : w.heap.size ≤ gb310)); have GE310 := Aside0.mk ((Nat.le_trans HW0.out (by rw [hg]; exact (keep_size (w := w) (g := g) (row := none) (kq_ HK)) : w.heap.size ≤ gb310) : w0.heap.size ≤ gb310)); replace HK := Aside0.mk (KeepBut.trans (kq_ HK) (KeepBut.of_below hb g none) (.inl rfl)); have NB0_310 := Aside0.mk ((by rw [hg]; exact Nat.ne_of_lt (IsS55.lt (show IsS55 w0 _ g s0_0 s0_1 s0_2 from IsS55.q_ HI0)) : g ≠ gb310)); have NB310_0 := Aside0.mk ((by rw [hg]; exact Nat.ne_of_gt (IsS55.lt (show IsS55 w0 _ g s0_0 s0_1 s0_2 from IsS55.q_ HI0)) : gb310 ≠ g)); replace HI0 := Aside0.mk (IsS55.below (IsS55.q_ HI0) hb); clear hb hbox hg) | ((with_reducible refine gate_callee (f := 43) rfl ?_); refine gL_ (some 5) Try.func43 #[.pointer (some ⟨g, 0, none⟩)] ?_; (with_reducible refine (spec_l3Draw.calls k g s0_0 s0_1 s0_2 t311 t314 t315 w0 _ ?side1 ?side2 A2.out).mono ?_); (case side1 => exact IsS55.q_ HI0); (case side2 => exact bi_ HB (IsS55.ge HI0.out)); rintro e w8 ⟨v312, rfl, ho0, hi, hb, hk⟩; refine ⟨_, rfl, ?_⟩; replace BK310 := Aside0.mk (KeepBut.blk hk (g' := gb310) (o := .cells #[.slice none 0 0] 26 (0, 0)) (be_ BK310.out) NB310_0.out (by simp)); have HO313 := Aside0.mk (Kd.R_lower ho0 (keep_size (w := w) (g := g) (row := none) (kq_ HK))); replace HK := Aside0.mk (KeepBut.trans (kq_ HK) hk (.inl rfl)); replace HB := Aside0.mk (hb); replace HI0 := Aside0.mk (hi); (try clear hb); (try clear hk); (try clear hi); (try clear ho0)) | ((with_reducible refine gate_dst (N := 3) rfl ?_); refine bx_ 3 #[.slice none 0 0] 26 ?_; intro gb316 hg w9 hbox hb; replace HO313 := Aside0.mk (Kd.R_below (re_ HO313.out) hb); replace HB := Aside0.mk (below_step (bi_ HB (IsS55.ge HI0.out)) hb); have BK316 := Aside0.mk (hbox); have GW316 := Aside0.mk ((by rw [hg]; exact (keep_size (w := w) (g := g) (row := none) (kq_ HK)) : w.heap.size ≤ gb316)); have GE316 := Aside0.mk ((Nat.le_trans HW0.out (by rw [hg]; exact (keep_size (w := w) (g := g) (row := none) (kq_ HK)) : w.heap.size ≤ gb316) : w0.heap.size ≤ gb316)); replace HK := Aside0.mk (KeepBut.trans (kq_ HK) (KeepBut.of_below hb g none) (.inl rfl)); have NB310_316 := nl_ hg BK310; have NB316_310 := ng_ hg BK310; replace BK310 := bk_ BK310 hb; have NB0_316 := Aside0.mk ((by rw [hg]; exact Nat.ne_of_lt (IsS55.lt (show IsS55 w0 _ g s0_0 t314 t315 from IsS55.q_ HI0)) : g ≠ gb316)); have NB316_0 := Aside0.mk ((by rw [hg]; exact Nat.ne_of_gt (IsS55.lt (show IsS55 w0 _ g s0_0 t314 t315 from IsS55.q_ HI0)) : gb316 ≠ g)); replace HI0 := Aside0.mk (IsS55.below (IsS55.q_ HI0) hb); clear hb hbox hg; obtain ⟨Ao10, co10, eo10⟩ := Kd.R_slice HO313.out; subst eo10; have hnb11 := NB316_310.out; have hnc11 := NB310_316.out; have hnb12 := NB316_0.out; have hnc12 := NB0_316.out; have hcz13_0 := cz_ BK316; have hfz13_0 := blk_frozen BK316.out 0) | ((with_reducible refine gate_callee (f := 44) rfl ?_); refine gL_ (some 7) Try.func44 #[.pointer (some ⟨g, 0, none⟩), .int .i64 12] ?_; (with_reducible refine (spec_l1Below.calls g s0_0 t314 t315 12 t317 t318 t319 w0 _ ?side1 ?side2 A3.out).mono ?_); (case side1 => exact IsS55.q_ HI0); (case side2 => exact bi_ HB (IsS55.ge HI0.out)); rintro e w14 ⟨rfl, hi, hb, hk⟩; refine ⟨_, rfl, ?_⟩; replace BK310 := Aside0.mk (KeepBut.blk hk (g' := gb310) (o := .cells #[.slice none 0 0] 26 (0, 0)) (ba_ BK310) NB310_0.out (by simp)); replace HO313 := Aside0.mk (Kd.R_mono (Kd.R_keep (IsS55.apart (show IsS55 w0 _ g s0_0 t314 t315 from IsS55.q_ HI0) (rf1_ HO313 BK316) (by decide)) hk (fun _ h => h.2)) (fun _ h => h.1)); replace BK316 := Aside0.mk (KeepBut.blk hk (g' := gb316) (o := .cells #[.slice Ao10 t311.length co10] 26 (0, 0)) (bz_ BK316) NB316_0.out (by simp)); replace HK := Aside0.mk (KeepBut.trans (kq_ HK) hk (.inl rfl)); replace HB := Aside0.mk (hb); replace HI0 := Aside0.mk (hi); (try clear hb); (try clear hk); (try clear hi)))
 replace HO313 := Aside0.mk (Kd.R_drew HO313.out)
 replace BK310 := Aside0.mk (blk_drew BK310.out)
 replace BK316 := Aside0.mk (blk_drew BK316.out)
 replace HI0 := Aside0.mk (IsS55.drew HI0.out)
 replace HK := Aside0.mk (keep_drew HK.out)
 replace HB := Aside0.mk (below_drew1 HB.out)
 refine start_ (n := 9) (S := fun w' => w'.cell? ⟨gb316, 0, none⟩ = some (.slice Ao10 t311.length co10)) (ds := [8]) (B_ 0 9) (by kernel_rfl) rfl rfl ((blk_cell BK316.out 0).trans rfl) (fun hHeld => ?_); refine with_tabW spec_l3Bent.tab4 spec_l3Bent.bits4 (fun HT_ HW_ => ?_)
 generalize w14.drew = w15 at HO313 BK310 BK316 HI0 HK HB hHeld ⊢
 refine pu_ HT_ 0 10 (B_ 1 9) ?_
 refine pu_ HT_ 2 12 (B_ 5 9) ?_
 refine tk1_ HT_ HW_ hHeld 1 11 (B_ 7 9) ?_
 refine on_ HT_ 3 13 (B_ 15 9) (fun K hK => ?_)
 refine Kd.R_lit_step (Kd.int .i64) _ 3 ?hg (N := 13) ?hd (xs := ([0, 61, 12, (-3), 60] : List Int)) (inner := [.int .i64 0, .int .i64 61, .int .i64 12, .int .i64 (-3), .int .i64 60]) (ok := fun _ => True) (okp := fun _ => True) ?hr ?hp (fun _ hk => hk) trivial (Below.refl _ _) (Nat.le_refl _) (by simp) ?_; (case hd => rfl); (case hg => rfl); (case hr => first | (go_simp; done) | (go_simp; rfl)); (case hp => exact (Reps.one (show Kd.M (Kd.int .i64) _ _ _ 0 [.int .i64 0] from rfl) (Reps.one (show Kd.M (Kd.int .i64) _ _ _ 61 [.int .i64 61] from rfl) (Reps.one (show Kd.M (Kd.int .i64) _ _ _ 12 [.int .i64 12] from rfl) (Reps.one (show Kd.M (Kd.int .i64) _ _ _ (-3) [.int .i64 (-3)] from rfl) (Reps.one (show Kd.M (Kd.int .i64) _ _ _ 60 [.int .i64 60] from rfl) (Reps.none _ _)))))))
 intro v321 w16 ho17 hb hg_ hnew_
 clear hg_ hnew_
 (first | rw [← Ny320.out] at ho17 | (simp only [Int.reduceToNat] at ho17; rw [← Ny320.out] at ho17))
 have HO322 := Aside0.mk (Kd.R_lower (Kd.R_new' ho17 (Kd.R_lt (re_ HO313.out))) (keep_size (w := w) (g := g) (row := none) (kq_ HK)))
 replace HO313 := Aside0.mk (Kd.R_elder' (re_ HO313.out) (Kd.R_base ho17) hb)
 replace BK310 := bk_ BK310 hb
 replace BK316 := bk_ BK316 hb
 replace HK := Aside0.mk (KeepBut.trans (kq_ HK) (KeepBut.of_below hb g none) (.inl rfl))
 replace HB := Aside0.mk (below_step (bi_ HB (IsS55.ge HI0.out)) hb)
 replace HI0 := Aside0.mk (IsS55.below (IsS55.q_ HI0) hb)
 clear hb ho17
 obtain ⟨Ao18, co18, eo18⟩ := Kd.R_slice HO322.out
 (first | subst eo18 | (injection eo18 with f1_ f2_ f3_; have f4_ := f1_.symm; have f5_ := f3_.symm; clear f1_ f2_ f3_; subst f4_; subst f5_))
 refine hK.out _ _ ((blk_cell BK316.out 0).trans rfl) (fun hHeld => ?_)
 clear hK K
 refine norm_ (a' := ?_) ?_ ?_
 rotate_left
 · show Act.put _ (some 13) _ = _
   simp only [Act.put, z1_, z2_, z3_, i64_w, i32_w]
   rfl
 refine on_ HT_ 4 14 (B_ 31 9) (fun K hK => ?_)
 refine goes_ Try.func45 (by kernel_rfl) rfl #[.pointer (some ⟨g, 0, none⟩), .slice Ao18 y320.length co18] (by rfl) rfl rfl (by (try simp only [List.map_toArray, List.map_cons, List.map_nil]); first | done | rfl | (simp only [List.length_drop, List.length_take]; rfl)) ?_
 with_reducible refine (spec_l1PickInt.calls g s0_0 t318 t319 _ _ y320 t323 t324 t325 w0 _ ?side1 ?side2 ?side3 ?side4 ?side5 A5.out).mono ?_
 (case side1 => exact IsS55.q_ HI0)
 (case side2 => exact bi_ HB (IsS55.ge HI0.out))
 (case side3 => exact ce_ ((Kd.R_reads' HO322.out).2.2))
 (case side4 => exact (Kd.R_reads' HO322.out).2.1)
 (case side5 => exact far_slice (IsS55.own_ne HI0.out HO322.out (by decide)))
 rintro e w19 ⟨rfl, hi, hb, hk⟩
 refine ⟨_, rfl, ?_⟩
 replace BK310 := Aside0.mk (KeepBut.blk hk (g' := gb310) (o := .cells #[.slice none 0 0] 26 (0, 0)) (be_ BK310.out) NB310_0.out (by simp))
 replace HO313 := Aside0.mk (Kd.R_mono (Kd.R_keep (IsS55.apart (show IsS55 w0 _ g s0_0 t318 t319 from IsS55.q_ HI0) (re_ HO313.out) (by decide)) hk (fun _ h => h.2)) (fun _ h => h.1))
 replace BK316 := Aside0.mk (KeepBut.blk hk (g' := gb316) (o := .cells #[.slice Ao10 t311.length co10] 26 (0, 0)) (be_ BK316.out) NB316_0.out (by simp))
 replace HO322 := Aside0.mk (Kd.R_mono (Kd.R_keep (IsS55.apart (show IsS55 w0 _ g s0_0 t318 t319 from IsS55.q_ HI0) (re_ HO322.out) (by decide)) hk (fun _ h => h.2)) (fun _ h => h.1))
 replace HK := Aside0.mk (KeepBut.trans (kq_ HK) hk (.inl rfl))
 replace HB := Aside0.mk (hb)
 replace HI0 := Aside0.mk (hi)
 (try clear hb)
 (try clear hk)
 (try clear hi)
 refine hK.out _ _ ((blk_cell BK316.out 0).trans rfl) (fun hHeld => ?_)
 clear hK K
 refine norm_ (a' := ?_) ?_ ?_
 rotate_left
 · show Act.put _ (some 14) _ = _
   simp only [Act.put, z1_, z2_, z3_, i64_w, i32_w]
   rfl
 refine on_ HT_ 5 15 (B_ 63 9) (fun K hK => ?_)
 refine value_ (w1 := ?_) (v := ?_) (by rfl) rfl ?_ ?_
 rotate_left 2
 · go_simp
   constructor
   · rfl
   · rfl
 refine hK.out _ _ ((blk_cell (blk_alloc BK316.out _) 0).trans rfl) (fun hHeld => ?_)
 clear hK K
 refine norm_ (a' := ?_) ?_ ?_
 rotate_left
 · show Act.put _ (some 15) _ = _
   simp only [Act.put, z1_, z2_, z3_, i64_w, i32_w]
   rfl
 refine on_ HT_ 6 16 (B_ 127 9) (fun K hK => ?_)
 refine Kd.R_append_step (Kd.int .i64) w.heap.size (by rfl) (.tmp 11) (.tmp 15) 24 3 (.int .i64 0) 8 rfl Try.underlying24 info3 rfl (by decide) (by omega) (.slice Ao10 t311.length co10) t311 t323 [.int .i64 t323] (fun k_ => some k_ ≠ (.slice Ao18 y320.length co18 : Value).ownBlock) (fun _ => False) rfl rfl ?aP (fun _ hk => hk.elim) ?aF ?aO (Below.refl _ _) ?aS ?aL ?_
 (case aP => exact rfl)
 (case aF => exact (fun k_ hk => Kd.fresh' (Kd.R_lt (re_ HO322.out)) k_ hk))
 (case aO => exact (by (with_reducible repeat (first | apply Kd.R_alloc | apply Kd.R_drewN | apply Kd.R_drew)); exact Kd.R_mono HO313.out (fun _ hk => hk.2)))
 (case aS => exact (keep_size (w := w) (g := g) (row := none) (kq_ HK)))
 (case aL => have := LMc6.out; omega)
 intro v327 w20 ho hb hg hat
 rw [← Ny326.out] at ho
 replace BK310 := Aside0.mk (blk_grown (be_ BK310.out) hg (Kd.R_ne HO313.out BK310.out (by decide)))
 replace BK316 := Aside0.mk (blk_grown (be_ BK316.out) hg (Kd.R_ne HO313.out BK316.out (by decide)))
 replace HO322 := Aside0.mk (Kd.R_after (ok := (fun _ => True)) (re_ HO322.out) hg hat)
 replace HB := Aside0.mk (below_weaken (bi_ HB (IsS55.ge HI0.out)) HL.out hb)
 replace HI0 := Aside0.mk (IsS55.grown (IsS55.q_ HI0) hg (IsS55.own_ne HI0.out HO313.out (by decide)))
 replace HK := Aside0.mk (KeepBut.trans (kq_ HK) (KeepBut.of_grown hg g) (Kd.R_base2 HO313.out))
 have HO328 := Aside0.mk (ho)
 clear HO313
 clear ho hb hg hat
 obtain ⟨Ao21, co21, eo21⟩ := Kd.R_slice HO328.out
 (first | subst eo21 | (injection eo21 with f1_ f2_ f3_; have f4_ := f1_.symm; have f5_ := f3_.symm; clear f1_ f2_ f3_; subst f4_; subst f5_))
 refine hK.out _ _ ((blk_cell BK316.out 0).trans rfl) (fun hHeld => ?_)
 clear hK K
 refine norm_ (a' := ?_) ?_ ?_
 rotate_left
 · show Act.put _ (some 16) _ = _
   simp only [Act.put, z1_, z2_, z3_, i64_w, i32_w]
   rfl
 refine pu_ HT_ 7 17 (B_ 255 9) ?_
 refine last_ (i := 8) (N := none) (B_ 511 9) rfl rfl (one_of HT_.out (by kernel_rfl)) (by decide) (fun K hK => ?_)
 have hs22 : w20.cell? ⟨gb316, 0, none⟩ = some (.slice Ao10 t311.length co10) := (blk_cell BK316.out 0).trans rfl
 have hfs22 := blk_frozen BK316.out 0
 have hns22_0 := NB310_316.out
 have hms22_0 := NB316_310.out
 refine skip_ (w1 := ?_) (by rfl) rfl ?_ ?_
 rotate_left
 · go_simp
   rfl
 refine hK.out _ _ ?_
 clear hK K
 refine done_ (done_of HT_.out (by kernel_rfl)) ?_
 have hcz23_0 := cz_ BK316
 have hfz23_0 := blk_frozen BK316.out 0
 have hnb24 := NB310_0.out
 have hnc24 := NB0_310.out
 have hcz25_0 := cz_ BK310
 have hfz25_0 := blk_frozen BK310.out 0
 try go_wp2
 refine bodyPost_ret (results_cell_row rfl _ _ gb310 26 #[.slice Ao21 y326.length co21] (0, 0) _ rfl (bz_ BK310) Try.underlying26 rfl (by kernel_rfl)) rfl ?_
 exact ⟨_, rf_, Kd.Q_of_R (by (with_reducible repeat (first | apply Kd.R_alloc | apply Kd.R_drewN | apply Kd.R_drew)); exact Kd.R_mono (Kd.R_far (p := ⟨gb310, 0, none⟩) (Kd.R_far (p := ⟨gb316, 0, none⟩) (Kd.R_types (Kd.R_types HO328.out BK316.out (by decide)) BK310.out (by decide)) (fun _ hk => hk.1.2) (.slice Ao21 y326.length co21)) (fun _ hk => hk.2) (.slice Ao21 y326.length co21)) (fun _ hk => trivial)), IsS55.q_ HI0, bi_ HB (IsS55.ge HI0.out), kq_ HK⟩
def spec_l1New.l0 : Nat → List Int → Int → Int → Option (List Int × Int × Int)
 | 0, _, _, _ => none
 | k + 1, x0, x3, x4 => if x4 < (x0.length : Int) then (if x4 < 4000 then (if 0 ≤ x4 then (spec_l1New.l0 k x0 (Go.bits .and .i64 (wrap64 ((wrap64 ((wrap64 (x3 * 131)) + (wrap64 (rd x0 x4)))) + 7)) 1073741823) (wrap64 (x4 + 1))) else (none)) else (some (x0, 0, x3))) else (some (x0, 0, x3))
def spec_l1New.f (k : Nat) (l0 : List Int) : Option (List Int × Int × Int) := spec_l1New.l0 k l0 (wrap64 (26583 + (l0.length : Int))) 0
theorem spec_l1New.calls (k : Nat) (A0 : Option Addr) (c0 : Nat) (l0 : List Int) (r1 : List Int) (r2 : Int) (r3 : Int) (w0 w : World) (hB : Below w0.heap.size w0 w) (hr0 : Kd.C (Kd.int .u8) w0 A0 l0.length l0) (hc0 : l0.length ≤ c0) (h : spec_l1New.f k l0 = some (r1, r2, r3)) :
 Calls Try.prog 23 #[.slice A0 l0.length c0] w fun e w' => ∃ g_ : Nat, e = .returned (.pointer (some ⟨g_, 0, none⟩)) ∧ IsS55 w0 w' g_ r1 r2 r3 ∧ Below w0.heap.size w0 w' ∧ Below w.heap.size w w' := by
 have hu55 := Try.underlying55
 have HR0 := Aside0.mk hr0
 have HC0 := Aside0.mk hc0
 clear hr0 hc0
 have HBW := Aside0.mk (Below.refl w.heap.size w)
 have HW0 := Aside0.mk hB.size
 have HB := Aside0.mk hB
 clear hB
 have H := h
 clear h
 unfold spec_l1New.f at H
 have H' := Aside0.mk H
 clear H
 go_enter Try.func23, Try.ntmps23
 go_wp2
 go_loopg [3, 4] k (fun kq v3 v4 w' => ∃ (x3_1 : Int) (x4_1 : Int), v3 = .int .i64 x3_1 ∧ v4 = .int .i64 x4_1 ∧ Aside0 (spec_l1New.l0 kq l0 x3_1 x4_1 = some (r1, r2, r3)) ∧ Aside0 (kq ≤ k) ∧ Aside0 (Below w0.heap.size w0 w') ∧ Aside0 (Below w.heap.size w w'))
 case atStart => exact ⟨(wrap64 (26583 + (l0.length : Int))), (0), rs_, rs_, H', ⟨Nat.le_refl _⟩, ⟨bl_ HB.out⟩, HBW⟩
 case round =>
  clear H'
  clear HBW
  obtain ⟨x3_1, x4_1, rfl, rfl, HA, HK1, HB, HBW⟩ := hrel
  cases gk with
  | zero => exact absurd HA.out (by simp [spec_l1New.l0])
  | succ k1 =>
   have H := HA.out
   clear HA
   simp only [spec_l1New.l0] at H
   by_cases c2 : x4_1 < (l0.length : Int)
   rotate_left
   · rw [if_neg c2] at H
     have c2b0 : decide (x4_1 < (l0.length : Int)) = false := decide_eq_false c2
     clear c2
     simp only [Option.some.injEq, Prod.mk.injEq] at H
     obtain ⟨rfl, rfl, rfl⟩ := H
     go_wp2_with (first | ((with_reducible refine gate_dst (N := 31) rfl ?_); refine bx_ 31 #[.slice A0 l0.length c0, .int .i64 0, .int .i64 x3_1] 55 ?_; intro gb343 hg w6 hbox hb; replace HB := bo_ HB hb; have BK343 := Aside0.mk (hbox); have GW343 := gw_ hg HBW; have GE343 := Aside0.mk ((Nat.le_trans HW0.out (by rw [hg]; exact (below_size (bl_ HBW.out)) : w.heap.size ≤ gb343) : w0.heap.size ≤ gb343)); replace HBW := Aside0.mk (below_step HBW.out hb); clear hb hbox hg))
     go_ret
     exact ⟨_, rfl, (show IsS55 w0 _ gb343 l0 0 x3_1 from ⟨_, _, be_ BK343.out, GE343.out, HR0.out⟩), bq_ HB, bq_ HBW⟩
   rw [if_pos c2] at H
   have c2b0 : decide (x4_1 < (l0.length : Int)) = true := decide_eq_true c2
   clear c2
   by_cases c3 : x4_1 < 4000
   rotate_left
   · rw [if_neg c3] at H
     have c3b0 : decide (x4_1 < 4000) = false := decide_eq_false c3
     clear c3
     simp only [Option.some.injEq, Prod.mk.injEq] at H
     obtain ⟨rfl, rfl, rfl⟩ := H
     go_wp2_with (first | ((with_reducible refine gate_dst (N := 31) rfl ?_); refine bx_ 31 #[.slice A0 l0.length c0, .int .i64 0, .int .i64 x3_1] 55 ?_; intro gb342 hg w5 hbox hb; replace HB := bo_ HB hb; have BK342 := Aside0.mk (hbox); have GW342 := gw_ hg HBW; have GE342 := Aside0.mk ((Nat.le_trans HW0.out (by rw [hg]; exact (below_size (bl_ HBW.out)) : w.heap.size ≤ gb342) : w0.heap.size ≤ gb342)); replace HBW := Aside0.mk (below_step HBW.out hb); clear hb hbox hg))
     go_ret
     exact ⟨_, rfl, (show IsS55 w0 _ gb342 l0 0 x3_1 from ⟨_, _, be_ BK342.out, GE342.out, HR0.out⟩), bq_ HB, bq_ HBW⟩
   rw [if_pos c3] at H
   have c3b0 : decide (x4_1 < 4000) = true := decide_eq_true c3
   clear c3
   obtain ⟨c4b0, H⟩ := ipd_ H
   have H' := Aside0.mk H
   clear H
   have p341 : 0 ≤ (x4_1 : Int) := od_
   have q341 : x4_1 < (l0.length : Int) := od_
   obtain ⟨ad341, e341, hx341_0⟩ := Kd.at_int HR0.out x4_1 p341 q341
   cases e341
   replace hx341_0 := pw_cell_below HB.out hx341_0
   replace p341 := eq_true p341
   replace q341 := eq_true q341
   go_wp2
   go_roundg k1
   case measure => have := HK1.out; omega
   case rel => exact ⟨(Go.bits .and .i64 (wrap64 ((wrap64 ((wrap64 (x3_1 * 131)) + (wrap64 (rd l0 x4_1)))) + 7)) 1073741823), (wrap64 (x4_1 + 1)), rs_, rs_, H', ⟨by have := HK1.out; omega⟩, ⟨bl_ HB.out⟩, ⟨bl_ HBW.out⟩⟩
def spec_DrawArfClosure.f (k : Nat) (l0 : List Int) : Option (List Int) := (spec_l1New.f k l0).bind fun bt345 => ((spec_l3Bent.f k bt345.1 bt345.2.1 bt345.2.2).bind fun bt349 => (some bt349.1))
theorem spec_DrawArfClosure.calls (k : Nat) (A0 : Option Addr) (c0 : Nat) (l0 : List Int) (r : List Int) (w : World) (hr0 : Kd.C (Kd.int .u8) w A0 l0.length l0) (hc0 : l0.length ≤ c0) (h : spec_DrawArfClosure.f k l0 = some r) :
 Calls Try.prog 5 #[.slice A0 l0.length c0] w fun e w' => ∃ v0_ : Value, e = .returned (.agg #[v0_]) ∧ Kd.Q (Kd.int .i64) 3 w' w.heap.size (fun _ => True) v0_ r ∧ Below w.heap.size w w' := by
 have hu26 := Try.underlying26
 have HR0 := Aside0.mk hr0
 have HC0 := Aside0.mk hc0
 clear hr0 hc0
 have HB := Aside0.mk (Below.refl w.heap.size w)
 have H := h
 clear h
 unfold spec_DrawArfClosure.f at H
 obtain ⟨⟨t345, t346, t347⟩, A2, H⟩ := ob_ H
 (try dsimp only at H)
 obtain ⟨⟨t349, t352, t353⟩, A3, H⟩ := ob_ H
 (try dsimp only at H)
 obtain rfl := Option.some.inj H
 go_enter Try.func5, Try.ntmps5
 go_wp2_with (first | ((with_reducible refine gate_dst (N := 2) rfl ?_); refine bx_ 2 #[.slice none 0 0] 26 ?_; intro gb344 hg w4 hbox hb; have BK344 := Aside0.mk (hbox); have GW344 := gw_ hg HB; have GE344 := gw_ hg HB; replace HB := bo_ HB hb; clear hb hbox hg) | ((with_reducible refine gate_callee (f := 23) rfl ?_); refine gL_ (some 4) Try.func23 #[.slice A0 l0.length c0] ?_; (with_reducible refine (spec_l1New.calls k _ _ l0 t345 t346 t347 w _ ?side1 ?side2 ?side3 A2.out).mono ?_); (case side1 => exact bq_ HB); (case side2 => exact HR0.out); (case side3 => exact HC0.out); rintro e w5 ⟨g348, rfl, hi, hb, hb2⟩; refine ⟨_, rfl, ?_⟩; replace HB := Aside0.mk (hb); have HI348 := Aside0.mk (hi); have NB348_344 := Aside0.mk (IsS55.ne_blk hi (blk_below (be_ BK344.out) hb2) (by decide)); have NB344_348 := Aside0.mk (Ne.symm (IsS55.ne_blk hi (blk_below (be_ BK344.out) hb2) (by decide))); replace BK344 := Aside0.mk (blk_below (be_ BK344.out) hb2); (try clear hb); (try clear hb2); (try clear hi)) | ((with_reducible refine gate_callee (f := 22) rfl ?_); refine gL_ (some 5) Try.func22 #[.pointer (some ⟨g348, 0, none⟩)] ?_; (with_reducible refine (spec_l3Bent.calls k g348 t345 t346 t347 t349 t352 t353 w _ ?side1 ?side2 A3.out).mono ?_); (case side1 => exact IsS55.q_ HI348); (case side2 => exact bi_ HB (IsS55.ge HI348.out)); rintro e w6 ⟨v350, rfl, ho0, hi, hb, hk⟩; refine ⟨_, rfl, ?_⟩; replace BK344 := Aside0.mk (KeepBut.blk hk (g' := gb344) (o := .cells #[.slice none 0 0] 26 (0, 0)) (be_ BK344.out) NB344_348.out (by simp)); have HO351 := Aside0.mk (Kd.Q_lower ho0 (below_size (bi_ HB (IsS55.ge HI348.out)))); replace HB := Aside0.mk (hb); replace HI348 := Aside0.mk (hi); (try clear hb); (try clear hk); (try clear hi); (try clear ho0); obtain ⟨Ao7, co7, eo7, _⟩ := Kd.Q_slice HO351.out; subst eo7; have hnb8 := NB344_348.out; have hnc8 := NB348_344.out; have hcz9_0 := cz_ BK344; have hfz9_0 := blk_frozen BK344.out 0))
 refine bodyPost_ret (results_cell_row rfl _ _ gb344 26 #[.slice Ao7 t349.length co7] (0, 0) _ rfl (bz_ BK344) Try.underlying26 rfl (by kernel_rfl)) rfl ?_
 exact ⟨_, rf_, by (with_reducible repeat (first | apply Kd.Q_alloc | apply Kd.Q_drewN | apply Kd.Q_drew)); exact Kd.Q_mono (Kd.Q_far (p := ⟨gb344, 0, none⟩) (Kd.Q_types HO351.out BK344.out (by decide)) (fun _ hk => hk.2) (.slice Ao7 t349.length co7)) (fun _ hk => trivial), bi_ HB (IsS55.ge HI348.out)⟩
def spec_l4Gaps.l0 : Nat → List Int → List Bool → Int → Option (List Int)
 | 0, _, _, _ => none
 | k + 1, x3, x4, x5 => if x5 < 200 then (if 0 ≤ x5 then (if x5 < (x4.length : Int) then (if rdOf false x4 x5 = true then (spec_l4Gaps.l0 k x3 x4 (wrap64 (x5 + 1))) else (if x3.length < 17592186044416 then (spec_l4Gaps.l0 k (x3 ++ [x5]) x4 (wrap64 (x5 + 1))) else (none))) else (none)) else (none)) else (some x3)
def spec_l4Gaps.f (k : Nat) (l0_0 : List Int) : Option (List Int) := (spec_l3Table.f k l0_0 200).bind fun t358 => (spec_l4Gaps.l0 k (([] : List Int)) t358 1)
theorem spec_l4Gaps.calls (k : Nat) (A0_0 : Option Addr) (c0_0 : Nat) (l0_0 : List Int) (r : List Int) (w : World) (hr0_0 : Kd.C (Kd.int .i64) w A0_0 l0_0.length l0_0) (hc0_0 : l0_0.length ≤ c0_0) (h : spec_l4Gaps.f k l0_0 = some r) :
 Calls Try.prog 28 #[.agg #[.slice A0_0 l0_0.length c0_0]] w fun e w' => ∃ v0_ : Value, e = .returned (v0_) ∧ Kd.R (Kd.int .i64) 3 w' w.heap.size (fun _ => True) v0_ r ∧ Below w.heap.size w w' := by
 have hu26 := Try.underlying26
 have HR0_0 := Aside0.mk hr0_0
 have HC0_0 := Aside0.mk hc0_0
 clear hr0_0 hc0_0
 have HB := Aside0.mk (Below.refl w.heap.size w)
 have H := h
 clear h
 unfold spec_l4Gaps.f at H
 obtain ⟨y355, hy355⟩ : ∃ y_ : List Int, y_ = (([] : List Int)) := ⟨_, rfl⟩
 replace H : ((spec_l3Table.f k l0_0 200).bind fun t358 => (spec_l4Gaps.l0 k y355 t358 1)) = some r := by subst hy355; exact H
 have Ny355 := Aside0.mk hy355
 clear hy355
 obtain ⟨t358, A2, H⟩ := ob_ H
 have H' := Aside0.mk H
 clear H
 go_enter Try.func28, Try.ntmps28
 go_wp2_with (first | ((with_reducible refine gate_dst (N := 1) rfl ?_); refine bx_ 1 #[.slice A0_0 l0_0.length c0_0] 26 ?_; intro gb354 hg w3 hbox hb; have BK354 := Aside0.mk (hbox); have GW354 := gw_ hg HB; have GE354 := gw_ hg HB; replace HB := bo_ HB hb; clear hb hbox hg) | ((with_reducible refine gate_dst (N := 6) rfl ?_); refine Kd.R_lit (Kd.int .i64) _ 3 ?hg (N := 6) ?hd (xs := ([] : List Int)) (inner := []) (ok := fun _ => True) (okp := fun _ => True) ?hr ?hp (fun _ hk => hk) trivial (Below.refl _ _) (Nat.le_refl _) (by simp) ?_; (case hd => rfl); (case hg => rfl); (case hr => first | (go_simp; done) | (go_simp; rfl)); (case hp => exact (Reps.none _ _)); intro v356 w4 ho5 hb hg_ hnew_; clear hg_ hnew_; (first | rw [← Ny355.out] at ho5 | (simp only [Int.reduceToNat] at ho5; rw [← Ny355.out] at ho5)); have HO357 := Aside0.mk (Kd.R_lower ho5 (below_size (bq_ HB))); replace BK354 := bk_ BK354 hb; replace HB := bp_ HB hb; clear hb ho5; have hcz6_0 := cz_ BK354; have hfz6_0 := blk_frozen BK354.out 0) | ((with_reducible refine gate_callee (f := 60) rfl ?_); refine gL_ (some 9) Try.func60 #[.slice A0_0 l0_0.length c0_0, .int .i64 200] ?_; (with_reducible refine (spec_l3Table.calls k _ _ l0_0 200 t358 _ ?side1 ?side2 A2.out).mono ?_); (case side1 => exact ch_ HR0_0 HB); (case side2 => exact HC0_0.out); rintro e w7 ⟨v359, rfl, ho0, hb⟩; refine ⟨_, rfl, ?_⟩; replace HO357 := Aside0.mk (Kd.R_below (re_ HO357.out) hb); have HO360 := Aside0.mk (Kd.R_lower ho0 (below_size (bq_ HB))); replace BK354 := bk_ BK354 hb; replace HB := bp_ HB hb; (try clear hb); (try clear ho0)))
 go_loopg [3, 5] k (fun kq v3 v5 w' => ∃ (x3_1 : List Int) (x5_1 : Int), v5 = .int .i64 x5_1 ∧ Aside0 (spec_l4Gaps.l0 kq x3_1 t358 x5_1 = some r) ∧ Aside0 (kq ≤ k) ∧ Aside0 (Kd.R (Kd.int .i64) 3 w' w.heap.size (fun _ => True) v3 x3_1) ∧ Aside0 (Kd.R Kd.bool 4 w' w.heap.size (fun _ => True) v359 t358) ∧ Aside0 (w'.heap[gb354]? = some (.cells #[(.slice A0_0 l0_0.length c0_0)] 26 (0, 0))) ∧ Aside0 (Below w.heap.size w w'))
 case atStart => exact ⟨(y355), (1), rs_, H', ⟨Nat.le_refl _⟩, ⟨re_ HO357.out⟩, ⟨re_ HO360.out⟩, ⟨be_ BK354.out⟩, ⟨bq_ HB⟩⟩
 case round =>
  clear H'
  try clear hcz6_0
  try clear hfz6_0
  obtain ⟨x3_1, x5_1, rfl, HA, HK1, HO_3, HO_4, BK354, HB⟩ := hrel
  cases gk with
  | zero => exact absurd HA.out (by simp [spec_l4Gaps.l0])
  | succ k1 =>
   have H := HA.out
   clear HA
   simp only [spec_l4Gaps.l0] at H
   by_cases c8 : x5_1 < 200
   rotate_left
   · rw [if_neg c8] at H
     have c8b0 : decide (x5_1 < 200) = false := decide_eq_false c8
     clear c8
     obtain rfl := Option.some.inj H
     go_wp2
     go_ret
     exact ⟨_, rf_, re_ HO_3.out, bq_ HB⟩
   rw [if_pos c8] at H
   have c8b0 : decide (x5_1 < 200) = true := decide_eq_true c8
   clear c8
   obtain ⟨c9b0, H⟩ := ipd_ H
   obtain ⟨c10b0, H⟩ := ipd_ H
   obtain ⟨bq11, hbq11⟩ : ∃ b_ : Bool, b_ = (rdOf false t358 x5_1) := ⟨_, rfl⟩
   replace H : (if bq11 = true then (spec_l4Gaps.l0 k1 x3_1 t358 (wrap64 (x5_1 + 1))) else (if x3_1.length < 17592186044416 then (spec_l4Gaps.l0 k1 (x3_1 ++ [x5_1]) t358 (wrap64 (x5_1 + 1))) else (none))) = some r := by rw [← hbq11] at H; exact H
   have Nbq11 := Aside0.mk hbq11
   clear hbq11
   by_cases c12 : bq11 = true
   · subst c12
     rw [if_pos rfl] at H
     have H' := Aside0.mk H
     clear H
     obtain ⟨Ao13, co13, eo13⟩ := Kd.R_slice HO_4.out
     subst eo13
     have p361 : 0 ≤ (x5_1 : Int) := od_
     have q361 : x5_1 < (t358.length : Int) := od_
     obtain ⟨ad361, e361, hx361_0⟩ := Kd.at_bool (Kd.R_reads' HO_4.out).2.2 x5_1 p361 q361
     (try rw [← Nbq11.out] at hx361_0)
     cases e361
     replace p361 := eq_true p361
     replace q361 := eq_true q361
     go_wp2
     go_roundg k1
     case measure => have := HK1.out; omega
     case rel => exact ⟨(x3_1), (wrap64 (x5_1 + 1)), rs_, H', ⟨by have := HK1.out; omega⟩, ⟨re_ HO_3.out⟩, ⟨re_ HO_4.out⟩, ⟨be_ BK354.out⟩, ⟨bq_ HB⟩⟩
   replace c12 := Bool.eq_false_iff.mpr c12
   subst c12
   rw [if_neg (show ¬ (false = true) by decide)] at H
   obtain ⟨c14, H⟩ := ip_ H
   have LMc14 := Aside0.mk c14
   clear c14
   obtain ⟨y362, hy362⟩ : ∃ y_ : List Int, y_ = (x3_1 ++ [x5_1]) := ⟨_, rfl⟩
   replace H : (spec_l4Gaps.l0 k1 y362 t358 (wrap64 (x5_1 + 1))) = some r := by subst hy362; exact H
   have Ny362 := Aside0.mk hy362
   clear hy362
   have H' := Aside0.mk H
   clear H
   obtain ⟨Ao15, co15, eo15⟩ := Kd.R_slice HO_4.out
   subst eo15
   have p361 : 0 ≤ (x5_1 : Int) := od_
   have q361 : x5_1 < (t358.length : Int) := od_
   obtain ⟨ad361, e361, hx361_0⟩ := Kd.at_bool (Kd.R_reads' HO_4.out).2.2 x5_1 p361 q361
   (try rw [← Nbq11.out] at hx361_0)
   cases e361
   replace p361 := eq_true p361
   replace q361 := eq_true q361
   go_wp2_with (first | ((with_reducible refine gate_builtin (b := .append) (xs := #[.tmp 19, .tmp 21]) rfl ?_); at_builtin; refine Kd.R_append (Kd.int .i64) (w0 := w) w.heap.size rfl (.tmp 19) (.tmp 21) 24 3 (.int .i64 0) 8 rfl Try.underlying24 info3 rfl (by decide) (by omega) u3 x3_1 x5_1 [.int .i64 x5_1] (fun _ => True) (fun _ => False) rfl rfl ?aP (fun _ hk => hk.elim) ?aF ?aO ?aB ?aS ?aL ?_; (case aP => exact rfl); (case aB => exact (bq_ HB)); (case aF => exact (fun _ _ => trivial)); (case aO => exact (re_ HO_3.out)); (case aS => exact (below_size (bq_ HB))); (case aL => have := LMc14.out; omega); intro v363 w16 ho hb hg hat; rw [← Ny362.out] at ho; replace HO_4 := Aside0.mk (Kd.R_over' (re_ HO_4.out) (Kd.R_typed (re_ HO_3.out)) (by decide) hg); replace BK354 := Aside0.mk (blk_grown (be_ BK354.out) hg (Kd.R_ne HO_3.out BK354.out (by decide))); replace HB := Aside0.mk (hb); have HO364 := Aside0.mk (ho); clear HO_3; clear ho hb hg hat))
   go_roundg k1
   case measure => have := HK1.out; omega
   case rel => exact ⟨(y362), (wrap64 (x5_1 + 1)), rs_, H', ⟨by have := HK1.out; omega⟩, ⟨re_ HO364.out⟩, ⟨re_ HO_4.out⟩, ⟨be_ BK354.out⟩, ⟨bq_ HB⟩⟩
def spec_Gaps.f (k : Nat) (l0_0 : List Int) : Option (List Int) := (spec_IsSemigroup.f k l0_0).bind fun t366 => (if t366 = true then ((spec_l4Gaps.f k l0_0).bind fun t367 => (some t367)) else (some (([] : List Int))))
theorem spec_Gaps.calls (k : Nat) (A0_0 : Option Addr) (c0_0 : Nat) (l0_0 : List Int) (r : List Int) (w : World) (hr0_0 : Kd.C (Kd.int .i64) w A0_0 l0_0.length l0_0) (hc0_0 : l0_0.length ≤ c0_0) (h : spec_Gaps.f k l0_0 = some r) :
 Calls Try.prog 76 #[.agg #[.slice A0_0 l0_0.length c0_0]] w fun e w' => ∃ v0_ : Value, e = .returned (v0_) ∧ Kd.R (Kd.int .i64) 3 w' w.heap.size (fun _ => True) v0_ r ∧ Below w.heap.size w w' := by
 have hu26 := Try.underlying26
 have HR0_0 := Aside0.mk hr0_0
 have HC0_0 := Aside0.mk hc0_0
 clear hr0_0 hc0_0
 have HB := Aside0.mk (Below.refl w.heap.size w)
 have H := h
 clear h
 unfold spec_Gaps.f at H
 obtain ⟨t366, A2, H⟩ := ob_ H
 by_cases c3 : t366 = true
 · subst c3
   rw [if_pos rfl] at H
   obtain ⟨t367, A4, H⟩ := ob_ H
   obtain rfl := Option.some.inj H
   go_enter Try.func76, Try.ntmps76
   go_wp2_with (first | ((with_reducible refine gate_dst (N := 1) rfl ?_); refine bx_ 1 #[.slice A0_0 l0_0.length c0_0] 26 ?_; intro gb365 hg w5 hbox hb; have BK365 := Aside0.mk (hbox); have GW365 := gw_ hg HB; have GE365 := gw_ hg HB; replace HB := bo_ HB hb; clear hb hbox hg; have hcz6_0 := cz_ BK365; have hfz6_0 := blk_frozen BK365.out 0) | ((with_reducible refine gate_callee (f := 27) rfl ?_); refine gL_ (some 4) Try.func27 #[.agg #[.slice A0_0 l0_0.length c0_0]] ?_; (with_reducible refine (spec_IsSemigroup.calls k _ _ l0_0 true _ ?side1 ?side2 A2.out).mono ?_); (case side1 => exact ch_ HR0_0 HB); (case side2 => exact HC0_0.out); rintro e w7 ⟨rfl, hb⟩; refine ⟨_, rfl, ?_⟩; replace BK365 := bk_ BK365 hb; replace HB := bp_ HB hb; (try clear hb); have hcz8_0 := cz_ BK365; have hfz8_0 := blk_frozen BK365.out 0) | ((with_reducible refine gate_callee (f := 28) rfl ?_); refine gL_ (some 8) Try.func28 #[.agg #[.slice A0_0 l0_0.length c0_0]] ?_; (with_reducible refine (spec_l4Gaps.calls k _ _ l0_0 t367 _ ?side1 ?side2 A4.out).mono ?_); (case side1 => exact ch_ HR0_0 HB); (case side2 => exact HC0_0.out); rintro e w9 ⟨v368, rfl, ho0, hb⟩; refine ⟨_, rfl, ?_⟩; have HO369 := Aside0.mk (Kd.R_lower ho0 (below_size (bq_ HB))); replace BK365 := bk_ BK365 hb; replace HB := bp_ HB hb; (try clear hb); (try clear ho0)))
   go_ret
   exact ⟨_, rf_, re_ HO369.out, bq_ HB⟩
 replace c3 := Bool.eq_false_iff.mpr c3
 subst c3
 rw [if_neg (show ¬ (false = true) by decide)] at H
 obtain ⟨y370, hy370⟩ : ∃ y_ : List Int, y_ = (([] : List Int)) := ⟨_, rfl⟩
 replace H : (some y370) = some r := by subst hy370; exact H
 have Ny370 := Aside0.mk hy370
 clear hy370
 obtain rfl := Option.some.inj H
 go_enter Try.func76, Try.ntmps76
 go_wp2_with (first | ((with_reducible refine gate_dst (N := 1) rfl ?_); refine bx_ 1 #[.slice A0_0 l0_0.length c0_0] 26 ?_; intro gb365 hg w10 hbox hb; have BK365 := Aside0.mk (hbox); have GW365 := gw_ hg HB; have GE365 := gw_ hg HB; replace HB := bo_ HB hb; clear hb hbox hg; have hcz11_0 := cz_ BK365; have hfz11_0 := blk_frozen BK365.out 0) | ((with_reducible refine gate_callee (f := 27) rfl ?_); refine gL_ (some 4) Try.func27 #[.agg #[.slice A0_0 l0_0.length c0_0]] ?_; (with_reducible refine (spec_IsSemigroup.calls k _ _ l0_0 false _ ?side1 ?side2 A2.out).mono ?_); (case side1 => exact ch_ HR0_0 HB); (case side2 => exact HC0_0.out); rintro e w12 ⟨rfl, hb⟩; refine ⟨_, rfl, ?_⟩; replace BK365 := bk_ BK365 hb; replace HB := bp_ HB hb; (try clear hb)) | ((with_reducible refine gate_dst (N := 6) rfl ?_); refine Kd.R_lit (Kd.int .i64) _ 3 ?hg (N := 6) ?hd (xs := ([] : List Int)) (inner := []) (ok := fun _ => True) (okp := fun _ => True) ?hr ?hp (fun _ hk => hk) trivial (Below.refl _ _) (Nat.le_refl _) (by simp) ?_; (case hd => rfl); (case hg => rfl); (case hr => first | (go_simp; done) | (go_simp; rfl)); (case hp => exact (Reps.none _ _)); intro v371 w13 ho14 hb hg_ hnew_; clear hg_ hnew_; (first | rw [← Ny370.out] at ho14 | (simp only [Int.reduceToNat] at ho14; rw [← Ny370.out] at ho14)); have HO372 := Aside0.mk (Kd.R_lower ho14 (below_size (bq_ HB))); replace BK365 := bk_ BK365 hb; replace HB := bp_ HB hb; clear hb ho14))
 go_ret
 exact ⟨_, rf_, re_ HO372.out, bq_ HB⟩
def spec_FrobeniusOf.f (k : Nat) (l0_0 : List Int) : Option (Int) := (spec_Gaps.f k l0_0).bind fun t374 => (if (t374.length : Int) = 0 then (some (-1)) else (if 0 ≤ (wrap64 ((t374.length : Int) - 1)) then (if (wrap64 ((t374.length : Int) - 1)) < (t374.length : Int) then (some (rd t374 (wrap64 ((t374.length : Int) - 1)))) else (none)) else (none)))
theorem spec_FrobeniusOf.calls (k : Nat) (A0_0 : Option Addr) (c0_0 : Nat) (l0_0 : List Int) (r : Int) (w : World) (hr0_0 : Kd.C (Kd.int .i64) w A0_0 l0_0.length l0_0) (hc0_0 : l0_0.length ≤ c0_0) (h : spec_FrobeniusOf.f k l0_0 = some r) :
 Calls Try.prog 61 #[.agg #[.slice A0_0 l0_0.length c0_0]] w fun e w' => e = .returned (.int .i64 r) ∧ Below w.heap.size w w' := by
 have hu26 := Try.underlying26
 have HR0_0 := Aside0.mk hr0_0
 have HC0_0 := Aside0.mk hc0_0
 clear hr0_0 hc0_0
 have HB := Aside0.mk (Below.refl w.heap.size w)
 have H := h
 clear h
 unfold spec_FrobeniusOf.f at H
 obtain ⟨t374, A2, H⟩ := ob_ H
 by_cases c3 : (t374.length : Int) = 0
 · rw [if_pos c3] at H
   have c3b0 : ((t374.length : Int) == 0) = true := beq_iff_eq.mpr c3
   have c3b1 : ((t374.length : Int) != 0) = false := bne_eq_false_iff_eq.mpr c3
   clear c3
   obtain rfl := Option.some.inj H
   go_enter Try.func61, Try.ntmps61
   go_wp2_with (first | ((with_reducible refine gate_dst (N := 1) rfl ?_); refine bx_ 1 #[.slice A0_0 l0_0.length c0_0] 26 ?_; intro gb373 hg w4 hbox hb; have BK373 := Aside0.mk (hbox); have GW373 := gw_ hg HB; have GE373 := gw_ hg HB; replace HB := bo_ HB hb; clear hb hbox hg; have hcz5_0 := cz_ BK373; have hfz5_0 := blk_frozen BK373.out 0) | ((with_reducible refine gate_callee (f := 76) rfl ?_); refine gL_ (some 5) Try.func76 #[.agg #[.slice A0_0 l0_0.length c0_0]] ?_; (with_reducible refine (spec_Gaps.calls k _ _ l0_0 t374 _ ?side1 ?side2 A2.out).mono ?_); (case side1 => exact ch_ HR0_0 HB); (case side2 => exact HC0_0.out); rintro e w6 ⟨v375, rfl, ho0, hb⟩; refine ⟨_, rfl, ?_⟩; have HO376 := Aside0.mk (Kd.R_lower ho0 (below_size (bq_ HB))); replace BK373 := bk_ BK373 hb; replace HB := bp_ HB hb; (try clear hb); (try clear ho0); obtain ⟨Ao7, co7, eo7⟩ := Kd.R_slice HO376.out; subst eo7))
   go_ret
   exact ⟨rf_, bq_ HB⟩
 rw [if_neg c3] at H
 have c3b0 : ((t374.length : Int) == 0) = false := beq_eq_false_iff_ne.mpr c3
 have c3b1 : ((t374.length : Int) != 0) = true := bne_iff_ne.mpr c3
 have c3b2 : ¬ (t374 = []) := fun h_ => c3 (by rw [h_]; rfl)
 obtain ⟨ji8, hji8⟩ : ∃ j_ : Int, (wrap64 ((t374.length : Int) - 1)) = j_ := ⟨_, rfl⟩
 replace H : (if 0 ≤ (ji8) then (if (ji8) < (t374.length : Int) then (some (rd t374 (ji8))) else (none)) else (none)) = some r := by first | (rw [hji8] at H; exact H) | (simp only [hji8] at H ⊢; exact H)
 (try rw [hji8] at A2)
 have hji8w : (IntKind.i64.wrap ((t374.length : Int) - 1)) = ji8 := (i64_w _).trans hji8
 obtain ⟨c9b0, H⟩ := ipd_ H
 obtain ⟨c10b0, H⟩ := ipd_ H
 obtain rfl := Option.some.inj H
 go_enter Try.func61, Try.ntmps61
 go_wp2_with (first | ((with_reducible refine gate_dst (N := 1) rfl ?_); refine bx_ 1 #[.slice A0_0 l0_0.length c0_0] 26 ?_; intro gb373 hg w11 hbox hb; have BK373 := Aside0.mk (hbox); have GW373 := gw_ hg HB; have GE373 := gw_ hg HB; replace HB := bo_ HB hb; clear hb hbox hg; have hcz12_0 := cz_ BK373; have hfz12_0 := blk_frozen BK373.out 0) | ((with_reducible refine gate_callee (f := 76) rfl ?_); refine gL_ (some 5) Try.func76 #[.agg #[.slice A0_0 l0_0.length c0_0]] ?_; (with_reducible refine (spec_Gaps.calls k _ _ l0_0 t374 _ ?side1 ?side2 A2.out).mono ?_); (case side1 => exact ch_ HR0_0 HB); (case side2 => exact HC0_0.out); rintro e w13 ⟨v375, rfl, ho0, hb⟩; refine ⟨_, rfl, ?_⟩; have HO376 := Aside0.mk (Kd.R_lower ho0 (below_size (bq_ HB))); replace BK373 := bk_ BK373 hb; replace HB := bp_ HB hb; (try clear hb); (try clear ho0); obtain ⟨Ao14, co14, eo14⟩ := Kd.R_slice HO376.out; subst eo14; have p377 : 0 ≤ ((ji8) : Int) := od_; have q377 : (ji8) < (t374.length : Int) := od_; obtain ⟨ad377, e377, hx377_0⟩ := Kd.at_int (Kd.R_reads' HO376.out).2.2 (ji8) p377 q377; cases e377; replace p377 := eq_true p377; replace q377 := eq_true q377))
 go_ret
 exact ⟨by first | rfl | (simp [errW_none, errW_some] <;> rfl) | (simp only [← hji8]; first | rfl | (simp [errW_none, errW_some] <;> rfl)) | (simp [*, errW_none, errW_some] <;> rfl), bq_ HB⟩
def spec_ConductorOf.f (k : Nat) (l0_0 : List Int) : Option (Int) := (spec_FrobeniusOf.f k l0_0).bind fun t379 => (some (wrap64 (t379 + 1)))
theorem spec_ConductorOf.calls (k : Nat) (A0_0 : Option Addr) (c0_0 : Nat) (l0_0 : List Int) (r : Int) (w : World) (hr0_0 : Kd.C (Kd.int .i64) w A0_0 l0_0.length l0_0) (hc0_0 : l0_0.length ≤ c0_0) (h : spec_ConductorOf.f k l0_0 = some r) :
 Calls Try.prog 29 #[.agg #[.slice A0_0 l0_0.length c0_0]] w fun e w' => e = .returned (.int .i64 r) ∧ Below w.heap.size w w' := by
 have hu26 := Try.underlying26
 have HR0_0 := Aside0.mk hr0_0
 have HC0_0 := Aside0.mk hc0_0
 clear hr0_0 hc0_0
 have HB := Aside0.mk (Below.refl w.heap.size w)
 have H := h
 clear h
 unfold spec_ConductorOf.f at H
 obtain ⟨t379, A2, H⟩ := ob_ H
 obtain rfl := Option.some.inj H
 go_enter Try.func29, Try.ntmps29
 go_wp2_with (first | ((with_reducible refine gate_dst (N := 1) rfl ?_); refine bx_ 1 #[.slice A0_0 l0_0.length c0_0] 26 ?_; intro gb378 hg w3 hbox hb; have BK378 := Aside0.mk (hbox); have GW378 := gw_ hg HB; have GE378 := gw_ hg HB; replace HB := bo_ HB hb; clear hb hbox hg; have hcz4_0 := cz_ BK378; have hfz4_0 := blk_frozen BK378.out 0) | ((with_reducible refine gate_callee (f := 61) rfl ?_); refine gL_ (some 4) Try.func61 #[.agg #[.slice A0_0 l0_0.length c0_0]] ?_; (with_reducible refine (spec_FrobeniusOf.calls k _ _ l0_0 t379 _ ?side1 ?side2 A2.out).mono ?_); (case side1 => exact ch_ HR0_0 HB); (case side2 => exact HC0_0.out); rintro e w5 ⟨rfl, hb⟩; refine ⟨_, rfl, ?_⟩; replace BK378 := bk_ BK378 hb; replace HB := bp_ HB hb; (try clear hb)))
 go_ret
 exact ⟨rf_, bq_ HB⟩
def spec_HasNumber.l0 : Nat → List Int → Int → Int → Option (Bool)
 | 0, _, _, _ => none
 | k + 1, x0, x1, x5 => if x5 < (x0.length : Int) then (if 0 ≤ x5 then (if (rd x0 x5) = x1 then (some true) else (spec_HasNumber.l0 k x0 x1 (wrap64 (x5 + 1)))) else (none)) else (some false)
def spec_HasNumber.f (k : Nat) (l0 : List Int) (a1 : Int) : Option (Bool) := spec_HasNumber.l0 k l0 a1 0
theorem spec_HasNumber.calls (k : Nat) (A0 : Option Addr) (c0 : Nat) (l0 : List Int) (a1 : Int) (r : Bool) (w : World) (hr0 : Kd.C (Kd.int .i64) w A0 l0.length l0) (hc0 : l0.length ≤ c0) (h : spec_HasNumber.f k l0 a1 = some r) :
 Calls Try.prog 30 #[.slice A0 l0.length c0, .int .i64 a1] w fun e w' => e = .returned (.bool r) ∧ Drawn0 w w' := by
 have HR0 := Aside0.mk hr0
 have HC0 := Aside0.mk hc0
 clear hr0 hc0
 have H := h
 clear h
 unfold spec_HasNumber.f at H
 have H' := Aside0.mk H
 clear H
 go_enter Try.func30, Try.ntmps30
 go_wp2
 go_loopg [5] k (fun kq v5 w' => ∃ (x5_1 : Int), v5 = .int .i64 x5_1 ∧ Aside0 (spec_HasNumber.l0 kq l0 a1 x5_1 = some r) ∧ Aside0 (kq ≤ k) ∧ Drawn0 w w')
 case atStart => exact ⟨(0), rs_, H', ⟨Nat.le_refl _⟩, by repeat (first | exact Drawn0.refl _ | apply Drawn0.step)⟩
 case round =>
  clear H'
  obtain ⟨x5_1, rfl, HA, HK1, ⟨m1, rfl⟩⟩ := hrel
  cases gk with
  | zero => exact absurd HA.out (by simp [spec_HasNumber.l0])
  | succ k1 =>
   have H := HA.out
   clear HA
   simp only [spec_HasNumber.l0] at H
   by_cases c3 : x5_1 < (l0.length : Int)
   rotate_left
   · rw [if_neg c3] at H
     have c3b0 : decide (x5_1 < (l0.length : Int)) = false := decide_eq_false c3
     clear c3
     obtain rfl := Option.some.inj H
     go_wp2
     go_ret
     exact ⟨by first | rfl | (simp; done) | (simp [*]; done), by repeat (first | exact Drawn0.refl _ | apply Drawn0.step)⟩
   rw [if_pos c3] at H
   have c3b0 : decide (x5_1 < (l0.length : Int)) = true := decide_eq_true c3
   clear c3
   obtain ⟨c4b0, H⟩ := ipd_ H
   by_cases c5 : (rd l0 x5_1) = a1
   · rw [if_pos c5] at H
     have c5b0 : ((rd l0 x5_1) == a1) = true := beq_iff_eq.mpr c5
     have c5b1 : ((rd l0 x5_1) != a1) = false := bne_eq_false_iff_eq.mpr c5
     clear c5
     obtain rfl := Option.some.inj H
     have p380 : 0 ≤ (x5_1 : Int) := od_
     have q380 : x5_1 < (l0.length : Int) := od_
     obtain ⟨ad380, e380, hx380_0⟩ := Kd.at_int HR0.out x5_1 p380 q380
     cases e380
     replace p380 := eq_true p380
     replace q380 := eq_true q380
     go_wp2
     go_ret
     exact ⟨by first | rfl | (simp; done) | (simp [*]; done), by repeat (first | exact Drawn0.refl _ | apply Drawn0.step)⟩
   rw [if_neg c5] at H
   have c5b0 : ((rd l0 x5_1) == a1) = false := beq_eq_false_iff_ne.mpr c5
   have c5b1 : ((rd l0 x5_1) != a1) = true := bne_iff_ne.mpr c5
   have H' := Aside0.mk H
   clear H
   have p380 : 0 ≤ (x5_1 : Int) := od_
   have q380 : x5_1 < (l0.length : Int) := od_
   obtain ⟨ad380, e380, hx380_0⟩ := Kd.at_int HR0.out x5_1 p380 q380
   cases e380
   replace p380 := eq_true p380
   replace q380 := eq_true q380
   go_wp2
   go_roundg k1
   case measure => have := HK1.out; omega
   case rel => exact ⟨(wrap64 (x5_1 + 1)), rs_, H', ⟨by have := HK1.out; omega⟩, by repeat (first | exact Drawn0.refl _ | apply Drawn0.step)⟩
def spec_l8Gaps.l0 : Nat → List Int → Int → Option (Bool)
 | 0, _, _ => none
 | k + 1, x0, x3 => if x3 < (x0.length : Int) then (if 0 ≤ x3 then ((spec_l1In.f (rd x0 x3) 1 199).bind fun t382 => (if t382 = true then (spec_l8Gaps.l0 k x0 (wrap64 (x3 + 1))) else (some false))) else (none)) else ((spec_IsAscending.f k x0).bind fun t383 => (some t383))
def spec_l8Gaps.f (k : Nat) (l0 : List Int) : Option (Bool) := spec_l8Gaps.l0 k l0 0
theorem spec_l8Gaps.calls (k : Nat) (A0 : Option Addr) (c0 : Nat) (l0 : List Int) (r : Bool) (w : World) (hr0 : Kd.C (Kd.int .i64) w A0 l0.length l0) (hc0 : l0.length ≤ c0) (h : spec_l8Gaps.f k l0 = some r) :
 Calls Try.prog 63 #[.slice A0 l0.length c0] w fun e w' => e = .returned (.bool r) ∧ Drawn0 w w' := by
 have HR0 := Aside0.mk hr0
 have HC0 := Aside0.mk hc0
 clear hr0 hc0
 have H := h
 clear h
 unfold spec_l8Gaps.f at H
 have H' := Aside0.mk H
 clear H
 go_enter Try.func63, Try.ntmps63
 go_wp2
 go_loopg [3] k (fun kq v3 w' => ∃ (x3_1 : Int), v3 = .int .i64 x3_1 ∧ Aside0 (spec_l8Gaps.l0 kq l0 x3_1 = some r) ∧ Aside0 (kq ≤ k) ∧ Drawn0 w w')
 case atStart => exact ⟨(0), rs_, H', ⟨Nat.le_refl _⟩, by repeat (first | exact Drawn0.refl _ | apply Drawn0.step)⟩
 case round =>
  clear H'
  obtain ⟨x3_1, rfl, HA, HK1, ⟨m1, rfl⟩⟩ := hrel
  cases gk with
  | zero => exact absurd HA.out (by simp [spec_l8Gaps.l0])
  | succ k1 =>
   have H := HA.out
   clear HA
   simp only [spec_l8Gaps.l0] at H
   by_cases c2 : x3_1 < (l0.length : Int)
   rotate_left
   · rw [if_neg c2] at H
     have c2b0 : decide (x3_1 < (l0.length : Int)) = false := decide_eq_false c2
     clear c2
     obtain ⟨t383, A6, H⟩ := ob_ H
     obtain rfl := Option.some.inj H
     go_wp2_with (first | ((with_reducible refine gate_callee (f := 56) rfl ?_); refine gL_ (some 17) Try.func56 #[.slice A0 l0.length c0] ?_; (with_reducible refine (spec_IsAscending.calls k1 _ _ l0 t383 _ ?side1 ?side2 A6.out).mono ?_); (case side1 => exact ce_ (HR0.out)); (case side2 => exact HC0.out); rintro e w' ⟨rfl, ⟨nd, rfl⟩⟩; refine ⟨_, rfl, ?_⟩))
     go_ret
     exact ⟨by first | rfl | (simp; done) | (simp [*]; done), by repeat (first | exact Drawn0.refl _ | apply Drawn0.step)⟩
   rw [if_pos c2] at H
   have c2b0 : decide (x3_1 < (l0.length : Int)) = true := decide_eq_true c2
   clear c2
   obtain ⟨c3b0, H⟩ := ipd_ H
   obtain ⟨t382, A4, H⟩ := ob_ H
   by_cases c5 : t382 = true
   rotate_left
   · replace c5 := Bool.eq_false_iff.mpr c5
     subst c5
     rw [if_neg (show ¬ (false = true) by decide)] at H
     obtain rfl := Option.some.inj H
     have p381 : 0 ≤ (x3_1 : Int) := od_
     have q381 : x3_1 < (l0.length : Int) := od_
     obtain ⟨ad381, e381, hx381_0⟩ := Kd.at_int HR0.out x3_1 p381 q381
     cases e381
     replace p381 := eq_true p381
     replace q381 := eq_true q381
     go_wp2_with (first | ((with_reducible refine gate_callee (f := 73) rfl ?_); refine gL_ (some 14) Try.func73 #[.int .i64 (rd l0 x3_1), .int .i64 1, .int .i64 199] ?_; (with_reducible refine (spec_l1In.calls (rd l0 x3_1) 1 199 false _ A4.out).mono ?_); rintro e w' ⟨rfl, ⟨nd, rfl⟩⟩; refine ⟨_, rfl, ?_⟩))
     go_ret
     exact ⟨by first | rfl | (simp; done) | (simp [*]; done), by repeat (first | exact Drawn0.refl _ | apply Drawn0.step)⟩
   subst c5
   rw [if_pos rfl] at H
   have H' := Aside0.mk H
   clear H
   have p381 : 0 ≤ (x3_1 : Int) := od_
   have q381 : x3_1 < (l0.length : Int) := od_
   obtain ⟨ad381, e381, hx381_0⟩ := Kd.at_int HR0.out x3_1 p381 q381
   cases e381
   replace p381 := eq_true p381
   replace q381 := eq_true q381
   go_wp2_with (first | ((with_reducible refine gate_callee (f := 73) rfl ?_); refine gL_ (some 14) Try.func73 #[.int .i64 (rd l0 x3_1), .int .i64 1, .int .i64 199] ?_; (with_reducible refine (spec_l1In.calls (rd l0 x3_1) 1 199 true _ A4.out).mono ?_); rintro e w' ⟨rfl, ⟨nd, rfl⟩⟩; refine ⟨_, rfl, ?_⟩))
   go_roundg k1
   case measure => have := HK1.out; omega
   case rel => exact ⟨(wrap64 (x3_1 + 1)), rs_, H', ⟨by have := HK1.out; omega⟩, by repeat (first | exact Drawn0.refl _ | apply Drawn0.step)⟩
mutual
def spec_GapClash.j0 : Nat → List Int → Bool → Option (Int × Int × Bool)
 | 0, _, _ => none
 | k + 1, x0, x16 => if x16 = true then (some (0, 0, false)) else (if 0 ≤ (wrap64 ((x0.length : Int) - 1)) then (if (wrap64 ((x0.length : Int) - 1)) < (x0.length : Int) then (if 0 ≤ (wrap64 ((wrap64 (2 * (rd x0 (wrap64 ((x0.length : Int) - 1))))) + 1)) then (if (wrap64 ((wrap64 (2 * (rd x0 (wrap64 ((x0.length : Int) - 1))))) + 1) : Int).toNat ≤ 281474976710656 then (spec_GapClash.l0 k x0 (rd x0 (wrap64 ((x0.length : Int) - 1))) (List.replicate (wrap64 ((wrap64 (2 * (rd x0 (wrap64 ((x0.length : Int) - 1))))) + 1) : Int).toNat false) 0) else (none)) else (none)) else (none)) else (none))
def spec_GapClash.l0 : Nat → List Int → Int → List Bool → Int → Option (Int × Int × Bool)
 | 0, _, _, _, _ => none
 | k + 1, x0, x4, x5, x6 => if x6 < (x0.length : Int) then (if 0 ≤ x6 then (if 0 ≤ (rd x0 x6) then (if (rd x0 x6) < (x5.length : Int) then (spec_GapClash.l0 k x0 x4 (x5.set ((rd x0 x6) : Int).toNat true) (wrap64 (x6 + 1))) else (none)) else (none)) else (none)) else (spec_GapClash.l1 k x4 x5 1)
def spec_GapClash.l1 : Nat → Int → List Bool → Int → Option (Int × Int × Bool)
 | 0, _, _, _ => none
 | k + 1, x4, x5, x7 => if x7 ≤ x4 then (spec_GapClash.l2 k x4 x5 x7 x7) else (some (0, 0, false))
def spec_GapClash.l2 : Nat → Int → List Bool → Int → Int → Option (Int × Int × Bool)
 | 0, _, _, _, _ => none
 | k + 1, x4, x5, x7, x8 => if (wrap64 (x7 + x8)) ≤ x4 then (if 0 ≤ x7 then (if x7 < (x5.length : Int) then (spec_GapClash.j4 k x4 x5 x7 x8 (!(rdOf false x5 x7))) else (none)) else (none)) else (spec_GapClash.j4 k x4 x5 x7 x8 false)
def spec_GapClash.j4 : Nat → Int → List Bool → Int → Int → Bool → Option (Int × Int × Bool)
 | 0, _, _, _, _, _ => none
 | k + 1, x4, x5, x7, x8, x57 => if x57 = true then (if 0 ≤ x8 then (if x8 < (x5.length : Int) then (if rdOf false x5 x8 = true then (spec_GapClash.l2 k x4 x5 x7 (wrap64 (x8 + 1))) else (if 0 ≤ (wrap64 (x7 + x8)) then (if (wrap64 (x7 + x8)) < (x5.length : Int) then (if rdOf false x5 (wrap64 (x7 + x8)) = true then (some (x7, x8, true)) else (spec_GapClash.l2 k x4 x5 x7 (wrap64 (x8 + 1)))) else (none)) else (none))) else (none)) else (none)) else (spec_GapClash.l1 k x4 x5 (wrap64 (x7 + 1)))
end
def spec_GapClash.f (k : Nat) (l0 : List Int) : Option (Int × Int × Bool) := (spec_l8Gaps.f k l0).bind fun t385 => (if t385 = true then (spec_GapClash.j0 k l0 ((l0.length : Int) == 0)) else (spec_GapClash.j0 k l0 true))
theorem spec_GapClash.calls (k : Nat) (A0 : Option Addr) (c0 : Nat) (l0 : List Int) (r1 : Int) (r2 : Int) (r3 : Bool) (w : World) (hr0 : Kd.C (Kd.int .i64) w A0 l0.length l0) (hc0 : l0.length ≤ c0) (h : spec_GapClash.f k l0 = some (r1, r2, r3)) :
 Calls Try.prog 62 #[.slice A0 l0.length c0] w fun e w' => e = .returned (.tuple #[.agg #[.int .i64 r1, .int .i64 r2], .bool r3]) ∧ Below w.heap.size w w' := by
 have hu61 := Try.underlying61
 have HR0 := Aside0.mk hr0
 have HC0 := Aside0.mk hc0
 clear hr0 hc0
 have HB := Aside0.mk (Below.refl w.heap.size w)
 have H := h
 clear h
 unfold spec_GapClash.f at H
 have HC2 := Aside0.mk H
 clear H
 go_enter Try.func62, Try.ntmps62
 go_upto_region 1 with (first | ((with_reducible refine gate_dst (N := 2) rfl ?_); (try (refine gate_guard (by rfl) ?_; dsimp only)); refine bx_ 2 #[.int .i64 0, .int .i64 0] 61 ?_; intro gb384 hg w3 hbox hb; have BK384 := Aside0.mk (hbox); have GW384 := gw_ hg HB; have GE384 := gw_ hg HB; replace HB := bo_ HB hb; clear hb hbox hg))
 (try simp only [Act.put, z1_, z2_, z3_])
 go_cut [16] (fun v16 wc => ∃ (kq : Nat) (x16_1 : Bool), v16 = .bool x16_1 ∧ Aside0 (spec_GapClash.j0 kq l0 x16_1 = some (r1, r2, r3)) ∧ Aside0 (kq ≤ k) ∧ Aside0 (wc.heap[gb384]? = some (.cells #[.int .i64 0, .int .i64 0] 61 (0, 0))) ∧ Aside0 (Below w.heap.size w wc))
 case first =>
  have H := HC2.out
  clear HC2
  obtain ⟨t385, A4, H⟩ := ob_ H
  by_cases c5 : t385 = true
  · subst c5
    rw [if_pos rfl] at H
    have H' := Aside0.mk H
    clear H
    go_wp2_with (first | ((with_reducible refine gate_callee (f := 63) rfl ?_); refine gL_ (some 10) Try.func63 #[.slice A0 l0.length c0] ?_; (with_reducible refine (spec_l8Gaps.calls k _ _ l0 true _ ?side1 ?side2 A4.out).mono ?_); (case side1 => exact ch_ HR0 HB); (case side2 => exact HC0.out); rintro e w' ⟨rfl, ⟨nd, rfl⟩⟩; refine ⟨_, rfl, ?_⟩))
    go_meet
    case rel => exact ⟨_, (((l0.length : Int) == 0)), rs_, H', ⟨by first | omega | exact Nat.le_refl _⟩, ⟨be_ BK384.out⟩, ⟨bq_ HB⟩⟩
  replace c5 := Bool.eq_false_iff.mpr c5
  subst c5
  rw [if_neg (show ¬ (false = true) by decide)] at H
  have H' := Aside0.mk H
  clear H
  go_wp2_with (first | ((with_reducible refine gate_callee (f := 63) rfl ?_); refine gL_ (some 10) Try.func63 #[.slice A0 l0.length c0] ?_; (with_reducible refine (spec_l8Gaps.calls k _ _ l0 false _ ?side1 ?side2 A4.out).mono ?_); (case side1 => exact ch_ HR0 HB); (case side2 => exact HC0.out); rintro e w' ⟨rfl, ⟨nd, rfl⟩⟩; refine ⟨_, rfl, ?_⟩))
  go_meet
  case rel => exact ⟨_, (true), rs_, H', ⟨by first | omega | exact Nat.le_refl _⟩, ⟨be_ BK384.out⟩, ⟨bq_ HB⟩⟩
 case rest =>
  clear HC2
  obtain ⟨kq, x16_1, rfl, HA, HJ1, BK384, HB⟩ := hcut
  cases kq with
  | zero => exact absurd HA.out (by simp [spec_GapClash.j0])
  | succ kj1 =>
   have H := HA.out
   clear HA
   simp only [spec_GapClash.j0] at H
   by_cases c6 : x16_1 = true
   · subst c6
     rw [if_pos rfl] at H
     simp only [Option.some.injEq, Prod.mk.injEq] at H
     obtain ⟨rfl, rfl, rfl⟩ := H
     have hcz7_0 : wc.cell? ⟨gb384, 0, none⟩ = some (.int .i64 0) := (blk_cell BK384.out 0).trans rfl
     have hcz7_1 : wc.cell? ⟨gb384, 1, none⟩ = some (.int .i64 0) := (blk_cell BK384.out 1).trans rfl
     have hfz7_0 := blk_frozen BK384.out 0
     have hfz7_1 := blk_frozen BK384.out 1
     go_wp2
     refine bodyPost_ret (results_ct rfl _ _ gb384 61 #[.int .i64 0, .int .i64 0] (0, 0) _ rfl (by (with_reducible repeat (first | refine blk_drewN ?_ _ | refine blk_drew ?_ | refine blk_alloc ?_ _)); refine blk_put (cs := #[.int .i64 0, .int .i64 0]) ?_ 1 _ rfl; (with_reducible repeat (first | refine blk_drewN ?_ _ | refine blk_drew ?_ | refine blk_alloc ?_ _)); refine blk_put (cs := #[.int .i64 0, .int .i64 0]) ?_ 0 _ rfl; (with_reducible repeat (first | refine blk_drewN ?_ _ | refine blk_drew ?_ | refine blk_alloc ?_ _)); exact BK384.out) Try.underlying61 rfl (by kernel_rfl)) rfl ?_
     exact ⟨rf_, bq_ HB⟩
   replace c6 := Bool.eq_false_iff.mpr c6
   subst c6
   rw [if_neg (show ¬ (false = true) by decide)] at H
   obtain ⟨ji8, hji8⟩ : ∃ j_ : Int, (wrap64 ((l0.length : Int) - 1)) = j_ := ⟨_, rfl⟩
   replace H : (if 0 ≤ (ji8) then (if (ji8) < (l0.length : Int) then (if 0 ≤ (wrap64 ((wrap64 (2 * (rd l0 (ji8)))) + 1)) then (if (wrap64 ((wrap64 (2 * (rd l0 (ji8)))) + 1) : Int).toNat ≤ 281474976710656 then (spec_GapClash.l0 kj1 l0 (rd l0 (ji8)) (List.replicate (wrap64 ((wrap64 (2 * (rd l0 (ji8)))) + 1) : Int).toNat false) 0) else (none)) else (none)) else (none)) else (none)) = some (r1, r2, r3) := by first | (rw [hji8] at H; exact H) | (simp only [hji8] at H ⊢; exact H)
   have hji8w : (IntKind.i64.wrap ((l0.length : Int) - 1)) = ji8 := (i64_w _).trans hji8
   obtain ⟨c9b0, H⟩ := ipd_ H
   obtain ⟨c10b0, H⟩ := ipd_ H
   obtain ⟨ji11, hji11⟩ : ∃ j_ : Int, (wrap64 ((wrap64 (2 * (rd l0 (ji8)))) + 1)) = j_ := ⟨_, rfl⟩
   replace H : (if 0 ≤ (ji11) then (if (ji11 : Int).toNat ≤ 281474976710656 then (spec_GapClash.l0 kj1 l0 (rd l0 (ji8)) (List.replicate (ji11 : Int).toNat false) 0) else (none)) else (none)) = some (r1, r2, r3) := by first | (rw [hji11] at H; exact H) | (simp only [hji11] at H ⊢; exact H)
   have hji11w : (IntKind.i64.wrap ((wrap64 (2 * (rd l0 (ji8)))) + 1)) = ji11 := (i64_w _).trans hji11
   obtain ⟨c12, H⟩ := ip_ H
   have c12b0 := eq_true c12
   have c12b1 : decide (0 ≤ (ji11)) = true := decide_eq_true c12
   clear c12
   obtain ⟨c13, H⟩ := ip_ H
   have c13b0 := eq_true c13
   have c13b1 : decide ((ji11 : Int).toNat ≤ 281474976710656) = true := decide_eq_true c13
   clear c13
   obtain ⟨y387, hy387⟩ : ∃ y_ : List Bool, y_ = (List.replicate (ji11 : Int).toNat false) := ⟨_, rfl⟩
   replace H : (spec_GapClash.l0 kj1 l0 (rd l0 (ji8)) y387 0) = some (r1, r2, r3) := by subst hy387; exact H
   have Ny387 := Aside0.mk hy387
   clear hy387
   have H' := Aside0.mk H
   clear H
   have p386 : 0 ≤ ((ji8) : Int) := od_
   have q386 : (ji8) < (l0.length : Int) := od_
   obtain ⟨ad386, e386, hx386_0⟩ := Kd.at_int HR0.out (ji8) p386 q386
   cases e386
   (try replace hx386_0 := (HB.out.cell (World.block_lt_of_cell? w _ hx386_0)).trans hx386_0)
   replace p386 := eq_true p386
   replace q386 := eq_true q386
   go_wp2_with (first | ((with_reducible refine gate_dst (N := 27) rfl ?_); (try (refine gate_guard (by rfl) ?_; dsimp only)); refine Kd.R_make Kd.bool _ 4 rfl (N := 27) rfl 42 _ _ rfl ji11 rfl rfl Try.underlying42 (.bool false) 1 info4 rfl (by decide) (by omega) false (ok := fun _ => True) (okp := fun _ => True) rfl (fun _ hk => hk) trivial (od_) (Nat.le_trans (Nat.mul_le_mul_right _ (od_ : ji11.toNat ≤ 281474976710656)) (by omega)) (Below.refl _ _) (Nat.le_refl _) ?_; intro v388 w14 ho15 hb hg_ hnew_; clear hg_ hnew_; (first | rw [← Ny387.out] at ho15 | (simp only [Int.reduceToNat] at ho15; rw [← Ny387.out] at ho15)); have HO389 := Aside0.mk (Kd.R_lower ho15 (below_size (bq_ HB))); replace BK384 := bk_ BK384 hb; replace HB := bp_ HB hb; clear hb ho15))
   go_loopg [6] kj1 (fun kq v6 w' => ∃ (x5_2 : List Bool) (x6_2 : Int), v6 = .int .i64 x6_2 ∧ Aside0 (spec_GapClash.l0 kq l0 (rd l0 (ji8)) x5_2 x6_2 = some (r1, r2, r3)) ∧ Aside0 (kq ≤ kj1) ∧ Aside0 (Kd.R Kd.bool 4 w' w.heap.size (fun _ => True) v388 x5_2) ∧ Aside0 (w'.heap[gb384]? = some (.cells #[.int .i64 0, .int .i64 0] 61 (0, 0))) ∧ Aside0 (Below w.heap.size w w'))
   case atStart => exact ⟨(y387), (0), rs_, H', ⟨Nat.le_refl _⟩, ⟨re_ HO389.out⟩, ⟨be_ BK384.out⟩, ⟨bq_ HB⟩⟩
   case round =>
    clear H'
    try clear c9b0
    try clear c10b0
    try clear c12b0
    try clear c12b1
    try clear c13b0
    try clear c13b1
    try clear hx386_0
    try clear p386
    try clear q386
    obtain ⟨x5_2, x6_2, rfl, HA, HK2, HO_5, BK384, HB⟩ := hrel
    cases gk with
    | zero => exact absurd HA.out (by simp [spec_GapClash.l0])
    | succ k2 =>
     have H := HA.out
     clear HA
     simp only [spec_GapClash.l0] at H
     by_cases c16 : x6_2 < (l0.length : Int)
     · rw [if_pos c16] at H
       have c16b0 : decide (x6_2 < (l0.length : Int)) = true := decide_eq_true c16
       clear c16
       obtain ⟨c17b0, H⟩ := ipd_ H
       obtain ⟨c18b0, H⟩ := ipd_ H
       obtain ⟨c19b0, H⟩ := ipd_ H
       obtain ⟨y391, hy391⟩ : ∃ y_ : List Bool, y_ = (x5_2.set ((rd l0 x6_2) : Int).toNat true) := ⟨_, rfl⟩
       replace H : (spec_GapClash.l0 k2 l0 (rd l0 (ji8)) y391 (wrap64 (x6_2 + 1))) = some (r1, r2, r3) := by subst hy391; exact H
       have Ny391 := Aside0.mk hy391
       clear hy391
       have H' := Aside0.mk H
       clear H
       have p390 : 0 ≤ (x6_2 : Int) := od_
       have q390 : x6_2 < (l0.length : Int) := od_
       obtain ⟨ad390, e390, hx390_0⟩ := Kd.at_int HR0.out x6_2 p390 q390
       obtain rfl : ad386 = ad390 := (by injection e390)
       (try replace hx390_0 := (HB.out.cell (World.block_lt_of_cell? w _ hx390_0)).trans hx390_0)
       replace p390 := eq_true p390
       replace q390 := eq_true q390
       have p20 : 0 ≤ ((rd l0 x6_2) : Int) := od_
       have q20 : ((rd l0 x6_2) : Int) < ((x5_2.length : Int) : Int) := od_
       obtain ⟨go20, co20, eo20, gb20, gl20, cl20, HG20⟩ := Kd.R_form HO_5.out (by omega)
       (first | cases eo20 | (injection eo20 with ea_ en_ ec_; (first | subst ea_ | (injection ea_ with ea_; subst ea_)); subst ec_; clear en_))
       have GB20 := Aside0.mk gb20
       have GG20 := Aside0.mk HG20
       clear gb20 gl20 HG20
       obtain ⟨hx20_0, hf20_0⟩ := Kd.R_celln false HO_5.out ((rd l0 x6_2) : Int) p20 q20
       replace p20 := eq_true p20
       replace q20 := eq_true q20
       have HP21 := Kd.R_putg HO_5.out ((rd l0 x6_2) : Int) true
       go_wp2_with (first | ((with_reducible refine gate_store (t := 4) (p := 39) rfl ?_); refine store_event (t := 4) (p := 39) (v := ?vo_w22) (w1 := (wr.setCell ⟨go20, ((rd l0 x6_2) : Int).toNat, none⟩ (.bool true))) ?hg ?ho ?hn ?hr ?_; (case ho => rfl); (case hg => rfl); (case hn => rfl); (case hr => first | (go_simp; done) | (go_simp; rfl)); intro w22 hw; have hg : wr.grownBy w22 (some go20) := (by rw [hw]; exact HP21.2); have hp_ : Kd.R Kd.bool 4 w22 w.heap.size (fun _ => True) (.slice (some ⟨go20, 0, none⟩) x5_2.length co20) y391 := (by rw [hw, Ny391.out]; exact HP21.1); clear HP21; replace BK384 := Aside0.mk (blk_grown (be_ BK384.out) hg (Kd.R_ne HO_5.out BK384.out (by decide))); replace HO_5 := Aside0.mk (hp_); replace HB := Aside0.mk ((by rw [hw]; exact below_set (HB.out) GB20.out : Below w.heap.size w w22)); clear hg hw hp_))
       go_roundg k2
       case measure => have := HJ1.out; have := HK2.out; omega
       case rel => exact ⟨(y391), (wrap64 (x6_2 + 1)), rs_, H', ⟨by have := HJ1.out; have := HK2.out; omega⟩, ⟨re_ HO_5.out⟩, ⟨be_ BK384.out⟩, ⟨bq_ HB⟩⟩
     rw [if_neg c16] at H
     have c16b0 : decide (x6_2 < (l0.length : Int)) = false := decide_eq_false c16
     clear c16
     have H' := Aside0.mk H
     clear H
     go_wp2
     go_loopg [7] k2 (fun kq v7 w' => ∃ (x7_3 : Int) (x385000_3 : Int) (x385001_3 : Int), v7 = .int .i64 x7_3 ∧ Aside0 (spec_GapClash.l1 kq (rd l0 (ji8)) x5_2 x7_3 = some (r1, r2, r3)) ∧ Aside0 (kq ≤ k2) ∧ Aside0 (Kd.R Kd.bool 4 w' w.heap.size (fun _ => True) v388 x5_2) ∧ Aside0 (w'.heap[gb384]? = some (.cells #[.int .i64 x385000_3, .int .i64 x385001_3] 61 (0, 0))) ∧ Aside0 (Below w.heap.size w w'))
     case atStart => exact ⟨(1), (0), (0), rs_, H', ⟨Nat.le_refl _⟩, ⟨re_ HO_5.out⟩, ⟨be_ BK384.out⟩, ⟨bq_ HB⟩⟩
     case round =>
      clear H'
      try clear c16b0
      obtain ⟨x7_3, x385000_3, x385001_3, rfl, HA, HK3, HO_5, BK384, HB⟩ := hrel
      cases gk with
      | zero => exact absurd HA.out (by simp [spec_GapClash.l1])
      | succ k3 =>
       have H := HA.out
       clear HA
       simp only [spec_GapClash.l1] at H
       by_cases c23 : x7_3 ≤ (rd l0 (ji8))
       rotate_left
       · rw [if_neg c23] at H
         have c23b0 : decide (x7_3 ≤ (rd l0 (ji8))) = false := decide_eq_false c23
         clear c23
         simp only [Option.some.injEq, Prod.mk.injEq] at H
         obtain ⟨rfl, rfl, rfl⟩ := H
         have hcz43_0 : wr.cell? ⟨gb384, 0, none⟩ = some (.int .i64 x385000_3) := (blk_cell BK384.out 0).trans rfl
         have hcz43_1 : wr.cell? ⟨gb384, 1, none⟩ = some (.int .i64 x385001_3) := (blk_cell BK384.out 1).trans rfl
         have hfz43_0 := blk_frozen BK384.out 0
         have hfz43_1 := blk_frozen BK384.out 1
         go_wp2
         refine bodyPost_ret (results_ct rfl _ _ gb384 61 #[.int .i64 0, .int .i64 0] (0, 0) _ rfl (by (with_reducible repeat (first | refine blk_drewN ?_ _ | refine blk_drew ?_ | refine blk_alloc ?_ _)); refine blk_put (cs := #[.int .i64 0, .int .i64 x385001_3]) ?_ 1 _ rfl; (with_reducible repeat (first | refine blk_drewN ?_ _ | refine blk_drew ?_ | refine blk_alloc ?_ _)); refine blk_put (cs := #[.int .i64 x385000_3, .int .i64 x385001_3]) ?_ 0 _ rfl; (with_reducible repeat (first | refine blk_drewN ?_ _ | refine blk_drew ?_ | refine blk_alloc ?_ _)); exact BK384.out) Try.underlying61 rfl (by kernel_rfl)) rfl ?_
         exact ⟨by first | rfl | (simp [errW_none, errW_some] <;> rfl) | (simp only [← hji8, ← hji11]; first | rfl | (simp [errW_none, errW_some] <;> rfl)) | (simp [*, errW_none, errW_some] <;> rfl), bq_ HB⟩
       rw [if_pos c23] at H
       have c23b0 : decide (x7_3 ≤ (rd l0 (ji8))) = true := decide_eq_true c23
       clear c23
       have H' := Aside0.mk H
       clear H
       go_wp2
       go_loopg [8] k3 (fun kq v8 w' => ∃ (x8_4 : Int) (x385000_4 : Int) (x385001_4 : Int), v8 = .int .i64 x8_4 ∧ Aside0 (spec_GapClash.l2 kq (rd l0 (ji8)) x5_2 x7_3 x8_4 = some (r1, r2, r3)) ∧ Aside0 (kq ≤ k3) ∧ Aside0 (Kd.R Kd.bool 4 w' w.heap.size (fun _ => True) v388 x5_2) ∧ Aside0 (w'.heap[gb384]? = some (.cells #[.int .i64 x385000_4, .int .i64 x385001_4] 61 (0, 0))) ∧ Aside0 (Below w.heap.size w w'))
       case atStart => exact ⟨(x7_3), (x385000_3), (x385001_3), rs_, H', ⟨Nat.le_refl _⟩, ⟨re_ HO_5.out⟩, ⟨be_ BK384.out⟩, ⟨bq_ HB⟩⟩
       case round =>
        clear H'
        try clear c23b0
        obtain ⟨x8_4, x385000_4, x385001_4, rfl, HA, HK4, HO_5, BK384, HB⟩ := hrel
        cases gk with
        | zero => exact absurd HA.out (by simp [spec_GapClash.l2])
        | succ k4 =>
         have H := HA.out
         clear HA
         simp only [spec_GapClash.l2] at H
         have HC24 := Aside0.mk H
         clear H
         go_upto_region 13 with (fail)
         go_cut [57] (fun v57 wc => ∃ (kq : Nat) (x57_23 : Bool), v57 = .bool x57_23 ∧ Aside0 (spec_GapClash.j4 kq (rd l0 (ji8)) x5_2 x7_3 x8_4 x57_23 = some (r1, r2, r3)) ∧ Aside0 (kq ≤ k4) ∧ Aside0 (Kd.R Kd.bool 4 wc w.heap.size (fun _ => True) v388 x5_2) ∧ Aside0 (wc.heap[gb384]? = some (.cells #[.int .i64 x385000_4, .int .i64 x385001_4] 61 (0, 0))) ∧ Aside0 (Below w.heap.size w wc))
         case first =>
          have H := HC24.out
          clear HC24
          by_cases c25 : (wrap64 (x7_3 + x8_4)) ≤ (rd l0 (ji8))
          rotate_left
          · rw [if_neg c25] at H
            have c25b0 : decide ((wrap64 (x7_3 + x8_4)) ≤ (rd l0 (ji8))) = false := decide_eq_false c25
            clear c25
            (first | rw [c25b0] | (simp only [i64_w, i32_w]; rw [c25b0]) | skip)
            have H' := Aside0.mk H
            clear H
            go_wp2
            go_meet
            case rel => exact ⟨_, (false), rs_, H', ⟨by have := HJ1.out; have := HK2.out; have := HK3.out; have := HK4.out; first | omega | exact Nat.le_refl _⟩, ⟨re_ HO_5.out⟩, ⟨be_ BK384.out⟩, ⟨bq_ HB⟩⟩
          rw [if_pos c25] at H
          have c25b0 : decide ((wrap64 (x7_3 + x8_4)) ≤ (rd l0 (ji8))) = true := decide_eq_true c25
          clear c25
          (first | rw [c25b0] | (simp only [i64_w, i32_w]; rw [c25b0]) | skip)
          obtain ⟨c26b0, H⟩ := ipd_ H
          obtain ⟨c27b0, H⟩ := ipd_ H
          have H' := Aside0.mk H
          clear H
          obtain ⟨Ao28, co28, eo28⟩ := Kd.R_slice HO_5.out
          subst eo28
          have p392 : 0 ≤ (x7_3 : Int) := od_
          have q392 : x7_3 < (x5_2.length : Int) := od_
          obtain ⟨ad392, e392, hx392_0⟩ := Kd.at_bool (Kd.R_reads' HO_5.out).2.2 x7_3 p392 q392
          cases e392
          replace p392 := eq_true p392
          replace q392 := eq_true q392
          go_wp2
          go_meet
          case rel => exact ⟨_, (!(rdOf false x5_2 x7_3)), rs_, H', ⟨by have := HJ1.out; have := HK2.out; have := HK3.out; have := HK4.out; first | omega | exact Nat.le_refl _⟩, ⟨re_ HO_5.out⟩, ⟨be_ BK384.out⟩, ⟨bq_ HB⟩⟩
         case rest =>
          clear HC24
          obtain ⟨kq, x57_23, rfl, HA, HJ23, HO_5, BK384, HB⟩ := hcut
          cases kq with
          | zero => exact absurd HA.out (by simp [spec_GapClash.j4])
          | succ kj23 =>
           have H := HA.out
           clear HA
           simp only [spec_GapClash.j4] at H
           by_cases c29 : x57_23 = true
           rotate_left
           · replace c29 := Bool.eq_false_iff.mpr c29
             subst c29
             rw [if_neg (show ¬ (false = true) by decide)] at H
             have H' := Aside0.mk H
             clear H
             go_wp2
             go_roundg kj23
             case measure => have := HJ1.out; have := HK2.out; have := HK3.out; have := HK4.out; have := HJ23.out; omega
             case rel => exact ⟨(wrap64 (x7_3 + 1)), (x385000_4), (x385001_4), rs_, H', ⟨by have := HJ1.out; have := HK2.out; have := HK3.out; have := HK4.out; have := HJ23.out; omega⟩, ⟨re_ HO_5.out⟩, ⟨be_ BK384.out⟩, ⟨bq_ HB⟩⟩
           subst c29
           rw [if_pos rfl] at H
           obtain ⟨c30b0, H⟩ := ipd_ H
           obtain ⟨c31b0, H⟩ := ipd_ H
           obtain ⟨bq32, hbq32⟩ : ∃ b_ : Bool, b_ = (rdOf false x5_2 x8_4) := ⟨_, rfl⟩
           replace H : (if bq32 = true then (spec_GapClash.l2 kj23 (rd l0 (ji8)) x5_2 x7_3 (wrap64 (x8_4 + 1))) else (if 0 ≤ (wrap64 (x7_3 + x8_4)) then (if (wrap64 (x7_3 + x8_4)) < (x5_2.length : Int) then (if rdOf false x5_2 (wrap64 (x7_3 + x8_4)) = true then (some (x7_3, x8_4, true)) else (spec_GapClash.l2 kj23 (rd l0 (ji8)) x5_2 x7_3 (wrap64 (x8_4 + 1)))) else (none)) else (none))) = some (r1, r2, r3) := by rw [← hbq32] at H; exact H
           have Nbq32 := Aside0.mk hbq32
           clear hbq32
           by_cases c33 : bq32 = true
           · subst c33
             rw [if_pos rfl] at H
             have H' := Aside0.mk H
             clear H
             obtain ⟨Ao34, co34, eo34⟩ := Kd.R_slice HO_5.out
             subst eo34
             have p393 : 0 ≤ (x8_4 : Int) := od_
             have q393 : x8_4 < (x5_2.length : Int) := od_
             obtain ⟨ad393, e393, hx393_0⟩ := Kd.at_bool (Kd.R_reads' HO_5.out).2.2 x8_4 p393 q393
             (try rw [← Nbq32.out] at hx393_0)
             cases e393
             replace p393 := eq_true p393
             replace q393 := eq_true q393
             go_wp2
             go_roundg kj23
             case measure => have := HJ1.out; have := HK2.out; have := HK3.out; have := HK4.out; have := HJ23.out; omega
             case rel => exact ⟨(wrap64 (x8_4 + 1)), (x385000_4), (x385001_4), rs_, H', ⟨by have := HJ1.out; have := HK2.out; have := HK3.out; have := HK4.out; have := HJ23.out; omega⟩, ⟨re_ HO_5.out⟩, ⟨be_ BK384.out⟩, ⟨bq_ HB⟩⟩
           replace c33 := Bool.eq_false_iff.mpr c33
           subst c33
           rw [if_neg (show ¬ (false = true) by decide)] at H
           obtain ⟨ji35, hji35⟩ : ∃ j_ : Int, (wrap64 (x7_3 + x8_4)) = j_ := ⟨_, rfl⟩
           replace H : (if 0 ≤ (ji35) then (if (ji35) < (x5_2.length : Int) then (if rdOf false x5_2 (ji35) = true then (some (x7_3, x8_4, true)) else (spec_GapClash.l2 kj23 (rd l0 (ji8)) x5_2 x7_3 (wrap64 (x8_4 + 1)))) else (none)) else (none)) = some (r1, r2, r3) := by first | (rw [hji35] at H; exact H) | (simp only [hji35] at H ⊢; exact H)
           have hji35w : (IntKind.i64.wrap (x7_3 + x8_4)) = ji35 := (i64_w _).trans hji35
           obtain ⟨c36b0, H⟩ := ipd_ H
           obtain ⟨c37b0, H⟩ := ipd_ H
           obtain ⟨bq38, hbq38⟩ : ∃ b_ : Bool, b_ = (rdOf false x5_2 (ji35)) := ⟨_, rfl⟩
           replace H : (if bq38 = true then (some (x7_3, x8_4, true)) else (spec_GapClash.l2 kj23 (rd l0 (ji8)) x5_2 x7_3 (wrap64 (x8_4 + 1)))) = some (r1, r2, r3) := by rw [← hbq38] at H; exact H
           have Nbq38 := Aside0.mk hbq38
           clear hbq38
           by_cases c39 : bq38 = true
           rotate_left
           · replace c39 := Bool.eq_false_iff.mpr c39
             subst c39
             rw [if_neg (show ¬ (false = true) by decide)] at H
             have H' := Aside0.mk H
             clear H
             obtain ⟨Ao42, co42, eo42⟩ := Kd.R_slice HO_5.out
             subst eo42
             have p393 : 0 ≤ (x8_4 : Int) := od_
             have q393 : x8_4 < (x5_2.length : Int) := od_
             obtain ⟨ad393, e393, hx393_0⟩ := Kd.at_bool (Kd.R_reads' HO_5.out).2.2 x8_4 p393 q393
             (try rw [← Nbq32.out] at hx393_0)
             (try rw [← Nbq38.out] at hx393_0)
             cases e393
             replace p393 := eq_true p393
             replace q393 := eq_true q393
             have p394 : 0 ≤ ((ji35) : Int) := od_
             have q394 : (ji35) < (x5_2.length : Int) := od_
             obtain ⟨ad394, e394, hx394_0⟩ := Kd.at_bool (Kd.R_reads' HO_5.out).2.2 (ji35) p394 q394
             (try rw [← Nbq32.out] at hx394_0)
             (try rw [← Nbq38.out] at hx394_0)
             obtain rfl : ad393 = ad394 := (by injection e394)
             replace p394 := eq_true p394
             replace q394 := eq_true q394
             go_wp2
             go_roundg kj23
             case measure => have := HJ1.out; have := HK2.out; have := HK3.out; have := HK4.out; have := HJ23.out; omega
             case rel => exact ⟨(wrap64 (x8_4 + 1)), (x385000_4), (x385001_4), rs_, H', ⟨by have := HJ1.out; have := HK2.out; have := HK3.out; have := HK4.out; have := HJ23.out; omega⟩, ⟨re_ HO_5.out⟩, ⟨be_ BK384.out⟩, ⟨bq_ HB⟩⟩
           subst c39
           rw [if_pos rfl] at H
           simp only [Option.some.injEq, Prod.mk.injEq] at H
           obtain ⟨rfl, rfl, rfl⟩ := H
           obtain ⟨Ao40, co40, eo40⟩ := Kd.R_slice HO_5.out
           subst eo40
           have p393 : 0 ≤ (x8_4 : Int) := od_
           have q393 : x8_4 < (x5_2.length : Int) := od_
           obtain ⟨ad393, e393, hx393_0⟩ := Kd.at_bool (Kd.R_reads' HO_5.out).2.2 x8_4 p393 q393
           (try rw [← Nbq32.out] at hx393_0)
           (try rw [← Nbq38.out] at hx393_0)
           cases e393
           replace p393 := eq_true p393
           replace q393 := eq_true q393
           have p394 : 0 ≤ ((ji35) : Int) := od_
           have q394 : (ji35) < (x5_2.length : Int) := od_
           obtain ⟨ad394, e394, hx394_0⟩ := Kd.at_bool (Kd.R_reads' HO_5.out).2.2 (ji35) p394 q394
           (try rw [← Nbq32.out] at hx394_0)
           (try rw [← Nbq38.out] at hx394_0)
           obtain rfl : ad393 = ad394 := (by injection e394)
           replace p394 := eq_true p394
           replace q394 := eq_true q394
           have hcz41_0 : wc.cell? ⟨gb384, 0, none⟩ = some (.int .i64 x385000_4) := (blk_cell BK384.out 0).trans rfl
           have hcz41_1 : wc.cell? ⟨gb384, 1, none⟩ = some (.int .i64 x385001_4) := (blk_cell BK384.out 1).trans rfl
           have hfz41_0 := blk_frozen BK384.out 0
           have hfz41_1 := blk_frozen BK384.out 1
           go_wp2
           refine bodyPost_ret (results_ct rfl _ _ gb384 61 #[.int .i64 x7_3, .int .i64 x8_4] (0, 0) _ rfl (by (with_reducible repeat (first | refine blk_drewN ?_ _ | refine blk_drew ?_ | refine blk_alloc ?_ _)); refine blk_put (cs := #[.int .i64 x7_3, .int .i64 x385001_4]) ?_ 1 _ rfl; (with_reducible repeat (first | refine blk_drewN ?_ _ | refine blk_drew ?_ | refine blk_alloc ?_ _)); refine blk_put (cs := #[.int .i64 x385000_4, .int .i64 x385001_4]) ?_ 0 _ rfl; (with_reducible repeat (first | refine blk_drewN ?_ _ | refine blk_drew ?_ | refine blk_alloc ?_ _)); exact BK384.out) Try.underlying61 rfl (by kernel_rfl)) rfl ?_
           exact ⟨by first | rfl | (simp [errW_none, errW_some] <;> rfl) | (simp only [← hji8, ← hji11, ← hji35]; first | rfl | (simp [errW_none, errW_some] <;> rfl)) | (simp [*, errW_none, errW_some] <;> rfl), bq_ HB⟩
end Go.Proofs.Ytppkokbhgkeknaa.PA
end
