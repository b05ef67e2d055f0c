-- Bundled by shake.py from this session's printed and written texts; Lean checks it.
import Derived.Test.YtjjajcldmkmgkaaZFnGluedx1
import Derived.Test.YtjjajcldmkmgkaaZFnGluedx4
import Derived.Test.YtjjajcldmkmgkaaZFnGluedx5
section
namespace Go.Proofs.Ytjjajcldmkmgkaa.PA
open Go.RowKit Go.Proofs.YtjjajcldmkmgkaaW.PrintWords Go.Proofs.YtjjajcldmkmgkaaW.PrintLast Go.Proofs.YtjjajcldmkmgkaaW.PrintMore
attribute [local go_sem] max2_int min2_int max_two min_two max_three min_three max_four min_four
set_option linter.unusedVariables false
set_option linter.unusedSimpArgs false
set_option maxHeartbeats 8000000
set_option maxRecDepth 100000
def spec_l3Bent.f (k : Nat) (s0_0 : List Int) (s0_1 : Int) (s0_2 : Int) : Option (List Int × Int × Int) := (spec_l3Draw.f k s0_0 s0_1 s0_2).bind fun bt385 => ((spec_l1Below.f s0_0 bt385.2.1 bt385.2.2 12).bind fun bt391 => (if bt391.1 = 0 then ((spec_l1PickInt.f s0_0 bt391.2.1 bt391.2.2 (([0, 61, 12, (-3), 60] : List Int))).bind fun bt397 => (if bt385.1.length < 17592186044416 then (some ((bt385.1 ++ [bt397.1]), bt397.2.1, bt397.2.2)) else (none))) else (if bt391.1 = 1 then (if 1 ≤ (bt385.1.length : Int) then (some ((bt385.1.drop (1 : Int).toNat), bt391.2.1, bt391.2.2)) else (none)) else (if bt391.1 = 2 then ((spec_l1PickInt.f s0_0 bt391.2.1 bt391.2.2 (([0, 59, 4] : List Int))).bind fun bt409 => (some ((([bt409.1, 60] : List Int)), bt409.2.1, bt409.2.2))) else (some (bt385.1, bt391.2.1, bt391.2.2))))))
def spec_l3Bent.T4 : Bool × List (List Nat × List Nat) := (true, [([], []), ([0], [0]), ([], []), ([], []), ([2, 3], [2, 3]), ([4], [4]), ([1, 5, 4], [1, 5]), ([0, 1, 2, 3, 4, 5, 6], []), ([7, 6, 6, 0, 1, 2, 3, 4, 5, 6], [6, 7])])
def spec_l3Bent.B4 : List Nat := [0, 1, 0, 0, 12, 28, 63, 127, 255]
theorem spec_l3Bent.tab4 : rtab .any (opsOf Try.f52 4) = spec_l3Bent.T4 := by kernel_rfl
theorem spec_l3Bent.bits4 : waitsOk spec_l3Bent.T4.2 spec_l3Bent.B4 = true := by kernel_rfl
theorem spec_l3Bent.calls (k : Nat) (g : Nat) (s0_0 : List Int) (s0_1 : Int) (s0_2 : Int) (r1 : List Int) (r2 : Int) (r3 : Int) (w0 w : World) (hI : IsS64 w0 w g s0_0 s0_1 s0_2) (hB : Below w0.heap.size w0 w) (h : spec_l3Bent.f k s0_0 s0_1 s0_2 = some (r1, r2, r3)) :
 Calls Try.prog 52 #[.pointer (some ⟨g, 0, none⟩)] w fun e w' => ∃ v0_ : Value, e = .returned (.agg #[v0_]) ∧ Kd.Q (Kd.int .i64) 3 w' w.heap.size (fun _ => True) v0_ r1 ∧ IsS64 w0 w' g s0_0 r2 r3 ∧ Below w0.heap.size w0 w' ∧ KeepBut w w' g none := by
 have hu26 := Try.underlying26
 have HI0 := Aside0.mk hI
 have HK := Aside0.mk (KeepBut.refl w g none)
 have HL := Aside0.mk hB.size
 clear hI
 have HW0 := Aside0.mk hB.size
 have HB := Aside0.mk hB
 clear hB
 have H := h
 clear h
 unfold spec_l3Bent.f at H
 obtain ⟨⟨t385, t388, t389⟩, A2, H⟩ := ob_ H
 (try dsimp only at H)
 obtain ⟨⟨t391, t392, t393⟩, A3, H⟩ := ob_ H
 (try dsimp only at H)
 by_cases c4 : t391 = 0
 rotate_left
 · rw [if_neg c4] at H
   have c4b0 : (t391 == 0) = false := beq_eq_false_iff_ne.mpr c4
   have c4b1 : (t391 != 0) = true := bne_iff_ne.mpr c4
   by_cases c26 : t391 = 1
   · rw [if_pos c26] at H
     have c26b0 : (t391 == 1) = true := beq_iff_eq.mpr c26
     have c26b1 : (t391 != 1) = false := bne_eq_false_iff_eq.mpr c26
     clear c26
     by_cases c27 : 1 ≤ (t385.length : Int)
     rotate_left
     · rw [if_neg c27] at H
       cases H
     rw [if_pos c27] at H
     have c27b0 := eq_true c27
     have c27b1 : decide (1 ≤ (t385.length : Int)) = true := decide_eq_true c27
     clear c27
     obtain ⟨y403, hy403⟩ : ∃ y_ : List Int, y_ = (t385.drop (1 : Int).toNat) := ⟨_, rfl⟩
     replace H : (some (y403, t392, t393)) = some (r1, r2, r3) := by subst hy403; exact H
     have Ny403 := Aside0.mk hy403
     clear hy403
     simp only [Option.some.injEq, Prod.mk.injEq] at H
     obtain ⟨rfl, rfl, rfl⟩ := H
     go_enter Try.func52, Try.ntmps52
     go_wp2_with (first | ((with_reducible refine gate_dst (N := 2) rfl ?_); refine bx_ 2 #[.slice none 0 0] 26 ?_; intro gb384 hg w28 hbox hb; replace HB := Aside0.mk (below_step (bi_ HB (IsS64.ge HI0.out)) hb); have BK384 := Aside0.mk (hbox); have GW384 := Aside0.mk ((by rw [hg]; exact (keep_size (w := w) (g := g) (row := none) (kq_ HK)) : w.heap.size ≤ gb384)); have GE384 := Aside0.mk ((Nat.le_trans HW0.out (by rw [hg]; exact (keep_size (w := w) (g := g) (row := none) (kq_ HK)) : w.heap.size ≤ gb384) : w0.heap.size ≤ gb384)); replace HK := Aside0.mk (KeepBut.trans (kq_ HK) (KeepBut.of_below hb g none) (.inl rfl)); have NB0_384 := Aside0.mk ((by rw [hg]; exact Nat.ne_of_lt (IsS64.lt (show IsS64 w0 _ g s0_0 s0_1 s0_2 from IsS64.q_ HI0)) : g ≠ gb384)); have NB384_0 := Aside0.mk ((by rw [hg]; exact Nat.ne_of_gt (IsS64.lt (show IsS64 w0 _ g s0_0 s0_1 s0_2 from IsS64.q_ HI0)) : gb384 ≠ g)); replace HI0 := Aside0.mk (IsS64.below (IsS64.q_ HI0) hb); clear hb hbox hg) | ((with_reducible refine gate_callee (f := 63) rfl ?_); refine gL_ (some 5) Try.func63 #[.pointer (some ⟨g, 0, none⟩)] ?_; (with_reducible refine (spec_l3Draw.calls k g s0_0 s0_1 s0_2 t385 t388 t389 w0 _ ?side1 ?side2 A2.out).mono ?_); (case side1 => exact IsS64.q_ HI0); (case side2 => exact bi_ HB (IsS64.ge HI0.out)); rintro e w29 ⟨v386, rfl, ho0, hi, hb, hk⟩; refine ⟨_, rfl, ?_⟩; replace BK384 := Aside0.mk (KeepBut.blk hk (g' := gb384) (o := .cells #[.slice none 0 0] 26 (0, 0)) (be_ BK384.out) NB384_0.out (by simp)); have HO387 := Aside0.mk (Kd.R_lower ho0 (keep_size (w := w) (g := g) (row := none) (kq_ HK))); replace HK := Aside0.mk (KeepBut.trans (kq_ HK) hk (.inl rfl)); replace HB := Aside0.mk (hb); replace HI0 := Aside0.mk (hi); (try clear hb); (try clear hk); (try clear hi); (try clear ho0)) | ((with_reducible refine gate_dst (N := 3) rfl ?_); refine bx_ 3 #[.slice none 0 0] 26 ?_; intro gb390 hg w30 hbox hb; replace HO387 := Aside0.mk (Kd.R_below (re_ HO387.out) hb); replace HB := Aside0.mk (below_step (bi_ HB (IsS64.ge HI0.out)) hb); have BK390 := Aside0.mk (hbox); have GW390 := Aside0.mk ((by rw [hg]; exact (keep_size (w := w) (g := g) (row := none) (kq_ HK)) : w.heap.size ≤ gb390)); have GE390 := Aside0.mk ((Nat.le_trans HW0.out (by rw [hg]; exact (keep_size (w := w) (g := g) (row := none) (kq_ HK)) : w.heap.size ≤ gb390) : w0.heap.size ≤ gb390)); replace HK := Aside0.mk (KeepBut.trans (kq_ HK) (KeepBut.of_below hb g none) (.inl rfl)); have NB384_390 := nl_ hg BK384; have NB390_384 := ng_ hg BK384; replace BK384 := bk_ BK384 hb; have NB0_390 := Aside0.mk ((by rw [hg]; exact Nat.ne_of_lt (IsS64.lt (show IsS64 w0 _ g s0_0 t388 t389 from IsS64.q_ HI0)) : g ≠ gb390)); have NB390_0 := Aside0.mk ((by rw [hg]; exact Nat.ne_of_gt (IsS64.lt (show IsS64 w0 _ g s0_0 t388 t389 from IsS64.q_ HI0)) : gb390 ≠ g)); replace HI0 := Aside0.mk (IsS64.below (IsS64.q_ HI0) hb); clear hb hbox hg; obtain ⟨Ao31, co31, eo31⟩ := Kd.R_slice HO387.out; subst eo31; have hnb32 := NB390_384.out; have hnc32 := NB384_390.out; have hnb33 := NB390_0.out; have hnc33 := NB0_390.out; have hcz34_0 := cz_ BK390; have hfz34_0 := blk_frozen BK390.out 0) | ((with_reducible refine gate_callee (f := 49) rfl ?_); refine gL_ (some 7) Try.func49 #[.pointer (some ⟨g, 0, none⟩), .int .i64 12] ?_; (with_reducible refine (spec_l1Below.calls g s0_0 t388 t389 12 t391 t392 t393 w0 _ ?side1 ?side2 A3.out).mono ?_); (case side1 => exact IsS64.q_ HI0); (case side2 => exact bi_ HB (IsS64.ge HI0.out)); rintro e w35 ⟨rfl, hi, hb, hk⟩; refine ⟨_, rfl, ?_⟩; replace BK384 := Aside0.mk (KeepBut.blk hk (g' := gb384) (o := .cells #[.slice none 0 0] 26 (0, 0)) (by (with_reducible repeat (first | refine blk_drewN ?_ _ | refine blk_drew ?_ | refine blk_alloc ?_ _)); refine blk_far ?_ NB384_390.out _; (with_reducible repeat (first | refine blk_drewN ?_ _ | refine blk_drew ?_ | refine blk_alloc ?_ _)); exact BK384.out) NB384_0.out (by simp)); replace HO387 := Aside0.mk (Kd.R_mono (Kd.R_keep (IsS64.apart (show IsS64 w0 _ g s0_0 t388 t389 from IsS64.q_ HI0) (by (with_reducible repeat (first | apply Kd.R_alloc | apply Kd.R_drewN | apply Kd.R_drew)); exact (Kd.R_mono (Kd.R_far (p := ⟨gb390, 0, none⟩) (Kd.R_types HO387.out BK390.out (by decide)) (fun _ hk => hk.2) (.slice Ao31 t385.length co31)) (fun _ h_ => h_.1))) (by decide)) hk (fun _ h => h.2)) (fun _ h => h.1)); replace BK390 := Aside0.mk (KeepBut.blk hk (g' := gb390) (o := .cells #[.slice Ao31 t385.length co31] 26 (0, 0)) (by (with_reducible repeat (first | refine blk_drewN ?_ _ | refine blk_drew ?_ | refine blk_alloc ?_ _)); refine blk_put (cs := #[.slice none 0 0]) ?_ 0 _ rfl; (with_reducible repeat (first | refine blk_drewN ?_ _ | refine blk_drew ?_ | refine blk_alloc ?_ _)); exact BK390.out) NB390_0.out (by simp)); replace HK := Aside0.mk (KeepBut.trans (kq_ HK) hk (.inl rfl)); replace HB := Aside0.mk (hb); replace HI0 := Aside0.mk (hi); (try clear hb); (try clear hk); (try clear hi); have hcz36_0 := cz_ BK390; have hfz36_0 := blk_frozen BK390.out 0; have q37 : (1 : Int) ≤ ((t385.length : Int) : Int) := od_; obtain ⟨i037, hi037, _, hsz37, _⟩ := info_parts info3; have hcut37 := cut_from (P := Try.prog) 24 3 .i64 Try.underlying24 hi037 1 hsz37 Ao31 t385.length co31 1 (by omega) q37; have hr37 := Kd.Q_drop (k := (1 : Int).toNat) (Kd.Q_of_R HO387.out) (by omega); obtain ⟨A37, hA37⟩ : ∃ A1, A1 = (if co31 = (1 : Int).toNat then Ao31 else (Ao31 : Option Addr).map (·.add ((1 : Int).toNat * 1))) := ⟨_, rfl⟩; obtain ⟨c37, hc37⟩ : ∃ c1, c1 = co31 - (1 : Int).toNat := ⟨_, rfl⟩; have hy37 : y403.length = t385.length - (1 : Int).toNat := (by rw [Ny403.out, List.length_drop]); rw [← Ny403.out] at hr37; rw [← hy37, ← hA37, ← hc37] at hcut37; replace hr37 : Kd.Q (Kd.int .i64) 3 w35 w.heap.size (fun _ => True) (.slice A37 y403.length c37) y403 := (by rw [hA37, hc37, hy37]; exact hr37); have HE37 : Aside0 ((Value.slice A37 y403.length c37).ownBlock = (.slice Ao31 t385.length co31 : Value).ownBlock) := ⟨by rw [hA37]; split <;> (cases (Ao31 : Option Addr) <;> rfl)⟩; clear hy37 hi037 hsz37 HO387 hA37 hc37; have HO405 := Aside0.mk hr37; clear hr37; replace q37 := eq_true q37; have hnb38 := NB384_0.out; have hnc38 := NB0_384.out; have hcz39_0 := cz_ BK384; have hfz39_0 := blk_frozen BK384.out 0))
     refine bodyPost_ret (results_cell_row rfl _ _ gb384 26 #[.slice A37 y403.length c37] (0, 0) _ rfl (by (with_reducible repeat (first | refine blk_drewN ?_ _ | refine blk_drew ?_ | refine blk_alloc ?_ _)); refine blk_put (cs := #[.slice none 0 0]) ?_ 0 _ rfl; (with_reducible repeat (first | refine blk_drewN ?_ _ | refine blk_drew ?_ | refine blk_alloc ?_ _)); refine blk_far ?_ NB384_390.out _; (with_reducible repeat (first | refine blk_drewN ?_ _ | refine blk_drew ?_ | refine blk_alloc ?_ _)); exact BK384.out) Try.underlying26 rfl (by kernel_rfl)) rfl ?_
     exact ⟨_, rf_, by (with_reducible repeat (first | apply Kd.Q_alloc | apply Kd.Q_drewN | apply Kd.Q_drew)); exact Kd.Q_mono (Kd.Q_far (p := ⟨gb384, 0, none⟩) (Kd.Q_far (p := ⟨gb390, 0, none⟩) (Kd.Q_types (Kd.Q_types HO405.out BK390.out (by decide)) BK384.out (by decide)) (fun _ hk => hk.1.2) (.slice A37 y403.length c37)) (fun _ hk => hk.2) (.slice A37 y403.length c37)) (fun _ hk => trivial), IsS64.q_ HI0, bi_ HB (IsS64.ge HI0.out), kq_ HK⟩
   rw [if_neg c26] at H
   have c26b0 : (t391 == 1) = false := beq_eq_false_iff_ne.mpr c26
   have c26b1 : (t391 != 1) = true := bne_iff_ne.mpr c26
   by_cases c40 : t391 = 2
   rotate_left
   · rw [if_neg c40] at H
     have c40b0 : (t391 == 2) = false := beq_eq_false_iff_ne.mpr c40
     have c40b1 : (t391 != 2) = true := bne_iff_ne.mpr c40
     simp only [Option.some.injEq, Prod.mk.injEq] at H
     obtain ⟨rfl, rfl, rfl⟩ := H
     go_enter Try.func52, Try.ntmps52
     go_wp2_with (first | ((with_reducible refine gate_dst (N := 2) rfl ?_); refine bx_ 2 #[.slice none 0 0] 26 ?_; intro gb384 hg w60 hbox hb; replace HB := Aside0.mk (below_step (bi_ HB (IsS64.ge HI0.out)) hb); have BK384 := Aside0.mk (hbox); have GW384 := Aside0.mk ((by rw [hg]; exact (keep_size (w := w) (g := g) (row := none) (kq_ HK)) : w.heap.size ≤ gb384)); have GE384 := Aside0.mk ((Nat.le_trans HW0.out (by rw [hg]; exact (keep_size (w := w) (g := g) (row := none) (kq_ HK)) : w.heap.size ≤ gb384) : w0.heap.size ≤ gb384)); replace HK := Aside0.mk (KeepBut.trans (kq_ HK) (KeepBut.of_below hb g none) (.inl rfl)); have NB0_384 := Aside0.mk ((by rw [hg]; exact Nat.ne_of_lt (IsS64.lt (show IsS64 w0 _ g s0_0 s0_1 s0_2 from IsS64.q_ HI0)) : g ≠ gb384)); have NB384_0 := Aside0.mk ((by rw [hg]; exact Nat.ne_of_gt (IsS64.lt (show IsS64 w0 _ g s0_0 s0_1 s0_2 from IsS64.q_ HI0)) : gb384 ≠ g)); replace HI0 := Aside0.mk (IsS64.below (IsS64.q_ HI0) hb); clear hb hbox hg) | ((with_reducible refine gate_callee (f := 63) rfl ?_); refine gL_ (some 5) Try.func63 #[.pointer (some ⟨g, 0, none⟩)] ?_; (with_reducible refine (spec_l3Draw.calls k g s0_0 s0_1 s0_2 t385 t388 t389 w0 _ ?side1 ?side2 A2.out).mono ?_); (case side1 => exact IsS64.q_ HI0); (case side2 => exact bi_ HB (IsS64.ge HI0.out)); rintro e w61 ⟨v386, rfl, ho0, hi, hb, hk⟩; refine ⟨_, rfl, ?_⟩; replace BK384 := Aside0.mk (KeepBut.blk hk (g' := gb384) (o := .cells #[.slice none 0 0] 26 (0, 0)) (be_ BK384.out) NB384_0.out (by simp)); have HO387 := Aside0.mk (Kd.R_lower ho0 (keep_size (w := w) (g := g) (row := none) (kq_ HK))); replace HK := Aside0.mk (KeepBut.trans (kq_ HK) hk (.inl rfl)); replace HB := Aside0.mk (hb); replace HI0 := Aside0.mk (hi); (try clear hb); (try clear hk); (try clear hi); (try clear ho0)) | ((with_reducible refine gate_dst (N := 3) rfl ?_); refine bx_ 3 #[.slice none 0 0] 26 ?_; intro gb390 hg w62 hbox hb; replace HO387 := Aside0.mk (Kd.R_below (re_ HO387.out) hb); replace HB := Aside0.mk (below_step (bi_ HB (IsS64.ge HI0.out)) hb); have BK390 := Aside0.mk (hbox); have GW390 := Aside0.mk ((by rw [hg]; exact (keep_size (w := w) (g := g) (row := none) (kq_ HK)) : w.heap.size ≤ gb390)); have GE390 := Aside0.mk ((Nat.le_trans HW0.out (by rw [hg]; exact (keep_size (w := w) (g := g) (row := none) (kq_ HK)) : w.heap.size ≤ gb390) : w0.heap.size ≤ gb390)); replace HK := Aside0.mk (KeepBut.trans (kq_ HK) (KeepBut.of_below hb g none) (.inl rfl)); have NB384_390 := nl_ hg BK384; have NB390_384 := ng_ hg BK384; replace BK384 := bk_ BK384 hb; have NB0_390 := Aside0.mk ((by rw [hg]; exact Nat.ne_of_lt (IsS64.lt (show IsS64 w0 _ g s0_0 t388 t389 from IsS64.q_ HI0)) : g ≠ gb390)); have NB390_0 := Aside0.mk ((by rw [hg]; exact Nat.ne_of_gt (IsS64.lt (show IsS64 w0 _ g s0_0 t388 t389 from IsS64.q_ HI0)) : gb390 ≠ g)); replace HI0 := Aside0.mk (IsS64.below (IsS64.q_ HI0) hb); clear hb hbox hg; obtain ⟨Ao63, co63, eo63⟩ := Kd.R_slice HO387.out; subst eo63; have hnb64 := NB390_384.out; have hnc64 := NB384_390.out; have hnb65 := NB390_0.out; have hnc65 := NB0_390.out; have hcz66_0 := cz_ BK390; have hfz66_0 := blk_frozen BK390.out 0) | ((with_reducible refine gate_callee (f := 49) rfl ?_); refine gL_ (some 7) Try.func49 #[.pointer (some ⟨g, 0, none⟩), .int .i64 12] ?_; (with_reducible refine (spec_l1Below.calls g s0_0 t388 t389 12 t391 t392 t393 w0 _ ?side1 ?side2 A3.out).mono ?_); (case side1 => exact IsS64.q_ HI0); (case side2 => exact bi_ HB (IsS64.ge HI0.out)); rintro e w67 ⟨rfl, hi, hb, hk⟩; refine ⟨_, rfl, ?_⟩; replace BK384 := Aside0.mk (KeepBut.blk hk (g' := gb384) (o := .cells #[.slice none 0 0] 26 (0, 0)) (by (with_reducible repeat (first | refine blk_drewN ?_ _ | refine blk_drew ?_ | refine blk_alloc ?_ _)); refine blk_far ?_ NB384_390.out _; (with_reducible repeat (first | refine blk_drewN ?_ _ | refine blk_drew ?_ | refine blk_alloc ?_ _)); exact BK384.out) NB384_0.out (by simp)); replace HO387 := Aside0.mk (Kd.R_mono (Kd.R_keep (IsS64.apart (show IsS64 w0 _ g s0_0 t388 t389 from IsS64.q_ HI0) (by (with_reducible repeat (first | apply Kd.R_alloc | apply Kd.R_drewN | apply Kd.R_drew)); exact (Kd.R_mono (Kd.R_far (p := ⟨gb390, 0, none⟩) (Kd.R_types HO387.out BK390.out (by decide)) (fun _ hk => hk.2) (.slice Ao63 t385.length co63)) (fun _ h_ => h_.1))) (by decide)) hk (fun _ h => h.2)) (fun _ h => h.1)); replace BK390 := Aside0.mk (KeepBut.blk hk (g' := gb390) (o := .cells #[.slice Ao63 t385.length co63] 26 (0, 0)) (by (with_reducible repeat (first | refine blk_drewN ?_ _ | refine blk_drew ?_ | refine blk_alloc ?_ _)); refine blk_put (cs := #[.slice none 0 0]) ?_ 0 _ rfl; (with_reducible repeat (first | refine blk_drewN ?_ _ | refine blk_drew ?_ | refine blk_alloc ?_ _)); exact BK390.out) NB390_0.out (by simp)); replace HK := Aside0.mk (KeepBut.trans (kq_ HK) hk (.inl rfl)); replace HB := Aside0.mk (hb); replace HI0 := Aside0.mk (hi); (try clear hb); (try clear hk); (try clear hi); have hcz68_0 := cz_ BK390; have hfz68_0 := blk_frozen BK390.out 0; have hnb69 := NB384_0.out; have hnc69 := NB0_384.out; have hcz70_0 := cz_ BK384; have hfz70_0 := blk_frozen BK384.out 0))
     refine bodyPost_ret (results_cell_row rfl _ _ gb384 26 #[.slice Ao63 t385.length co63] (0, 0) _ rfl (by (with_reducible repeat (first | refine blk_drewN ?_ _ | refine blk_drew ?_ | refine blk_alloc ?_ _)); refine blk_put (cs := #[.slice none 0 0]) ?_ 0 _ rfl; (with_reducible repeat (first | refine blk_drewN ?_ _ | refine blk_drew ?_ | refine blk_alloc ?_ _)); exact BK384.out) Try.underlying26 rfl (by kernel_rfl)) rfl ?_
     exact ⟨_, rf_, Kd.Q_of_R (by (with_reducible repeat (first | apply Kd.R_alloc | apply Kd.R_drewN | apply Kd.R_drew)); exact Kd.R_mono (Kd.R_far (p := ⟨gb384, 0, none⟩) (Kd.R_types HO387.out BK384.out (by decide)) (fun _ hk => hk.2) (.slice Ao63 t385.length co63)) (fun _ hk => trivial)), IsS64.q_ HI0, bi_ HB (IsS64.ge HI0.out), kq_ HK⟩
   rw [if_pos c40] at H
   have c40b0 : (t391 == 2) = true := beq_iff_eq.mpr c40
   have c40b1 : (t391 != 2) = false := bne_eq_false_iff_eq.mpr c40
   clear c40
   obtain ⟨y406, hy406⟩ : ∃ y_ : List Int, y_ = (([0, 59, 4] : List Int)) := ⟨_, rfl⟩
   replace H : ((spec_l1PickInt.f s0_0 t392 t393 y406).bind fun bt409 => (some ((([bt409.1, 60] : List Int)), bt409.2.1, bt409.2.2))) = some (r1, r2, r3) := by subst hy406; exact H
   have Ny406 := Aside0.mk hy406
   clear hy406
   obtain ⟨⟨t409, t410, t411⟩, A41, H⟩ := ob_ H
   (try dsimp only at H)
   obtain ⟨y412, hy412⟩ : ∃ y_ : List Int, y_ = (([t409, 60] : List Int)) := ⟨_, rfl⟩
   replace H : (some (y412, t410, t411)) = some (r1, r2, r3) := by subst hy412; exact H
   have Ny412 := Aside0.mk hy412
   clear hy412
   simp only [Option.some.injEq, Prod.mk.injEq] at H
   obtain ⟨rfl, rfl, rfl⟩ := H
   go_enter Try.func52, Try.ntmps52
   go_wp2_with (first | ((with_reducible refine gate_dst (N := 2) rfl ?_); refine bx_ 2 #[.slice none 0 0] 26 ?_; intro gb384 hg w42 hbox hb; replace HB := Aside0.mk (below_step (bi_ HB (IsS64.ge HI0.out)) hb); have BK384 := Aside0.mk (hbox); have GW384 := Aside0.mk ((by rw [hg]; exact (keep_size (w := w) (g := g) (row := none) (kq_ HK)) : w.heap.size ≤ gb384)); have GE384 := Aside0.mk ((Nat.le_trans HW0.out (by rw [hg]; exact (keep_size (w := w) (g := g) (row := none) (kq_ HK)) : w.heap.size ≤ gb384) : w0.heap.size ≤ gb384)); replace HK := Aside0.mk (KeepBut.trans (kq_ HK) (KeepBut.of_below hb g none) (.inl rfl)); have NB0_384 := Aside0.mk ((by rw [hg]; exact Nat.ne_of_lt (IsS64.lt (show IsS64 w0 _ g s0_0 s0_1 s0_2 from IsS64.q_ HI0)) : g ≠ gb384)); have NB384_0 := Aside0.mk ((by rw [hg]; exact Nat.ne_of_gt (IsS64.lt (show IsS64 w0 _ g s0_0 s0_1 s0_2 from IsS64.q_ HI0)) : gb384 ≠ g)); replace HI0 := Aside0.mk (IsS64.below (IsS64.q_ HI0) hb); clear hb hbox hg) | ((with_reducible refine gate_callee (f := 63) rfl ?_); refine gL_ (some 5) Try.func63 #[.pointer (some ⟨g, 0, none⟩)] ?_; (with_reducible refine (spec_l3Draw.calls k g s0_0 s0_1 s0_2 t385 t388 t389 w0 _ ?side1 ?side2 A2.out).mono ?_); (case side1 => exact IsS64.q_ HI0); (case side2 => exact bi_ HB (IsS64.ge HI0.out)); rintro e w43 ⟨v386, rfl, ho0, hi, hb, hk⟩; refine ⟨_, rfl, ?_⟩; replace BK384 := Aside0.mk (KeepBut.blk hk (g' := gb384) (o := .cells #[.slice none 0 0] 26 (0, 0)) (be_ BK384.out) NB384_0.out (by simp)); have HO387 := Aside0.mk (Kd.R_lower ho0 (keep_size (w := w) (g := g) (row := none) (kq_ HK))); replace HK := Aside0.mk (KeepBut.trans (kq_ HK) hk (.inl rfl)); replace HB := Aside0.mk (hb); replace HI0 := Aside0.mk (hi); (try clear hb); (try clear hk); (try clear hi); (try clear ho0)) | ((with_reducible refine gate_dst (N := 3) rfl ?_); refine bx_ 3 #[.slice none 0 0] 26 ?_; intro gb390 hg w44 hbox hb; replace HO387 := Aside0.mk (Kd.R_below (re_ HO387.out) hb); replace HB := Aside0.mk (below_step (bi_ HB (IsS64.ge HI0.out)) hb); have BK390 := Aside0.mk (hbox); have GW390 := Aside0.mk ((by rw [hg]; exact (keep_size (w := w) (g := g) (row := none) (kq_ HK)) : w.heap.size ≤ gb390)); have GE390 := Aside0.mk ((Nat.le_trans HW0.out (by rw [hg]; exact (keep_size (w := w) (g := g) (row := none) (kq_ HK)) : w.heap.size ≤ gb390) : w0.heap.size ≤ gb390)); replace HK := Aside0.mk (KeepBut.trans (kq_ HK) (KeepBut.of_below hb g none) (.inl rfl)); have NB384_390 := nl_ hg BK384; have NB390_384 := ng_ hg BK384; replace BK384 := bk_ BK384 hb; have NB0_390 := Aside0.mk ((by rw [hg]; exact Nat.ne_of_lt (IsS64.lt (show IsS64 w0 _ g s0_0 t388 t389 from IsS64.q_ HI0)) : g ≠ gb390)); have NB390_0 := Aside0.mk ((by rw [hg]; exact Nat.ne_of_gt (IsS64.lt (show IsS64 w0 _ g s0_0 t388 t389 from IsS64.q_ HI0)) : gb390 ≠ g)); replace HI0 := Aside0.mk (IsS64.below (IsS64.q_ HI0) hb); clear hb hbox hg; obtain ⟨Ao45, co45, eo45⟩ := Kd.R_slice HO387.out; subst eo45; have hnb46 := NB390_384.out; have hnc46 := NB384_390.out; have hnb47 := NB390_0.out; have hnc47 := NB0_390.out; have hcz48_0 := cz_ BK390; have hfz48_0 := blk_frozen BK390.out 0) | ((with_reducible refine gate_callee (f := 49) rfl ?_); refine gL_ (some 7) Try.func49 #[.pointer (some ⟨g, 0, none⟩), .int .i64 12] ?_; (with_reducible refine (spec_l1Below.calls g s0_0 t388 t389 12 t391 t392 t393 w0 _ ?side1 ?side2 A3.out).mono ?_); (case side1 => exact IsS64.q_ HI0); (case side2 => exact bi_ HB (IsS64.ge HI0.out)); rintro e w49 ⟨rfl, hi, hb, hk⟩; refine ⟨_, rfl, ?_⟩; replace BK384 := Aside0.mk (KeepBut.blk hk (g' := gb384) (o := .cells #[.slice none 0 0] 26 (0, 0)) (by (with_reducible repeat (first | refine blk_drewN ?_ _ | refine blk_drew ?_ | refine blk_alloc ?_ _)); refine blk_far ?_ NB384_390.out _; (with_reducible repeat (first | refine blk_drewN ?_ _ | refine blk_drew ?_ | refine blk_alloc ?_ _)); exact BK384.out) NB384_0.out (by simp)); replace HO387 := Aside0.mk (Kd.R_mono (Kd.R_keep (IsS64.apart (show IsS64 w0 _ g s0_0 t388 t389 from IsS64.q_ HI0) (by (with_reducible repeat (first | apply Kd.R_alloc | apply Kd.R_drewN | apply Kd.R_drew)); exact (Kd.R_mono (Kd.R_far (p := ⟨gb390, 0, none⟩) (Kd.R_types HO387.out BK390.out (by decide)) (fun _ hk => hk.2) (.slice Ao45 t385.length co45)) (fun _ h_ => h_.1))) (by decide)) hk (fun _ h => h.2)) (fun _ h => h.1)); replace BK390 := Aside0.mk (KeepBut.blk hk (g' := gb390) (o := .cells #[.slice Ao45 t385.length co45] 26 (0, 0)) (by (with_reducible repeat (first | refine blk_drewN ?_ _ | refine blk_drew ?_ | refine blk_alloc ?_ _)); refine blk_put (cs := #[.slice none 0 0]) ?_ 0 _ rfl; (with_reducible repeat (first | refine blk_drewN ?_ _ | refine blk_drew ?_ | refine blk_alloc ?_ _)); exact BK390.out) NB390_0.out (by simp)); replace HK := Aside0.mk (KeepBut.trans (kq_ HK) hk (.inl rfl)); replace HB := Aside0.mk (hb); replace HI0 := Aside0.mk (hi); (try clear hb); (try clear hk); (try clear hi)) | ((with_reducible refine gate_dst (N := 27) rfl ?_); refine Kd.R_lit (Kd.int .i64) _ 3 ?hg (N := 27) ?hd (xs := ([0, 59, 4] : List Int)) (inner := [.int .i64 0, .int .i64 59, .int .i64 4]) (ok := fun _ => True) (okp := fun _ => True) ?hr ?hp (fun _ hk => hk) trivial (Below.refl _ _) (Nat.le_refl _) (by simp) ?_; (case hd => rfl); (case hg => rfl); (case hr => first | (go_simp; done) | (go_simp; rfl)); (case hp => exact (Reps.one (show Kd.M (Kd.int .i64) _ _ _ 0 [.int .i64 0] from rfl) (Reps.one (show Kd.M (Kd.int .i64) _ _ _ 59 [.int .i64 59] from rfl) (Reps.one (show Kd.M (Kd.int .i64) _ _ _ 4 [.int .i64 4] from rfl) (Reps.none _ _))))); intro v407 w50 ho51 hb hg_ hnew_; clear hg_ hnew_; (first | rw [← Ny406.out] at ho51 | (simp only [Int.reduceToNat] at ho51; rw [← Ny406.out] at ho51)); have HO408 := Aside0.mk (Kd.R_lower (Kd.R_new' ho51 (Kd.R_lt (re_ HO387.out))) (keep_size (w := w) (g := g) (row := none) (kq_ HK))); replace HO387 := Aside0.mk (Kd.R_elder' (re_ HO387.out) (Kd.R_base ho51) hb); replace BK384 := bk_ BK384 hb; replace BK390 := bk_ BK390 hb; replace HK := Aside0.mk (KeepBut.trans (kq_ HK) (KeepBut.of_below hb g none) (.inl rfl)); replace HB := Aside0.mk (below_step (bi_ HB (IsS64.ge HI0.out)) hb); replace HI0 := Aside0.mk (IsS64.below (IsS64.q_ HI0) hb); clear hb ho51; obtain ⟨Ao52, co52, eo52⟩ := Kd.R_slice HO408.out; subst eo52) | ((with_reducible refine gate_callee (f := 51) rfl ?_); refine gL_ (some 28) Try.func51 #[.pointer (some ⟨g, 0, none⟩), .slice Ao52 y406.length co52] ?_; (with_reducible refine (spec_l1PickInt.calls g s0_0 t392 t393 _ _ y406 t409 t410 t411 w0 _ ?side1 ?side2 ?side3 ?side4 ?side5 A41.out).mono ?_); (case side1 => exact IsS64.q_ HI0); (case side2 => exact bi_ HB (IsS64.ge HI0.out)); (case side3 => exact ce_ ((Kd.R_reads' HO408.out).2.2)); (case side4 => exact (Kd.R_reads' HO408.out).2.1); (case side5 => exact far_slice (IsS64.own_ne HI0.out HO408.out (by decide))); rintro e w53 ⟨rfl, hi, hb, hk⟩; refine ⟨_, rfl, ?_⟩; replace BK384 := Aside0.mk (KeepBut.blk hk (g' := gb384) (o := .cells #[.slice none 0 0] 26 (0, 0)) (be_ BK384.out) NB384_0.out (by simp)); replace HO387 := Aside0.mk (Kd.R_mono (Kd.R_keep (IsS64.apart (show IsS64 w0 _ g s0_0 t392 t393 from IsS64.q_ HI0) (re_ HO387.out) (by decide)) hk (fun _ h => h.2)) (fun _ h => h.1)); replace BK390 := Aside0.mk (KeepBut.blk hk (g' := gb390) (o := .cells #[.slice Ao45 t385.length co45] 26 (0, 0)) (be_ BK390.out) NB390_0.out (by simp)); replace HO408 := Aside0.mk (Kd.R_mono (Kd.R_keep (IsS64.apart (show IsS64 w0 _ g s0_0 t392 t393 from IsS64.q_ HI0) (re_ HO408.out) (by decide)) hk (fun _ h => h.2)) (fun _ h => h.1)); replace HK := Aside0.mk (KeepBut.trans (kq_ HK) hk (.inl rfl)); replace HB := Aside0.mk (hb); replace HI0 := Aside0.mk (hi); (try clear hb); (try clear hk); (try clear hi)) | ((with_reducible refine gate_dst (N := 29) rfl ?_); refine Kd.R_lit (Kd.int .i64) _ 3 ?hg (N := 29) ?hd (xs := ([t409, 60] : List Int)) (inner := [.int .i64 t409, .int .i64 60]) (ok := fun _ => True) (okp := fun _ => True) ?hr ?hp (fun _ hk => hk) trivial (Below.refl _ _) (Nat.le_refl _) (by simp) ?_; (case hd => rfl); (case hg => rfl); (case hr => first | (go_simp; done) | (go_simp; rfl)); (case hp => exact (Reps.one (show Kd.M (Kd.int .i64) _ _ _ t409 [.int .i64 t409] from rfl) (Reps.one (show Kd.M (Kd.int .i64) _ _ _ 60 [.int .i64 60] from rfl) (Reps.none _ _)))); intro v413 w54 ho55 hb hg_ hnew_; clear hg_ hnew_; (first | rw [← Ny412.out] at ho55 | (simp only [Int.reduceToNat] at ho55; rw [← Ny412.out] at ho55)); have HO414 := Aside0.mk (Kd.R_lower (Kd.R_new' (Kd.R_new' ho55 (Kd.R_lt (re_ HO387.out))) (Kd.R_lt (re_ HO408.out))) (keep_size (w := w) (g := g) (row := none) (kq_ HK))); replace HO387 := Aside0.mk (Kd.R_elder' (re_ HO387.out) (Kd.R_base ho55) hb); replace HO408 := Aside0.mk (Kd.R_elder' (re_ HO408.out) (Kd.R_base ho55) hb); replace BK384 := bk_ BK384 hb; replace BK390 := bk_ BK390 hb; replace HK := Aside0.mk (KeepBut.trans (kq_ HK) (KeepBut.of_below hb g none) (.inl rfl)); replace HB := Aside0.mk (below_step (bi_ HB (IsS64.ge HI0.out)) hb); replace HI0 := Aside0.mk (IsS64.below (IsS64.q_ HI0) hb); clear hb ho55; obtain ⟨Ao56, co56, eo56⟩ := Kd.R_slice HO414.out; subst eo56; have hcz57_0 := cz_ BK390; have hfz57_0 := blk_frozen BK390.out 0; have hnb58 := NB384_0.out; have hnc58 := NB0_384.out; have hcz59_0 := cz_ BK384; have hfz59_0 := blk_frozen BK384.out 0))
   refine bodyPost_ret (results_cell_row rfl _ _ gb384 26 #[.slice Ao56 y412.length co56] (0, 0) _ rfl (by (with_reducible repeat (first | refine blk_drewN ?_ _ | refine blk_drew ?_ | refine blk_alloc ?_ _)); refine blk_put (cs := #[.slice none 0 0]) ?_ 0 _ rfl; (with_reducible repeat (first | refine blk_drewN ?_ _ | refine blk_drew ?_ | refine blk_alloc ?_ _)); refine blk_far ?_ NB384_390.out _; (with_reducible repeat (first | refine blk_drewN ?_ _ | refine blk_drew ?_ | refine blk_alloc ?_ _)); exact BK384.out) Try.underlying26 rfl (by kernel_rfl)) rfl ?_
   exact ⟨_, rf_, Kd.Q_of_R (by (with_reducible repeat (first | apply Kd.R_alloc | apply Kd.R_drewN | apply Kd.R_drew)); exact Kd.R_mono (Kd.R_far (p := ⟨gb384, 0, none⟩) (Kd.R_far (p := ⟨gb390, 0, none⟩) (Kd.R_types (Kd.R_types HO414.out BK390.out (by decide)) BK384.out (by decide)) (fun _ hk => hk.1.2) (.slice Ao56 y412.length co56)) (fun _ hk => hk.2) (.slice Ao56 y412.length co56)) (fun _ hk => trivial)), IsS64.q_ HI0, bi_ HB (IsS64.ge HI0.out), kq_ HK⟩
 rw [if_pos c4] at H
 have c4b0 : (t391 == 0) = true := beq_iff_eq.mpr c4
 have c4b1 : (t391 != 0) = false := bne_eq_false_iff_eq.mpr c4
 clear c4
 obtain ⟨y394, hy394⟩ : ∃ y_ : List Int, y_ = (([0, 61, 12, (-3), 60] : List Int)) := ⟨_, rfl⟩
 replace H : ((spec_l1PickInt.f s0_0 t392 t393 y394).bind fun bt397 => (if t385.length < 17592186044416 then (some ((t385 ++ [bt397.1]), bt397.2.1, bt397.2.2)) else (none))) = some (r1, r2, r3) := by subst hy394; exact H
 have Ny394 := Aside0.mk hy394
 clear hy394
 obtain ⟨⟨t397, t398, t399⟩, A5, H⟩ := ob_ H
 (try dsimp only at H)
 by_cases c6 : t385.length < 17592186044416
 rotate_left
 · rw [if_neg c6] at H
   cases H
 rw [if_pos c6] at H
 have LMc6 := Aside0.mk c6
 clear c6
 obtain ⟨y400, hy400⟩ : ∃ y_ : List Int, y_ = (t385 ++ [t397]) := ⟨_, rfl⟩
 replace H : (some (y400, t398, t399)) = some (r1, r2, r3) := by subst hy400; exact H
 have Ny400 := Aside0.mk hy400
 clear hy400
 simp only [Option.some.injEq, Prod.mk.injEq] at H
 obtain ⟨rfl, rfl, rfl⟩ := H
 go_enter Try.func52, Try.ntmps52
 try go_wp2_with (first | ((with_reducible refine gate_dst (N := 2) rfl ?_); refine bx_ 2 #[.slice none 0 0] 26 ?_; intro gb384 hg w7 hbox hb; replace HB := Aside0.mk (below_step (bi_ HB (IsS64.ge HI0.out)) hb); have BK384 := Aside0.mk (hbox); have GW384 := Aside0.mk ((by rw [hg]; exact (keep_size (w := w) (g := g) (row := none) (kq_ HK)) : w.heap.size ≤ gb384)); have GE384 := Aside0.mk ((Nat.le_trans HW0.out (by rw [hg]; exact (keep_size (w := w) (g := g) (row := none) (kq_ HK)) : w.heap.size ≤ gb384) : w0.heap.size ≤ gb384)); replace HK := Aside0.mk (KeepBut.trans (kq_ HK) (KeepBut.of_below hb g none) (.inl rfl)); have NB0_384 := Aside0.mk ((by rw [hg]; exact Nat.ne_of_lt (IsS64.lt (show IsS64 w0 _ g s0_0 s0_1 s0_2 from IsS64.q_ HI0)) : g ≠ gb384)); have NB384_0 := Aside0.mk ((by rw [hg]; exact Nat.ne_of_gt (IsS64.lt (show IsS64 w0 _ g s0_0 s0_1 s0_2 from IsS64.q_ HI0)) : gb384 ≠ g)); replace HI0 := Aside0.mk (IsS64.below (IsS64.q_ HI0) hb); clear hb hbox hg) | ((with_reducible refine gate_callee (f := 63) rfl ?_); refine gL_ (some 5) Try.func63 #[.pointer (some ⟨g, 0, none⟩)] ?_; (with_reducible refine (spec_l3Draw.calls k g s0_0 s0_1 s0_2 t385 t388 t389 w0 _ ?side1 ?side2 A2.out).mono ?_); (case side1 => exact IsS64.q_ HI0); (case side2 => exact bi_ HB (IsS64.ge HI0.out)); rintro e w8 ⟨v386, rfl, ho0, hi, hb, hk⟩; refine ⟨_, rfl, ?_⟩; replace BK384 := Aside0.mk (KeepBut.blk hk (g' := gb384) (o := .cells #[.slice none 0 0] 26 (0, 0)) (be_ BK384.out) NB384_0.out (by simp)); have HO387 := Aside0.mk (Kd.R_lower ho0 (keep_size (w := w) (g := g) (row := none) (kq_ HK))); replace HK := Aside0.mk (KeepBut.trans (kq_ HK) hk (.inl rfl)); replace HB := Aside0.mk (hb); replace HI0 := Aside0.mk (hi); (try clear hb); (try clear hk); (try clear hi); (try clear ho0)) | ((with_reducible refine gate_dst (N := 3) rfl ?_); refine bx_ 3 #[.slice none 0 0] 26 ?_; intro gb390 hg w9 hbox hb; replace HO387 := Aside0.mk (Kd.R_below (re_ HO387.out) hb); replace HB := Aside0.mk (below_step (bi_ HB (IsS64.ge HI0.out)) hb); have BK390 := Aside0.mk (hbox); have GW390 := Aside0.mk ((by rw [hg]; exact (keep_size (w := w) (g := g) (row := none) (kq_ HK)) : w.heap.size ≤ gb390)); have GE390 := Aside0.mk ((Nat.le_trans HW0.out (by rw [hg]; exact (keep_size (w := w) (g := g) (row := none) (kq_ HK)) : w.heap.size ≤ gb390) : w0.heap.size ≤ gb390)); replace HK := Aside0.mk (KeepBut.trans (kq_ HK) (KeepBut.of_below hb g none) (.inl rfl)); have NB384_390 := nl_ hg BK384; have NB390_384 := ng_ hg BK384; replace BK384 := bk_ BK384 hb; have NB0_390 := Aside0.mk ((by rw [hg]; exact Nat.ne_of_lt (IsS64.lt (show IsS64 w0 _ g s0_0 t388 t389 from IsS64.q_ HI0)) : g ≠ gb390)); have NB390_0 := Aside0.mk ((by rw [hg]; exact Nat.ne_of_gt (IsS64.lt (show IsS64 w0 _ g s0_0 t388 t389 from IsS64.q_ HI0)) : gb390 ≠ g)); replace HI0 := Aside0.mk (IsS64.below (IsS64.q_ HI0) hb); clear hb hbox hg; obtain ⟨Ao10, co10, eo10⟩ := Kd.R_slice HO387.out; subst eo10; have hnb11 := NB390_384.out; have hnc11 := NB384_390.out; have hnb12 := NB390_0.out; have hnc12 := NB0_390.out; have hcz13_0 := cz_ BK390; have hfz13_0 := blk_frozen BK390.out 0) | ((with_reducible refine gate_callee (f := 49) rfl ?_); refine gL_ (some 7) Try.func49 #[.pointer (some ⟨g, 0, none⟩), .int .i64 12] ?_; (with_reducible refine (spec_l1Below.calls g s0_0 t388 t389 12 t391 t392 t393 w0 _ ?side1 ?side2 A3.out).mono ?_); (case side1 => exact IsS64.q_ HI0); (case side2 => exact bi_ HB (IsS64.ge HI0.out)); rintro e w14 ⟨rfl, hi, hb, hk⟩; refine ⟨_, rfl, ?_⟩; replace BK384 := Aside0.mk (KeepBut.blk hk (g' := gb384) (o := .cells #[.slice none 0 0] 26 (0, 0)) (by (with_reducible repeat (first | refine blk_drewN ?_ _ | refine blk_drew ?_ | refine blk_alloc ?_ _)); refine blk_far ?_ NB384_390.out _; (with_reducible repeat (first | refine blk_drewN ?_ _ | refine blk_drew ?_ | refine blk_alloc ?_ _)); exact BK384.out) NB384_0.out (by simp)); replace HO387 := Aside0.mk (Kd.R_mono (Kd.R_keep (IsS64.apart (show IsS64 w0 _ g s0_0 t388 t389 from IsS64.q_ HI0) (by (with_reducible repeat (first | apply Kd.R_alloc | apply Kd.R_drewN | apply Kd.R_drew)); exact (Kd.R_mono (Kd.R_far (p := ⟨gb390, 0, none⟩) (Kd.R_types HO387.out BK390.out (by decide)) (fun _ hk => hk.2) (.slice Ao10 t385.length co10)) (fun _ h_ => h_.1))) (by decide)) hk (fun _ h => h.2)) (fun _ h => h.1)); replace BK390 := Aside0.mk (KeepBut.blk hk (g' := gb390) (o := .cells #[.slice Ao10 t385.length co10] 26 (0, 0)) (by (with_reducible repeat (first | refine blk_drewN ?_ _ | refine blk_drew ?_ | refine blk_alloc ?_ _)); refine blk_put (cs := #[.slice none 0 0]) ?_ 0 _ rfl; (with_reducible repeat (first | refine blk_drewN ?_ _ | refine blk_drew ?_ | refine blk_alloc ?_ _)); exact BK390.out) NB390_0.out (by simp)); replace HK := Aside0.mk (KeepBut.trans (kq_ HK) hk (.inl rfl)); replace HB := Aside0.mk (hb); replace HI0 := Aside0.mk (hi); (try clear hb); (try clear hk); (try clear hi)))
 replace HO387 := Aside0.mk (Kd.R_drew HO387.out)
 replace BK384 := Aside0.mk (blk_drew BK384.out)
 replace BK390 := Aside0.mk (blk_drew BK390.out)
 replace HI0 := Aside0.mk (IsS64.drew HI0.out)
 replace HK := Aside0.mk (keep_drew HK.out)
 replace HB := Aside0.mk (below_drew1 HB.out)
 refine start_ (n := 9) (S := fun w' => w'.cell? ⟨gb390, 0, none⟩ = some (.slice Ao10 t385.length co10)) (ds := [8]) (B_ 0 9) (by kernel_rfl) rfl rfl ((blk_cell BK390.out 0).trans rfl) (fun hHeld => ?_); refine with_tabW spec_l3Bent.tab4 spec_l3Bent.bits4 (fun HT_ HW_ => ?_)
 generalize w14.drew = w15 at HO387 BK384 BK390 HI0 HK HB hHeld ⊢
 refine pu_ HT_ 0 10 (B_ 1 9) ?_
 refine pu_ HT_ 2 12 (B_ 5 9) ?_
 refine tk1_ HT_ HW_ hHeld 1 11 (B_ 7 9) ?_
 refine on_ HT_ 3 13 (B_ 15 9) (fun K hK => ?_)
 refine Kd.R_lit_step (Kd.int .i64) _ 3 ?hg (N := 13) ?hd (xs := ([0, 61, 12, (-3), 60] : List Int)) (inner := [.int .i64 0, .int .i64 61, .int .i64 12, .int .i64 (-3), .int .i64 60]) (ok := fun _ => True) (okp := fun _ => True) ?hr ?hp (fun _ hk => hk) trivial (Below.refl _ _) (Nat.le_refl _) (by simp) ?_; (case hd => rfl); (case hg => rfl); (case hr => first | (go_simp; done) | (go_simp; rfl)); (case hp => exact (Reps.one (show Kd.M (Kd.int .i64) _ _ _ 0 [.int .i64 0] from rfl) (Reps.one (show Kd.M (Kd.int .i64) _ _ _ 61 [.int .i64 61] from rfl) (Reps.one (show Kd.M (Kd.int .i64) _ _ _ 12 [.int .i64 12] from rfl) (Reps.one (show Kd.M (Kd.int .i64) _ _ _ (-3) [.int .i64 (-3)] from rfl) (Reps.one (show Kd.M (Kd.int .i64) _ _ _ 60 [.int .i64 60] from rfl) (Reps.none _ _)))))))
 intro v395 w16 ho17 hb hg_ hnew_
 clear hg_ hnew_
 (first | rw [← Ny394.out] at ho17 | (simp only [Int.reduceToNat] at ho17; rw [← Ny394.out] at ho17))
 have HO396 := Aside0.mk (Kd.R_lower (Kd.R_new' ho17 (Kd.R_lt (re_ HO387.out))) (keep_size (w := w) (g := g) (row := none) (kq_ HK)))
 replace HO387 := Aside0.mk (Kd.R_elder' (re_ HO387.out) (Kd.R_base ho17) hb)
 replace BK384 := bk_ BK384 hb
 replace BK390 := bk_ BK390 hb
 replace HK := Aside0.mk (KeepBut.trans (kq_ HK) (KeepBut.of_below hb g none) (.inl rfl))
 replace HB := Aside0.mk (below_step (bi_ HB (IsS64.ge HI0.out)) hb)
 replace HI0 := Aside0.mk (IsS64.below (IsS64.q_ HI0) hb)
 clear hb ho17
 obtain ⟨Ao18, co18, eo18⟩ := Kd.R_slice HO396.out
 (first | subst eo18 | (injection eo18 with f1_ f2_ f3_; have f4_ := f1_.symm; have f5_ := f3_.symm; clear f1_ f2_ f3_; subst f4_; subst f5_))
 refine hK.out _ _ ((blk_cell BK390.out 0).trans rfl) (fun hHeld => ?_)
 clear hK K
 refine norm_ (a' := ?_) ?_ ?_
 rotate_left
 · show Act.put _ (some 13) _ = _
   simp only [Act.put, z1_, z2_, z3_, i64_w, i32_w]
   rfl
 refine on_ HT_ 4 14 (B_ 31 9) (fun K hK => ?_)
 refine goes_ Try.func51 (by kernel_rfl) rfl #[.pointer (some ⟨g, 0, none⟩), .slice Ao18 y394.length co18] (by rfl) rfl rfl (by (try simp only [List.map_toArray, List.map_cons, List.map_nil]); first | done | rfl | (simp only [List.length_drop, List.length_take]; rfl)) ?_
 with_reducible refine (spec_l1PickInt.calls g s0_0 t392 t393 _ _ y394 t397 t398 t399 w0 _ ?side1 ?side2 ?side3 ?side4 ?side5 A5.out).mono ?_
 (case side1 => exact IsS64.q_ HI0)
 (case side2 => exact bi_ HB (IsS64.ge HI0.out))
 (case side3 => exact ce_ ((Kd.R_reads' HO396.out).2.2))
 (case side4 => exact (Kd.R_reads' HO396.out).2.1)
 (case side5 => exact far_slice (IsS64.own_ne HI0.out HO396.out (by decide)))
 rintro e w19 ⟨rfl, hi, hb, hk⟩
 refine ⟨_, rfl, ?_⟩
 replace BK384 := Aside0.mk (KeepBut.blk hk (g' := gb384) (o := .cells #[.slice none 0 0] 26 (0, 0)) (be_ BK384.out) NB384_0.out (by simp))
 replace HO387 := Aside0.mk (Kd.R_mono (Kd.R_keep (IsS64.apart (show IsS64 w0 _ g s0_0 t392 t393 from IsS64.q_ HI0) (re_ HO387.out) (by decide)) hk (fun _ h => h.2)) (fun _ h => h.1))
 replace BK390 := Aside0.mk (KeepBut.blk hk (g' := gb390) (o := .cells #[.slice Ao10 t385.length co10] 26 (0, 0)) (be_ BK390.out) NB390_0.out (by simp))
 replace HO396 := Aside0.mk (Kd.R_mono (Kd.R_keep (IsS64.apart (show IsS64 w0 _ g s0_0 t392 t393 from IsS64.q_ HI0) (re_ HO396.out) (by decide)) hk (fun _ h => h.2)) (fun _ h => h.1))
 replace HK := Aside0.mk (KeepBut.trans (kq_ HK) hk (.inl rfl))
 replace HB := Aside0.mk (hb)
 replace HI0 := Aside0.mk (hi)
 (try clear hb)
 (try clear hk)
 (try clear hi)
 refine hK.out _ _ ((blk_cell BK390.out 0).trans rfl) (fun hHeld => ?_)
 clear hK K
 refine norm_ (a' := ?_) ?_ ?_
 rotate_left
 · show Act.put _ (some 14) _ = _
   simp only [Act.put, z1_, z2_, z3_, i64_w, i32_w]
   rfl
 refine on_ HT_ 5 15 (B_ 63 9) (fun K hK => ?_)
 refine value_ (w1 := ?_) (v := ?_) (by rfl) rfl ?_ ?_
 rotate_left 2
 · go_simp
   constructor
   · rfl
   · rfl
 refine hK.out _ _ ((blk_cell (blk_alloc BK390.out _) 0).trans rfl) (fun hHeld => ?_)
 clear hK K
 refine norm_ (a' := ?_) ?_ ?_
 rotate_left
 · show Act.put _ (some 15) _ = _
   simp only [Act.put, z1_, z2_, z3_, i64_w, i32_w]
   rfl
 refine on_ HT_ 6 16 (B_ 127 9) (fun K hK => ?_)
 refine Kd.R_append_step (Kd.int .i64) w.heap.size (by rfl) (.tmp 11) (.tmp 15) 24 3 (.int .i64 0) 8 rfl Try.underlying24 info3 rfl (by decide) (by omega) (.slice Ao10 t385.length co10) t385 t397 [.int .i64 t397] (fun k_ => some k_ ≠ (.slice Ao18 y394.length co18 : Value).ownBlock) (fun _ => False) rfl rfl ?aP (fun _ hk => hk.elim) ?aF ?aO (Below.refl _ _) ?aS ?aL ?_
 (case aP => exact rfl)
 (case aF => exact (fun k_ hk => Kd.fresh' (Kd.R_lt (re_ HO396.out)) k_ hk))
 (case aO => exact (by (with_reducible repeat (first | apply Kd.R_alloc | apply Kd.R_drewN | apply Kd.R_drew)); exact Kd.R_mono HO387.out (fun _ hk => hk.2)))
 (case aS => exact (keep_size (w := w) (g := g) (row := none) (kq_ HK)))
 (case aL => have := LMc6.out; omega)
 intro v401 w20 ho hb hg hat
 rw [← Ny400.out] at ho
 replace BK384 := Aside0.mk (blk_grown (be_ BK384.out) hg (Kd.R_ne HO387.out BK384.out (by decide)))
 replace BK390 := Aside0.mk (blk_grown (be_ BK390.out) hg (Kd.R_ne HO387.out BK390.out (by decide)))
 replace HO396 := Aside0.mk (Kd.R_after (ok := (fun _ => True)) (re_ HO396.out) hg hat)
 replace HB := Aside0.mk (below_weaken (bi_ HB (IsS64.ge HI0.out)) HL.out hb)
 replace HI0 := Aside0.mk (IsS64.grown (IsS64.q_ HI0) hg (IsS64.own_ne HI0.out HO387.out (by decide)))
 replace HK := Aside0.mk (KeepBut.trans (kq_ HK) (KeepBut.of_grown hg g) (Kd.R_base2 HO387.out))
 have HO402 := Aside0.mk (ho)
 clear HO387
 clear ho hb hg hat
 obtain ⟨Ao21, co21, eo21⟩ := Kd.R_slice HO402.out
 (first | subst eo21 | (injection eo21 with f1_ f2_ f3_; have f4_ := f1_.symm; have f5_ := f3_.symm; clear f1_ f2_ f3_; subst f4_; subst f5_))
 refine hK.out _ _ ((blk_cell BK390.out 0).trans rfl) (fun hHeld => ?_)
 clear hK K
 refine norm_ (a' := ?_) ?_ ?_
 rotate_left
 · show Act.put _ (some 16) _ = _
   simp only [Act.put, z1_, z2_, z3_, i64_w, i32_w]
   rfl
 refine pu_ HT_ 7 17 (B_ 255 9) ?_
 refine last_ (i := 8) (N := none) (B_ 511 9) rfl rfl (one_of HT_.out (by kernel_rfl)) (by decide) (fun K hK => ?_)
 have hs22 : w20.cell? ⟨gb390, 0, none⟩ = some (.slice Ao10 t385.length co10) := (blk_cell BK390.out 0).trans rfl
 have hfs22 := blk_frozen BK390.out 0
 have hns22_0 := NB384_390.out
 have hms22_0 := NB390_384.out
 refine skip_ (w1 := ?_) (by rfl) rfl ?_ ?_
 rotate_left
 · go_simp
   rfl
 refine hK.out _ _ ?_
 clear hK K
 refine done_ (done_of HT_.out (by kernel_rfl)) ?_
 have hcz23_0 := cz_ BK390
 have hfz23_0 := blk_frozen BK390.out 0
 have hnb24 := NB384_0.out
 have hnc24 := NB0_384.out
 have hcz25_0 := cz_ BK384
 have hfz25_0 := blk_frozen BK384.out 0
 try go_wp2
 refine bodyPost_ret (results_cell_row rfl _ _ gb384 26 #[.slice Ao21 y400.length co21] (0, 0) _ rfl (by (with_reducible repeat (first | refine blk_drewN ?_ _ | refine blk_drew ?_ | refine blk_alloc ?_ _)); refine blk_put (cs := #[.slice none 0 0]) ?_ 0 _ rfl; (with_reducible repeat (first | refine blk_drewN ?_ _ | refine blk_drew ?_ | refine blk_alloc ?_ _)); refine blk_far ?_ NB384_390.out _; (with_reducible repeat (first | refine blk_drewN ?_ _ | refine blk_drew ?_ | refine blk_alloc ?_ _)); exact BK384.out) Try.underlying26 rfl (by kernel_rfl)) rfl ?_
 exact ⟨_, rf_, Kd.Q_of_R (by (with_reducible repeat (first | apply Kd.R_alloc | apply Kd.R_drewN | apply Kd.R_drew)); exact Kd.R_mono (Kd.R_far (p := ⟨gb384, 0, none⟩) (Kd.R_far (p := ⟨gb390, 0, none⟩) (Kd.R_types (Kd.R_types HO402.out BK390.out (by decide)) BK384.out (by decide)) (fun _ hk => hk.1.2) (.slice Ao21 y400.length co21)) (fun _ hk => hk.2) (.slice Ao21 y400.length co21)) (fun _ hk => trivial)), IsS64.q_ HI0, bi_ HB (IsS64.ge HI0.out), kq_ HK⟩
def spec_l22Case.j0 : Nat → Int → Int → List Int → Int → Int → List Int → List Int → Option (List Int × List Int × Int × Int)
 | 0, _, _, _, _, _, _, _ => none
 | k + 1, x11, x12, x421000, x421001, x421002, x432000, x443000 => (spec_l1Once.f x421000 x421001 x421002 12).bind fun bt458 => (if bt458.1 = true then ((spec_l3Bent.f k x421000 bt458.2.1 bt458.2.2).bind fun bt461 => (some (bt461.1, x443000, x11, x12))) else (some (x432000, x443000, x11, x12)))
def spec_l22Case.f (k : Nat) (l0 : List Int) : Option (List Int × List Int × Int × Int) := (spec_l1New.f k l0).bind fun bt417 => ((spec_l1Pick.f bt417.1 bt417.2.1 bt417.2.2 (([(⟨#[60, 49, 62]⟩ : ByteArray), (⟨#[60, 50, 44, 51, 62]⟩ : ByteArray), (⟨#[60, 51, 44, 52, 62]⟩ : ByteArray), (⟨#[60, 50, 44, 53, 62]⟩ : ByteArray), (⟨#[60, 51, 44, 52, 44, 53, 62]⟩ : ByteArray)] : List ByteArray))).bind fun bt424 => ((spec_ParseSemigroup.f k bt424.1).bind fun bt427 => ((spec_l1Pick.f bt417.1 bt424.2.1 bt424.2.2 (([(⟨#[60, 49, 62]⟩ : ByteArray), (⟨#[60, 50, 44, 51, 62]⟩ : ByteArray), (⟨#[60, 49, 62]⟩ : ByteArray), (⟨#[60, 50, 44, 53, 62]⟩ : ByteArray)] : List ByteArray))).bind fun bt435 => ((spec_ParseSemigroup.f k bt435.1).bind fun bt438 => ((spec_l1Below.f bt417.1 bt435.2.1 bt435.2.2 10).bind fun bt443 => ((spec_l1Below.f bt417.1 bt443.2.1 bt443.2.2 10).bind fun bt446 => ((spec_l1Once.f bt417.1 bt446.2.1 bt446.2.2 12).bind fun bt449 => (if bt449.1 = true then ((spec_l1PickInt.f bt417.1 bt449.2.1 bt449.2.2 (([0, 61, (-1), 1] : List Int))).bind fun bt455 => (spec_l22Case.j0 k bt455.1 (wrap64 (2 + bt446.1)) bt417.1 bt455.2.1 bt455.2.2 bt427.1 bt438.1)) else (spec_l22Case.j0 k (wrap64 (2 + bt443.1)) (wrap64 (2 + bt446.1)) bt417.1 bt449.2.1 bt449.2.2 bt427.1 bt438.1)))))))))
def spec_l22Case.T10 : Bool × List (List Nat × List Nat) := (true, [([], []), ([], []), ([], []), ([], []), ([0, 0], [0]), ([1, 4, 0, 1, 4], [1]), ([2, 5, 0, 1, 2, 4, 5], [2]), ([3, 6, 0, 1, 2, 3, 4, 5, 6], [3])])
def spec_l22Case.B10 : List Nat := [0, 0, 0, 0, 1, 19, 55, 127]
theorem spec_l22Case.tab10 : rtab .any (opsOf Try.f19 10) = spec_l22Case.T10 := by kernel_rfl
theorem spec_l22Case.bits10 : waitsOk spec_l22Case.T10.2 spec_l22Case.B10 = true := by kernel_rfl
theorem spec_l22Case.calls (k : Nat) (A0 : Option Addr) (c0 : Nat) (l0 : List Int) (r1 : List Int) (r2 : List Int) (r3 : Int) (r4 : Int) (w : World) (hr0 : Kd.C (Kd.int .u8) w A0 l0.length l0) (hc0 : l0.length ≤ c0) (h : spec_l22Case.f k l0 = some (r1, r2, r3, r4)) :
 Calls Try.prog 19 #[.slice A0 l0.length c0] w fun e w' => ∃ v0_ v1_ : Value, e = .returned (.tuple #[.agg #[v0_], .agg #[v1_], .int .i64 r3, .int .i64 r4]) ∧ Kd.Q (Kd.int .i64) 3 w' w.heap.size (fun k_ => some k_ ≠ (v1_ : Value).ownBlock) v0_ r1 ∧ Kd.Q (Kd.int .i64) 3 w' w.heap.size (fun k_ => some k_ ≠ (v0_ : Value).ownBlock) v1_ r2 ∧ Below w.heap.size w w' := by
 have hu26 := Try.underlying26
 have HR0 := Aside0.mk hr0
 have HC0 := Aside0.mk hc0
 clear hr0 hc0
 have HB := Aside0.mk (Below.refl w.heap.size w)
 have H := h
 clear h
 unfold spec_l22Case.f at H
 obtain ⟨⟨t417, t418, t419⟩, A2, H⟩ := ob_ H
 (try dsimp only at H)
 obtain ⟨y421, hy421⟩ : ∃ y_ : List ByteArray, y_ = (([(⟨#[60, 49, 62]⟩ : ByteArray), (⟨#[60, 50, 44, 51, 62]⟩ : ByteArray), (⟨#[60, 51, 44, 52, 62]⟩ : ByteArray), (⟨#[60, 50, 44, 53, 62]⟩ : ByteArray), (⟨#[60, 51, 44, 52, 44, 53, 62]⟩ : ByteArray)] : List ByteArray)) := ⟨_, rfl⟩
 replace H : ((spec_l1Pick.f t417 t418 t419 y421).bind fun bt424 => ((spec_ParseSemigroup.f k bt424.1).bind fun bt427 => ((spec_l1Pick.f t417 bt424.2.1 bt424.2.2 (([(⟨#[60, 49, 62]⟩ : ByteArray), (⟨#[60, 50, 44, 51, 62]⟩ : ByteArray), (⟨#[60, 49, 62]⟩ : ByteArray), (⟨#[60, 50, 44, 53, 62]⟩ : ByteArray)] : List ByteArray))).bind fun bt435 => ((spec_ParseSemigroup.f k bt435.1).bind fun bt438 => ((spec_l1Below.f t417 bt435.2.1 bt435.2.2 10).bind fun bt443 => ((spec_l1Below.f t417 bt443.2.1 bt443.2.2 10).bind fun bt446 => ((spec_l1Once.f t417 bt446.2.1 bt446.2.2 12).bind fun bt449 => (if bt449.1 = true then ((spec_l1PickInt.f t417 bt449.2.1 bt449.2.2 (([0, 61, (-1), 1] : List Int))).bind fun bt455 => (spec_l22Case.j0 k bt455.1 (wrap64 (2 + bt446.1)) t417 bt455.2.1 bt455.2.2 bt427.1 bt438.1)) else (spec_l22Case.j0 k (wrap64 (2 + bt443.1)) (wrap64 (2 + bt446.1)) t417 bt449.2.1 bt449.2.2 bt427.1 bt438.1))))))))) = some (r1, r2, r3, r4) := by subst hy421; exact H
 have Ny421 := Aside0.mk hy421
 clear hy421
 obtain ⟨⟨t424, t425, t426⟩, A3, H⟩ := ob_ H
 (try dsimp only at H)
 obtain ⟨⟨t427, t430⟩, A4, H⟩ := ob_ H
 (try dsimp only at H)
 obtain ⟨y432, hy432⟩ : ∃ y_ : List ByteArray, y_ = (([(⟨#[60, 49, 62]⟩ : ByteArray), (⟨#[60, 50, 44, 51, 62]⟩ : ByteArray), (⟨#[60, 49, 62]⟩ : ByteArray), (⟨#[60, 50, 44, 53, 62]⟩ : ByteArray)] : List ByteArray)) := ⟨_, rfl⟩
 replace H : ((spec_l1Pick.f t417 t425 t426 y432).bind fun bt435 => ((spec_ParseSemigroup.f k bt435.1).bind fun bt438 => ((spec_l1Below.f t417 bt435.2.1 bt435.2.2 10).bind fun bt443 => ((spec_l1Below.f t417 bt443.2.1 bt443.2.2 10).bind fun bt446 => ((spec_l1Once.f t417 bt446.2.1 bt446.2.2 12).bind fun bt449 => (if bt449.1 = true then ((spec_l1PickInt.f t417 bt449.2.1 bt449.2.2 (([0, 61, (-1), 1] : List Int))).bind fun bt455 => (spec_l22Case.j0 k bt455.1 (wrap64 (2 + bt446.1)) t417 bt455.2.1 bt455.2.2 t427 bt438.1)) else (spec_l22Case.j0 k (wrap64 (2 + bt443.1)) (wrap64 (2 + bt446.1)) t417 bt449.2.1 bt449.2.2 t427 bt438.1))))))) = some (r1, r2, r3, r4) := by subst hy432; exact H
 have Ny432 := Aside0.mk hy432
 clear hy432
 obtain ⟨⟨t435, t436, t437⟩, A5, H⟩ := ob_ H
 (try dsimp only at H)
 obtain ⟨⟨t438, t441⟩, A6, H⟩ := ob_ H
 (try dsimp only at H)
 obtain ⟨⟨t443, t444, t445⟩, A7, H⟩ := ob_ H
 (try dsimp only at H)
 obtain ⟨⟨t446, t447, t448⟩, A8, H⟩ := ob_ H
 (try dsimp only at H)
 obtain ⟨⟨t449, t450, t451⟩, A9, H⟩ := ob_ H
 (try dsimp only at H)
 have HC10 := Aside0.mk H
 clear H
 go_enter Try.func19, Try.ntmps19
 go_upto_if 36 with (first | ((with_reducible refine gate_dst (N := 2) rfl ?_); refine bx_ 2 #[.slice none 0 0] 26 ?_; intro gb415 hg w11 hbox hb; have BK415 := Aside0.mk (hbox); have GW415 := gw_ hg HB; have GE415 := gw_ hg HB; replace HB := bo_ HB hb; clear hb hbox hg) | ((with_reducible refine gate_dst (N := 3) rfl ?_); refine bx_ 3 #[.slice none 0 0] 26 ?_; intro gb416 hg w12 hbox hb; have BK416 := Aside0.mk (hbox); have GW416 := gq_ hg (bq_ HB); have GE416 := gq_ hg (bq_ HB); replace HB := bp_ HB hb; have NB415_416 := nl_ hg BK415; have NB416_415 := ng_ hg BK415; replace BK415 := bk_ BK415 hb; clear hb hbox hg) | ((with_reducible refine gate_callee (f := 46) rfl ?_); refine gL_ (some 14) Try.func46 #[.slice A0 l0.length c0] ?_; (with_reducible refine (spec_l1New.calls k _ _ l0 t417 t418 t419 w _ ?side1 ?side2 ?side3 A2.out).mono ?_); (case side1 => exact bq_ HB); (case side2 => exact HR0.out); (case side3 => exact HC0.out); rintro e w13 ⟨g420, rfl, hi, hb, hb2⟩; refine ⟨_, rfl, ?_⟩; replace HB := Aside0.mk (hb); have HI420 := Aside0.mk (hi); have NB420_415 := Aside0.mk (IsS64.ne_blk hi (blk_below (be_ BK415.out) hb2) (by decide)); have NB415_420 := Aside0.mk (Ne.symm (IsS64.ne_blk hi (blk_below (be_ BK415.out) hb2) (by decide))); replace BK415 := Aside0.mk (blk_below (be_ BK415.out) hb2); have NB420_416 := Aside0.mk (IsS64.ne_blk hi (blk_below (be_ BK416.out) hb2) (by decide)); have NB416_420 := Aside0.mk (Ne.symm (IsS64.ne_blk hi (blk_below (be_ BK416.out) hb2) (by decide))); replace BK416 := Aside0.mk (blk_below (be_ BK416.out) hb2); (try clear hb); (try clear hb2); (try clear hi)) | ((with_reducible refine gate_dst (N := 17) rfl ?_); refine Kd.R_lit Kd.string _ 9 ?hg (N := 17) ?hd (xs := ([(⟨#[60, 49, 62]⟩ : ByteArray), (⟨#[60, 50, 44, 51, 62]⟩ : ByteArray), (⟨#[60, 51, 44, 52, 62]⟩ : ByteArray), (⟨#[60, 50, 44, 53, 62]⟩ : ByteArray), (⟨#[60, 51, 44, 52, 44, 53, 62]⟩ : ByteArray)] : List ByteArray)) (inner := [.string (⟨#[60, 49, 62]⟩ : ByteArray), .string (⟨#[60, 50, 44, 51, 62]⟩ : ByteArray), .string (⟨#[60, 51, 44, 52, 62]⟩ : ByteArray), .string (⟨#[60, 50, 44, 53, 62]⟩ : ByteArray), .string (⟨#[60, 51, 44, 52, 44, 53, 62]⟩ : ByteArray)]) (ok := fun _ => True) (okp := fun _ => True) ?hr ?hp (fun _ hk => hk) trivial (Below.refl _ _) (Nat.le_refl _) (by simp) ?_; (case hd => rfl); (case hg => rfl); (case hr => first | (go_simp; done) | (go_simp; rfl)); (case hp => exact (Reps.one (show Kd.M Kd.string _ _ _ (⟨#[60, 49, 62]⟩ : ByteArray) [.string (⟨#[60, 49, 62]⟩ : ByteArray)] from rfl) (Reps.one (show Kd.M Kd.string _ _ _ (⟨#[60, 50, 44, 51, 62]⟩ : ByteArray) [.string (⟨#[60, 50, 44, 51, 62]⟩ : ByteArray)] from rfl) (Reps.one (show Kd.M Kd.string _ _ _ (⟨#[60, 51, 44, 52, 62]⟩ : ByteArray) [.string (⟨#[60, 51, 44, 52, 62]⟩ : ByteArray)] from rfl) (Reps.one (show Kd.M Kd.string _ _ _ (⟨#[60, 50, 44, 53, 62]⟩ : ByteArray) [.string (⟨#[60, 50, 44, 53, 62]⟩ : ByteArray)] from rfl) (Reps.one (show Kd.M Kd.string _ _ _ (⟨#[60, 51, 44, 52, 44, 53, 62]⟩ : ByteArray) [.string (⟨#[60, 51, 44, 52, 44, 53, 62]⟩ : ByteArray)] from rfl) (Reps.none _ _))))))); intro v422 w14 ho15 hb hg_ hnew_; clear hg_ hnew_; (first | rw [← Ny421.out] at ho15 | (simp only [Int.reduceToNat] at ho15; rw [← Ny421.out] at ho15)); have HO423 := Aside0.mk (Kd.R_lower ho15 (below_size (bi_ HB (IsS64.ge HI420.out)))); replace BK415 := bk_ BK415 hb; replace BK416 := bk_ BK416 hb; replace HB := Aside0.mk (below_step (bi_ HB (IsS64.ge HI420.out)) hb); replace HI420 := Aside0.mk (IsS64.below (IsS64.q_ HI420) hb); clear hb ho15; obtain ⟨Ao16, co16, eo16⟩ := Kd.R_slice HO423.out; subst eo16) | ((with_reducible refine gate_callee (f := 48) rfl ?_); refine gL_ (some 18) Try.func48 #[.pointer (some ⟨g420, 0, none⟩), .slice Ao16 y421.length co16] ?_; (with_reducible refine (spec_l1Pick.calls g420 t417 t418 t419 _ _ y421 t424 t425 t426 w _ ?side1 ?side2 ?side3 ?side4 ?side5 A3.out).mono ?_); (case side1 => exact IsS64.q_ HI420); (case side2 => exact bi_ HB (IsS64.ge HI420.out)); (case side3 => exact ce_ ((Kd.R_reads' HO423.out).2.2)); (case side4 => exact (Kd.R_reads' HO423.out).2.1); (case side5 => exact far_slice (IsS64.own_ne HI420.out HO423.out (by decide))); rintro e w17 ⟨rfl, hi, hb, hk⟩; refine ⟨_, rfl, ?_⟩; replace BK415 := Aside0.mk (KeepBut.blk hk (g' := gb415) (o := .cells #[.slice none 0 0] 26 (0, 0)) (be_ BK415.out) NB415_420.out (by simp)); replace BK416 := Aside0.mk (KeepBut.blk hk (g' := gb416) (o := .cells #[.slice none 0 0] 26 (0, 0)) (be_ BK416.out) NB416_420.out (by simp)); replace HO423 := Aside0.mk (Kd.R_mono (Kd.R_keep (IsS64.apart (show IsS64 w _ g420 t417 t418 t419 from IsS64.q_ HI420) (re_ HO423.out) (by decide)) hk (fun _ h => h.2)) (fun _ h => h.1)); replace HB := Aside0.mk (hb); replace HI420 := Aside0.mk (hi); (try clear hb); (try clear hk); (try clear hi)) | ((with_reducible refine gate_callee (f := 47) rfl ?_); refine gL_ (some 19) Try.func47 #[.string t424] ?_; (with_reducible refine (spec_ParseSemigroup.calls k t424 t427 t430 _ A4.out).mono ?_); rintro e w18 ⟨v428, rfl, ho0, hb⟩; refine ⟨_, rfl, ?_⟩; replace HO423 := Aside0.mk (Kd.R_below (re_ HO423.out) hb); have HO429 := Aside0.mk (Kd.R_lower ho0 (below_size (bi_ HB (IsS64.ge HI420.out)))); replace BK415 := bk_ BK415 hb; replace BK416 := bk_ BK416 hb; replace HB := Aside0.mk (below_step (bi_ HB (IsS64.ge HI420.out)) hb); replace HI420 := Aside0.mk (IsS64.below (IsS64.q_ HI420) hb); (try clear hb); (try clear ho0)) | ((with_reducible refine gate_dst (N := 7) rfl ?_); refine bx_ 7 #[.slice none 0 0] 26 ?_; intro gb431 hg w19 hbox hb; replace HO423 := Aside0.mk (Kd.R_below (re_ HO423.out) hb); replace HO429 := Aside0.mk (Kd.R_below (re_ HO429.out) hb); have BK431 := Aside0.mk (hbox); have GW431 := gq_ hg (bi_ HB (IsS64.ge HI420.out)); have GE431 := gq_ hg (bi_ HB (IsS64.ge HI420.out)); replace HB := Aside0.mk (below_step (bi_ HB (IsS64.ge HI420.out)) hb); have NB415_431 := nl_ hg BK415; have NB431_415 := ng_ hg BK415; replace BK415 := bk_ BK415 hb; have NB416_431 := nl_ hg BK416; have NB431_416 := ng_ hg BK416; replace BK416 := bk_ BK416 hb; have NB420_431 := Aside0.mk ((by rw [hg]; exact Nat.ne_of_lt (IsS64.lt (show IsS64 w _ g420 t417 t425 t426 from IsS64.q_ HI420)) : g420 ≠ gb431)); have NB431_420 := Aside0.mk ((by rw [hg]; exact Nat.ne_of_gt (IsS64.lt (show IsS64 w _ g420 t417 t425 t426 from IsS64.q_ HI420)) : gb431 ≠ g420)); replace HI420 := Aside0.mk (IsS64.below (IsS64.q_ HI420) hb); clear hb hbox hg; obtain ⟨Ao20, co20, eo20⟩ := Kd.R_slice HO429.out; subst eo20; have hnb21 := NB431_415.out; have hnc21 := NB415_431.out; have hnb22 := NB431_416.out; have hnc22 := NB416_431.out; have hnb23 := NB431_420.out; have hnc23 := NB420_431.out; have hcz24_0 := cz_ BK431; have hfz24_0 := blk_frozen BK431.out 0) | ((with_reducible refine gate_dst (N := 24) rfl ?_); refine Kd.R_lit Kd.string _ 9 ?hg (N := 24) ?hd (xs := ([(⟨#[60, 49, 62]⟩ : ByteArray), (⟨#[60, 50, 44, 51, 62]⟩ : ByteArray), (⟨#[60, 49, 62]⟩ : ByteArray), (⟨#[60, 50, 44, 53, 62]⟩ : ByteArray)] : List ByteArray)) (inner := [.string (⟨#[60, 49, 62]⟩ : ByteArray), .string (⟨#[60, 50, 44, 51, 62]⟩ : ByteArray), .string (⟨#[60, 49, 62]⟩ : ByteArray), .string (⟨#[60, 50, 44, 53, 62]⟩ : ByteArray)]) (ok := fun _ => True) (okp := fun _ => True) ?hr ?hp (fun _ hk => hk) trivial (Below.refl _ _) (Nat.le_refl _) (by simp) ?_; (case hd => rfl); (case hg => rfl); (case hr => first | (go_simp; done) | (go_simp; rfl)); (case hp => exact (Reps.one (show Kd.M Kd.string _ _ _ (⟨#[60, 49, 62]⟩ : ByteArray) [.string (⟨#[60, 49, 62]⟩ : ByteArray)] from rfl) (Reps.one (show Kd.M Kd.string _ _ _ (⟨#[60, 50, 44, 51, 62]⟩ : ByteArray) [.string (⟨#[60, 50, 44, 51, 62]⟩ : ByteArray)] from rfl) (Reps.one (show Kd.M Kd.string _ _ _ (⟨#[60, 49, 62]⟩ : ByteArray) [.string (⟨#[60, 49, 62]⟩ : ByteArray)] from rfl) (Reps.one (show Kd.M Kd.string _ _ _ (⟨#[60, 50, 44, 53, 62]⟩ : ByteArray) [.string (⟨#[60, 50, 44, 53, 62]⟩ : ByteArray)] from rfl) (Reps.none _ _)))))); intro v433 w25 ho26 hb hg_ hnew_; clear hg_ hnew_; (first | rw [← Ny432.out] at ho26 | (simp only [Int.reduceToNat] at ho26; rw [← Ny432.out] at ho26)); replace HO429 := Aside0.mk (Kd.R_below (by (with_reducible repeat (first | apply Kd.R_alloc | apply Kd.R_drewN | apply Kd.R_drew)); exact (Kd.R_mono (Kd.R_far (p := ⟨gb431, 0, none⟩) (Kd.R_types HO429.out BK431.out (by decide)) (fun _ hk => hk.2) (.slice Ao20 t427.length co20)) (fun _ h_ => h_.1))) hb); have HO434 := Aside0.mk (Kd.R_lower (Kd.R_new' ho26 (Kd.R_lt (by (with_reducible repeat (first | apply Kd.R_alloc | apply Kd.R_drewN | apply Kd.R_drew)); exact (Kd.R_mono (Kd.R_far (p := ⟨gb431, 0, none⟩) (Kd.R_types HO423.out BK431.out (by decide)) (fun _ hk => hk.2) (.slice Ao20 t427.length co20)) (fun _ h_ => h_.1))))) (below_size (bi_ HB (IsS64.ge HI420.out)))); replace HO423 := Aside0.mk (Kd.R_elder' (by (with_reducible repeat (first | apply Kd.R_alloc | apply Kd.R_drewN | apply Kd.R_drew)); exact (Kd.R_mono (Kd.R_far (p := ⟨gb431, 0, none⟩) (Kd.R_types HO423.out BK431.out (by decide)) (fun _ hk => hk.2) (.slice Ao20 t427.length co20)) (fun _ h_ => h_.1))) (Kd.R_base ho26) hb); replace BK415 := Aside0.mk (blk_below (g := gb415) (o := .cells #[.slice none 0 0] 26 (0, 0)) (by (with_reducible repeat (first | refine blk_drewN ?_ _ | refine blk_drew ?_ | refine blk_alloc ?_ _)); refine blk_far ?_ NB415_431.out _; (with_reducible repeat (first | refine blk_drewN ?_ _ | refine blk_drew ?_ | refine blk_alloc ?_ _)); exact BK415.out) hb); replace BK416 := Aside0.mk (blk_below (g := gb416) (o := .cells #[.slice none 0 0] 26 (0, 0)) (by (with_reducible repeat (first | refine blk_drewN ?_ _ | refine blk_drew ?_ | refine blk_alloc ?_ _)); refine blk_far ?_ NB416_431.out _; (with_reducible repeat (first | refine blk_drewN ?_ _ | refine blk_drew ?_ | refine blk_alloc ?_ _)); exact BK416.out) hb); replace BK431 := Aside0.mk (blk_below (g := gb431) (o := .cells #[.slice Ao20 t427.length co20] 26 (0, 0)) (by (with_reducible repeat (first | refine blk_drewN ?_ _ | refine blk_drew ?_ | refine blk_alloc ?_ _)); refine blk_put (cs := #[.slice none 0 0]) ?_ 0 _ rfl; (with_reducible repeat (first | refine blk_drewN ?_ _ | refine blk_drew ?_ | refine blk_alloc ?_ _)); exact BK431.out) hb); replace HB := Aside0.mk (below_step (bi_ HB (IsS64.ge HI420.out)) hb); replace HI420 := Aside0.mk (IsS64.below (show IsS64 w (w19.setCell ⟨gb431, 0, none⟩ (.slice Ao20 t427.length co20)) g420 t417 t425 t426 from IsS64.q_ HI420) hb); clear hb ho26; obtain ⟨Ao27, co27, eo27⟩ := Kd.R_slice HO434.out; subst eo27) | ((with_reducible refine gate_callee (f := 48) rfl ?_); refine gL_ (some 25) Try.func48 #[.pointer (some ⟨g420, 0, none⟩), .slice Ao27 y432.length co27] ?_; (with_reducible refine (spec_l1Pick.calls g420 t417 t425 t426 _ _ y432 t435 t436 t437 w _ ?side1 ?side2 ?side3 ?side4 ?side5 A5.out).mono ?_); (case side1 => exact IsS64.q_ HI420); (case side2 => exact bi_ HB (IsS64.ge HI420.out)); (case side3 => exact ce_ ((Kd.R_reads' HO434.out).2.2)); (case side4 => exact (Kd.R_reads' HO434.out).2.1); (case side5 => exact far_slice (IsS64.own_ne HI420.out HO434.out (by decide))); rintro e w28 ⟨rfl, hi, hb, hk⟩; refine ⟨_, rfl, ?_⟩; replace BK415 := Aside0.mk (KeepBut.blk hk (g' := gb415) (o := .cells #[.slice none 0 0] 26 (0, 0)) (be_ BK415.out) NB415_420.out (by simp)); replace BK416 := Aside0.mk (KeepBut.blk hk (g' := gb416) (o := .cells #[.slice none 0 0] 26 (0, 0)) (be_ BK416.out) NB416_420.out (by simp)); replace HO423 := Aside0.mk (Kd.R_mono (Kd.R_keep (IsS64.apart (show IsS64 w _ g420 t417 t425 t426 from IsS64.q_ HI420) (re_ HO423.out) (by decide)) hk (fun _ h => h.2)) (fun _ h => h.1)); replace HO429 := Aside0.mk (Kd.R_mono (Kd.R_keep (IsS64.apart (show IsS64 w _ g420 t417 t425 t426 from IsS64.q_ HI420) (re_ HO429.out) (by decide)) hk (fun _ h => h.2)) (fun _ h => h.1)); replace BK431 := Aside0.mk (KeepBut.blk hk (g' := gb431) (o := .cells #[.slice Ao20 t427.length co20] 26 (0, 0)) (be_ BK431.out) NB431_420.out (by simp)); replace HO434 := Aside0.mk (Kd.R_mono (Kd.R_keep (IsS64.apart (show IsS64 w _ g420 t417 t425 t426 from IsS64.q_ HI420) (re_ HO434.out) (by decide)) hk (fun _ h => h.2)) (fun _ h => h.1)); replace HB := Aside0.mk (hb); replace HI420 := Aside0.mk (hi); (try clear hb); (try clear hk); (try clear hi)) | ((with_reducible refine gate_callee (f := 47) rfl ?_); refine gL_ (some 26) Try.func47 #[.string t435] ?_; (with_reducible refine (spec_ParseSemigroup.calls k t435 t438 t441 _ A6.out).mono ?_); rintro e w29 ⟨v439, rfl, ho0, hb⟩; refine ⟨_, rfl, ?_⟩; replace HO423 := Aside0.mk (Kd.R_below (re_ HO423.out) hb); replace HO434 := Aside0.mk (Kd.R_below (re_ HO434.out) hb); have HO440 := Aside0.mk (Kd.R_lower (Kd.R_new' ho0 (Kd.R_lt (re_ HO429.out))) (below_size (bi_ HB (IsS64.ge HI420.out)))); replace HO429 := Aside0.mk (Kd.R_elder' (re_ HO429.out) (Kd.R_base ho0) hb); replace BK415 := bk_ BK415 hb; replace BK416 := bk_ BK416 hb; replace BK431 := bk_ BK431 hb; replace HB := Aside0.mk (below_step (bi_ HB (IsS64.ge HI420.out)) hb); replace HI420 := Aside0.mk (IsS64.below (IsS64.q_ HI420) hb); (try clear hb); (try clear ho0)) | ((with_reducible refine gate_dst (N := 9) rfl ?_); refine bx_ 9 #[.slice none 0 0] 26 ?_; intro gb442 hg w30 hbox hb; replace HO423 := Aside0.mk (Kd.R_below (re_ HO423.out) hb); replace HO429 := Aside0.mk (Kd.R_below (re_ HO429.out) hb); replace HO434 := Aside0.mk (Kd.R_below (re_ HO434.out) hb); replace HO440 := Aside0.mk (Kd.R_below (re_ HO440.out) hb); have BK442 := Aside0.mk (hbox); have GW442 := gq_ hg (bi_ HB (IsS64.ge HI420.out)); have GE442 := gq_ hg (bi_ HB (IsS64.ge HI420.out)); replace HB := Aside0.mk (below_step (bi_ HB (IsS64.ge HI420.out)) hb); have NB415_442 := nl_ hg BK415; have NB442_415 := ng_ hg BK415; replace BK415 := bk_ BK415 hb; have NB416_442 := nl_ hg BK416; have NB442_416 := ng_ hg BK416; replace BK416 := bk_ BK416 hb; have NB431_442 := nl_ hg BK431; have NB442_431 := ng_ hg BK431; replace BK431 := bk_ BK431 hb; have NB420_442 := Aside0.mk ((by rw [hg]; exact Nat.ne_of_lt (IsS64.lt (show IsS64 w _ g420 t417 t436 t437 from IsS64.q_ HI420)) : g420 ≠ gb442)); have NB442_420 := Aside0.mk ((by rw [hg]; exact Nat.ne_of_gt (IsS64.lt (show IsS64 w _ g420 t417 t436 t437 from IsS64.q_ HI420)) : gb442 ≠ g420)); replace HI420 := Aside0.mk (IsS64.below (IsS64.q_ HI420) hb); clear hb hbox hg; obtain ⟨Ao31, co31, eo31⟩ := Kd.R_slice HO440.out; subst eo31; have hnb32 := NB442_415.out; have hnc32 := NB415_442.out; have hnb33 := NB442_416.out; have hnc33 := NB416_442.out; have hnb34 := NB442_431.out; have hnc34 := NB431_442.out; have hnb35 := NB442_420.out; have hnc35 := NB420_442.out; have hcz36_0 := cz_ BK442; have hfz36_0 := blk_frozen BK442.out 0) | ((with_reducible refine gate_callee (f := 49) rfl ?_); refine gL_ (some 30) Try.func49 #[.pointer (some ⟨g420, 0, none⟩), .int .i64 10] ?_; (with_reducible refine (spec_l1Below.calls g420 t417 t436 t437 10 t443 t444 t445 w _ ?side1 ?side2 A7.out).mono ?_); (case side1 => exact IsS64.q_ HI420); (case side2 => exact bi_ HB (IsS64.ge HI420.out)); rintro e w37 ⟨rfl, hi, hb, hk⟩; refine ⟨_, rfl, ?_⟩; replace BK415 := Aside0.mk (KeepBut.blk hk (g' := gb415) (o := .cells #[.slice none 0 0] 26 (0, 0)) (by (with_reducible repeat (first | refine blk_drewN ?_ _ | refine blk_drew ?_ | refine blk_alloc ?_ _)); refine blk_far ?_ NB415_442.out _; (with_reducible repeat (first | refine blk_drewN ?_ _ | refine blk_drew ?_ | refine blk_alloc ?_ _)); exact BK415.out) NB415_420.out (by simp)); replace BK416 := Aside0.mk (KeepBut.blk hk (g' := gb416) (o := .cells #[.slice none 0 0] 26 (0, 0)) (by (with_reducible repeat (first | refine blk_drewN ?_ _ | refine blk_drew ?_ | refine blk_alloc ?_ _)); refine blk_far ?_ NB416_442.out _; (with_reducible repeat (first | refine blk_drewN ?_ _ | refine blk_drew ?_ | refine blk_alloc ?_ _)); exact BK416.out) NB416_420.out (by simp)); replace HO423 := Aside0.mk (Kd.R_mono (Kd.R_keep (IsS64.apart (show IsS64 w _ g420 t417 t436 t437 from IsS64.q_ HI420) (by (with_reducible repeat (first | apply Kd.R_alloc | apply Kd.R_drewN | apply Kd.R_drew)); exact (Kd.R_mono (Kd.R_far (p := ⟨gb442, 0, none⟩) (Kd.R_types HO423.out BK442.out (by decide)) (fun _ hk => hk.2) (.slice Ao31 t438.length co31)) (fun _ h_ => h_.1))) (by decide)) hk (fun _ h => h.2)) (fun _ h => h.1)); replace HO429 := Aside0.mk (Kd.R_mono (Kd.R_keep (IsS64.apart (show IsS64 w _ g420 t417 t436 t437 from IsS64.q_ HI420) (by (with_reducible repeat (first | apply Kd.R_alloc | apply Kd.R_drewN | apply Kd.R_drew)); exact (Kd.R_mono (Kd.R_far (p := ⟨gb442, 0, none⟩) (Kd.R_types HO429.out BK442.out (by decide)) (fun _ hk => hk.2) (.slice Ao31 t438.length co31)) (fun _ h_ => h_.1))) (by decide)) hk (fun _ h => h.2)) (fun _ h => h.1)); replace BK431 := Aside0.mk (KeepBut.blk hk (g' := gb431) (o := .cells #[.slice Ao20 t427.length co20] 26 (0, 0)) (by (with_reducible repeat (first | refine blk_drewN ?_ _ | refine blk_drew ?_ | refine blk_alloc ?_ _)); refine blk_far ?_ NB431_442.out _; (with_reducible repeat (first | refine blk_drewN ?_ _ | refine blk_drew ?_ | refine blk_alloc ?_ _)); exact BK431.out) NB431_420.out (by simp)); replace HO434 := Aside0.mk (Kd.R_mono (Kd.R_keep (IsS64.apart (show IsS64 w _ g420 t417 t436 t437 from IsS64.q_ HI420) (by (with_reducible repeat (first | apply Kd.R_alloc | apply Kd.R_drewN | apply Kd.R_drew)); exact (Kd.R_mono (Kd.R_far (p := ⟨gb442, 0, none⟩) (Kd.R_types HO434.out BK442.out (by decide)) (fun _ hk => hk.2) (.slice Ao31 t438.length co31)) (fun _ h_ => h_.1))) (by decide)) hk (fun _ h => h.2)) (fun _ h => h.1)); replace HO440 := Aside0.mk (Kd.R_mono (Kd.R_keep (IsS64.apart (show IsS64 w _ g420 t417 t436 t437 from IsS64.q_ HI420) (by (with_reducible repeat (first | apply Kd.R_alloc | apply Kd.R_drewN | apply Kd.R_drew)); exact (Kd.R_mono (Kd.R_far (p := ⟨gb442, 0, none⟩) (Kd.R_types HO440.out BK442.out (by decide)) (fun _ hk => hk.2) (.slice Ao31 t438.length co31)) (fun _ h_ => h_.1))) (by decide)) hk (fun _ h => h.2)) (fun _ h => h.1)); replace BK442 := Aside0.mk (KeepBut.blk hk (g' := gb442) (o := .cells #[.slice Ao31 t438.length co31] 26 (0, 0)) (by (with_reducible repeat (first | refine blk_drewN ?_ _ | refine blk_drew ?_ | refine blk_alloc ?_ _)); refine blk_put (cs := #[.slice none 0 0]) ?_ 0 _ rfl; (with_reducible repeat (first | refine blk_drewN ?_ _ | refine blk_drew ?_ | refine blk_alloc ?_ _)); exact BK442.out) NB442_420.out (by simp)); replace HB := Aside0.mk (hb); replace HI420 := Aside0.mk (hi); (try clear hb); (try clear hk); (try clear hi)) | ((with_reducible refine gate_callee (f := 49) rfl ?_); refine gL_ (some 33) Try.func49 #[.pointer (some ⟨g420, 0, none⟩), .int .i64 10] ?_; (with_reducible refine (spec_l1Below.calls g420 t417 t444 t445 10 t446 t447 t448 w _ ?side1 ?side2 A8.out).mono ?_); (case side1 => exact IsS64.q_ HI420); (case side2 => exact bi_ HB (IsS64.ge HI420.out)); rintro e w38 ⟨rfl, hi, hb, hk⟩; refine ⟨_, rfl, ?_⟩; replace BK415 := Aside0.mk (KeepBut.blk hk (g' := gb415) (o := .cells #[.slice none 0 0] 26 (0, 0)) (be_ BK415.out) NB415_420.out (by simp)); replace BK416 := Aside0.mk (KeepBut.blk hk (g' := gb416) (o := .cells #[.slice none 0 0] 26 (0, 0)) (be_ BK416.out) NB416_420.out (by simp)); replace HO423 := Aside0.mk (Kd.R_mono (Kd.R_keep (IsS64.apart (show IsS64 w _ g420 t417 t444 t445 from IsS64.q_ HI420) (re_ HO423.out) (by decide)) hk (fun _ h => h.2)) (fun _ h => h.1)); replace HO429 := Aside0.mk (Kd.R_mono (Kd.R_keep (IsS64.apart (show IsS64 w _ g420 t417 t444 t445 from IsS64.q_ HI420) (re_ HO429.out) (by decide)) hk (fun _ h => h.2)) (fun _ h => h.1)); replace BK431 := Aside0.mk (KeepBut.blk hk (g' := gb431) (o := .cells #[.slice Ao20 t427.length co20] 26 (0, 0)) (be_ BK431.out) NB431_420.out (by simp)); replace HO434 := Aside0.mk (Kd.R_mono (Kd.R_keep (IsS64.apart (show IsS64 w _ g420 t417 t444 t445 from IsS64.q_ HI420) (re_ HO434.out) (by decide)) hk (fun _ h => h.2)) (fun _ h => h.1)); replace HO440 := Aside0.mk (Kd.R_mono (Kd.R_keep (IsS64.apart (show IsS64 w _ g420 t417 t444 t445 from IsS64.q_ HI420) (re_ HO440.out) (by decide)) hk (fun _ h => h.2)) (fun _ h => h.1)); replace BK442 := Aside0.mk (KeepBut.blk hk (g' := gb442) (o := .cells #[.slice Ao31 t438.length co31] 26 (0, 0)) (be_ BK442.out) NB442_420.out (by simp)); replace HB := Aside0.mk (hb); replace HI420 := Aside0.mk (hi); (try clear hb); (try clear hk); (try clear hi)) | ((with_reducible refine gate_callee (f := 50) rfl ?_); refine gL_ (some 36) Try.func50 #[.pointer (some ⟨g420, 0, none⟩), .int .i64 12] ?_; (with_reducible refine (spec_l1Once.calls g420 t417 t447 t448 12 t449 t450 t451 w _ ?side1 ?side2 A9.out).mono ?_); (case side1 => exact IsS64.q_ HI420); (case side2 => exact bi_ HB (IsS64.ge HI420.out)); rintro e w39 ⟨rfl, hi, hb, hk⟩; refine ⟨_, rfl, ?_⟩; replace BK415 := Aside0.mk (KeepBut.blk hk (g' := gb415) (o := .cells #[.slice none 0 0] 26 (0, 0)) (be_ BK415.out) NB415_420.out (by simp)); replace BK416 := Aside0.mk (KeepBut.blk hk (g' := gb416) (o := .cells #[.slice none 0 0] 26 (0, 0)) (be_ BK416.out) NB416_420.out (by simp)); replace HO423 := Aside0.mk (Kd.R_mono (Kd.R_keep (IsS64.apart (show IsS64 w _ g420 t417 t447 t448 from IsS64.q_ HI420) (re_ HO423.out) (by decide)) hk (fun _ h => h.2)) (fun _ h => h.1)); replace HO429 := Aside0.mk (Kd.R_mono (Kd.R_keep (IsS64.apart (show IsS64 w _ g420 t417 t447 t448 from IsS64.q_ HI420) (re_ HO429.out) (by decide)) hk (fun _ h => h.2)) (fun _ h => h.1)); replace BK431 := Aside0.mk (KeepBut.blk hk (g' := gb431) (o := .cells #[.slice Ao20 t427.length co20] 26 (0, 0)) (be_ BK431.out) NB431_420.out (by simp)); replace HO434 := Aside0.mk (Kd.R_mono (Kd.R_keep (IsS64.apart (show IsS64 w _ g420 t417 t447 t448 from IsS64.q_ HI420) (re_ HO434.out) (by decide)) hk (fun _ h => h.2)) (fun _ h => h.1)); replace HO440 := Aside0.mk (Kd.R_mono (Kd.R_keep (IsS64.apart (show IsS64 w _ g420 t417 t447 t448 from IsS64.q_ HI420) (re_ HO440.out) (by decide)) hk (fun _ h => h.2)) (fun _ h => h.1)); replace BK442 := Aside0.mk (KeepBut.blk hk (g' := gb442) (o := .cells #[.slice Ao31 t438.length co31] 26 (0, 0)) (be_ BK442.out) NB442_420.out (by simp)); replace HB := Aside0.mk (hb); replace HI420 := Aside0.mk (hi); (try clear hb); (try clear hk); (try clear hi)))
 (try simp only [Act.put, z1_, z2_, z3_])
 go_cut [11] (fun v11 wc => ∃ (kq : Nat) (x11_9 : Int) (x421001_9 : Int) (x421002_9 : Int), v11 = .int .i64 x11_9 ∧ Aside0 (spec_l22Case.j0 kq x11_9 (wrap64 (2 + t446)) t417 x421001_9 x421002_9 t427 t438 = some (r1, r2, r3, r4)) ∧ Aside0 (kq ≤ k) ∧ Aside0 (Kd.Q (Kd.int .i64) 3 wc w.heap.size (fun k_ => some k_ ≠ ((.slice Ao31 t438.length co31) : Value).ownBlock) (.slice Ao20 t427.length co20) t427) ∧ Aside0 (Kd.Q (Kd.int .i64) 3 wc w.heap.size (fun k_ => some k_ ≠ ((.slice Ao20 t427.length co20) : Value).ownBlock) (.slice Ao31 t438.length co31) t438) ∧ Aside0 (wc.heap[gb415]? = some (.cells #[(.slice none 0 0)] 26 (0, 0))) ∧ Aside0 (wc.heap[gb416]? = some (.cells #[(.slice none 0 0)] 26 (0, 0))) ∧ Aside0 (wc.heap[gb431]? = some (.cells #[(.slice Ao20 t427.length co20)] 26 (0, 0))) ∧ Aside0 (wc.heap[gb442]? = some (.cells #[(.slice Ao31 t438.length co31)] 26 (0, 0))) ∧ Aside0 (IsS64 w wc g420 t417 x421001_9 x421002_9) ∧ Aside0 (Below w.heap.size w wc))
 case first =>
  have H := HC10.out
  clear HC10
  by_cases c40 : t449 = true
  rotate_left
  · replace c40 := Bool.eq_false_iff.mpr c40
    subst c40
    rw [if_neg (show ¬ (false = true) by decide)] at H
    have H' := Aside0.mk H
    clear H
    go_wp2
    go_meet
    case rel => exact ⟨_, (wrap64 (2 + t443)), (t450), (t451), rs_, H', ⟨by first | omega | exact Nat.le_refl _⟩, ⟨Kd.Q_of_R (by (with_reducible repeat (first | apply Kd.R_alloc | apply Kd.R_drewN | apply Kd.R_drew)); exact Kd.R_mono HO429.out (fun _ hk => hk.2))⟩, ⟨Kd.Q_of_R (by (with_reducible repeat (first | apply Kd.R_alloc | apply Kd.R_drewN | apply Kd.R_drew)); exact Kd.R_mono HO440.out (fun _ hk => hk.2))⟩, ⟨be_ BK415.out⟩, ⟨be_ BK416.out⟩, ⟨be_ BK431.out⟩, ⟨be_ BK442.out⟩, ⟨IsS64.q_ HI420⟩, ⟨bi_ HB (IsS64.ge HI420.out)⟩⟩
  subst c40
  rw [if_pos rfl] at H
  obtain ⟨y452, hy452⟩ : ∃ y_ : List Int, y_ = (([0, 61, (-1), 1] : List Int)) := ⟨_, rfl⟩
  replace H : ((spec_l1PickInt.f t417 t450 t451 y452).bind fun bt455 => (spec_l22Case.j0 k bt455.1 (wrap64 (2 + t446)) t417 bt455.2.1 bt455.2.2 t427 t438)) = some (r1, r2, r3, r4) := by subst hy452; exact H
  have Ny452 := Aside0.mk hy452
  clear hy452
  obtain ⟨⟨t455, t456, t457⟩, A41, H⟩ := ob_ H
  (try dsimp only at H)
  have H' := Aside0.mk H
  clear H
  go_wp2_with (first | ((with_reducible refine gate_dst (N := 38) rfl ?_); refine Kd.R_lit (Kd.int .i64) _ 3 ?hg (N := 38) ?hd (xs := ([0, 61, (-1), 1] : List Int)) (inner := [.int .i64 0, .int .i64 61, .int .i64 (-1), .int .i64 1]) (ok := fun _ => True) (okp := fun _ => True) ?hr ?hp (fun _ hk => hk) trivial (Below.refl _ _) (Nat.le_refl _) (by simp) ?_; (case hd => rfl); (case hg => rfl); (case hr => first | (go_simp; done) | (go_simp; rfl)); (case hp => exact (Reps.one (show Kd.M (Kd.int .i64) _ _ _ 0 [.int .i64 0] from rfl) (Reps.one (show Kd.M (Kd.int .i64) _ _ _ 61 [.int .i64 61] from rfl) (Reps.one (show Kd.M (Kd.int .i64) _ _ _ (-1) [.int .i64 (-1)] from rfl) (Reps.one (show Kd.M (Kd.int .i64) _ _ _ 1 [.int .i64 1] from rfl) (Reps.none _ _)))))); intro v453 w42 ho43 hb hg_ hnew_; clear hg_ hnew_; (first | rw [← Ny452.out] at ho43 | (simp only [Int.reduceToNat] at ho43; rw [← Ny452.out] at ho43)); replace HO423 := Aside0.mk (Kd.R_below (re_ HO423.out) hb); replace HO434 := Aside0.mk (Kd.R_below (re_ HO434.out) hb); have HO454 := Aside0.mk (Kd.R_lower (Kd.R_new' (Kd.R_new' ho43 (Kd.R_lt (re_ HO429.out))) (Kd.R_lt (re_ HO440.out))) (below_size (bi_ HB (IsS64.ge HI420.out)))); replace HO429 := Aside0.mk (Kd.R_elder' (re_ HO429.out) (Kd.R_base ho43) hb); replace HO440 := Aside0.mk (Kd.R_elder' (re_ HO440.out) (Kd.R_base ho43) hb); replace BK415 := bk_ BK415 hb; replace BK416 := bk_ BK416 hb; replace BK431 := bk_ BK431 hb; replace BK442 := bk_ BK442 hb; replace HB := Aside0.mk (below_step (bi_ HB (IsS64.ge HI420.out)) hb); replace HI420 := Aside0.mk (IsS64.below (IsS64.q_ HI420) hb); clear hb ho43; obtain ⟨Ao44, co44, eo44⟩ := Kd.R_slice HO454.out; subst eo44) | ((with_reducible refine gate_callee (f := 51) rfl ?_); refine gL_ (some 39) Try.func51 #[.pointer (some ⟨g420, 0, none⟩), .slice Ao44 y452.length co44] ?_; (with_reducible refine (spec_l1PickInt.calls g420 t417 t450 t451 _ _ y452 t455 t456 t457 w _ ?side1 ?side2 ?side3 ?side4 ?side5 A41.out).mono ?_); (case side1 => exact IsS64.q_ HI420); (case side2 => exact bi_ HB (IsS64.ge HI420.out)); (case side3 => exact ce_ ((Kd.R_reads' HO454.out).2.2)); (case side4 => exact (Kd.R_reads' HO454.out).2.1); (case side5 => exact far_slice (IsS64.own_ne HI420.out HO454.out (by decide))); rintro e w45 ⟨rfl, hi, hb, hk⟩; refine ⟨_, rfl, ?_⟩; replace BK415 := Aside0.mk (KeepBut.blk hk (g' := gb415) (o := .cells #[.slice none 0 0] 26 (0, 0)) (be_ BK415.out) NB415_420.out (by simp)); replace BK416 := Aside0.mk (KeepBut.blk hk (g' := gb416) (o := .cells #[.slice none 0 0] 26 (0, 0)) (be_ BK416.out) NB416_420.out (by simp)); replace HO423 := Aside0.mk (Kd.R_mono (Kd.R_keep (IsS64.apart (show IsS64 w _ g420 t417 t450 t451 from IsS64.q_ HI420) (re_ HO423.out) (by decide)) hk (fun _ h => h.2)) (fun _ h => h.1)); replace HO429 := Aside0.mk (Kd.R_mono (Kd.R_keep (IsS64.apart (show IsS64 w _ g420 t417 t450 t451 from IsS64.q_ HI420) (re_ HO429.out) (by decide)) hk (fun _ h => h.2)) (fun _ h => h.1)); replace BK431 := Aside0.mk (KeepBut.blk hk (g' := gb431) (o := .cells #[.slice Ao20 t427.length co20] 26 (0, 0)) (be_ BK431.out) NB431_420.out (by simp)); replace HO434 := Aside0.mk (Kd.R_mono (Kd.R_keep (IsS64.apart (show IsS64 w _ g420 t417 t450 t451 from IsS64.q_ HI420) (re_ HO434.out) (by decide)) hk (fun _ h => h.2)) (fun _ h => h.1)); replace HO440 := Aside0.mk (Kd.R_mono (Kd.R_keep (IsS64.apart (show IsS64 w _ g420 t417 t450 t451 from IsS64.q_ HI420) (re_ HO440.out) (by decide)) hk (fun _ h => h.2)) (fun _ h => h.1)); replace BK442 := Aside0.mk (KeepBut.blk hk (g' := gb442) (o := .cells #[.slice Ao31 t438.length co31] 26 (0, 0)) (be_ BK442.out) NB442_420.out (by simp)); replace HO454 := Aside0.mk (Kd.R_mono (Kd.R_keep (IsS64.apart (show IsS64 w _ g420 t417 t450 t451 from IsS64.q_ HI420) (re_ HO454.out) (by decide)) hk (fun _ h => h.2)) (fun _ h => h.1)); replace HB := Aside0.mk (hb); replace HI420 := Aside0.mk (hi); (try clear hb); (try clear hk); (try clear hi)))
  go_meet
  case rel => exact ⟨_, (t455), (t456), (t457), rs_, H', ⟨by first | omega | exact Nat.le_refl _⟩, ⟨Kd.Q_of_R (by (with_reducible repeat (first | apply Kd.R_alloc | apply Kd.R_drewN | apply Kd.R_drew)); exact Kd.R_mono HO429.out (fun _ hk => hk.1.2))⟩, ⟨Kd.Q_of_R (by (with_reducible repeat (first | apply Kd.R_alloc | apply Kd.R_drewN | apply Kd.R_drew)); exact Kd.R_mono HO440.out (fun _ hk => hk.1.2))⟩, ⟨be_ BK415.out⟩, ⟨be_ BK416.out⟩, ⟨be_ BK431.out⟩, ⟨be_ BK442.out⟩, ⟨IsS64.q_ HI420⟩, ⟨bi_ HB (IsS64.ge HI420.out)⟩⟩
 case rest =>
  clear HC10
  try clear c1
  try clear c2
  try clear p2
  try clear c3
  try clear c4
  try clear c5
  try clear p6
  try clear c19
  try clear c21
  try clear c22
  try clear c23
  try clear c32
  try clear c33
  try clear c34
  try clear c35
  try clear c40
  try clear hcz24_0
  try clear hcz36_0
  try clear hfz24_0
  try clear hfz36_0
  obtain ⟨kq, x11_9, x421001_9, x421002_9, rfl, HA, HJ9, HO_432000, HO_443000, BK415, BK416, BK431, BK442, HI420, HB⟩ := hcut
  cases kq with
  | zero => exact absurd HA.out (by simp [spec_l22Case.j0])
  | succ kj9 =>
   have H := HA.out
   clear HA
   simp only [spec_l22Case.j0] at H
   obtain ⟨⟨t458, t459, t460⟩, A46, H⟩ := ob_ H
   (try dsimp only at H)
   by_cases c47 : t458 = true
   rotate_left
   · replace c47 := Bool.eq_false_iff.mpr c47
     subst c47
     rw [if_neg (show ¬ (false = true) by decide)] at H
     simp only [Option.some.injEq, Prod.mk.injEq] at H
     obtain ⟨rfl, rfl, rfl, rfl⟩ := H
     try go_wp2_with (first | ((with_reducible refine gate_callee (f := 50) rfl ?_); refine gL_ (some 41) Try.func50 #[.pointer (some ⟨g420, 0, none⟩), .int .i64 12] ?_; (with_reducible refine (spec_l1Once.calls g420 t417 x421001_9 x421002_9 12 false t459 t460 w _ ?side1 ?side2 A46.out).mono ?_); (case side1 => exact IsS64.q_ HI420); (case side2 => exact bi_ HB (IsS64.ge HI420.out)); rintro e w61 ⟨rfl, hi, hb, hk⟩; refine ⟨_, rfl, ?_⟩; replace HO_432000 := Aside0.mk (Kd.Q_mono (Kd.Q_keep (IsS64.apartQ (show IsS64 w _ g420 t417 x421001_9 x421002_9 from IsS64.q_ HI420) (qe_ HO_432000.out) (by decide)) hk (fun _ h => h.2)) (fun _ h => h.1)); replace HO_443000 := Aside0.mk (Kd.Q_mono (Kd.Q_keep (IsS64.apartQ (show IsS64 w _ g420 t417 x421001_9 x421002_9 from IsS64.q_ HI420) (qe_ HO_443000.out) (by decide)) hk (fun _ h => h.2)) (fun _ h => h.1)); replace BK415 := Aside0.mk (KeepBut.blk hk (g' := gb415) (o := .cells #[.slice none 0 0] 26 (0, 0)) (be_ BK415.out) NB415_420.out (by simp)); replace BK416 := Aside0.mk (KeepBut.blk hk (g' := gb416) (o := .cells #[.slice none 0 0] 26 (0, 0)) (be_ BK416.out) NB416_420.out (by simp)); replace BK431 := Aside0.mk (KeepBut.blk hk (g' := gb431) (o := .cells #[.slice Ao20 t427.length co20] 26 (0, 0)) (be_ BK431.out) NB431_420.out (by simp)); replace BK442 := Aside0.mk (KeepBut.blk hk (g' := gb442) (o := .cells #[.slice Ao31 t438.length co31] 26 (0, 0)) (be_ BK442.out) NB442_420.out (by simp)); replace HB := Aside0.mk (hb); replace HI420 := Aside0.mk (hi); (try clear hb); (try clear hk); (try clear hi)))
     replace HO_432000 := Aside0.mk (Kd.Q_drew HO_432000.out)
     replace HO_443000 := Aside0.mk (Kd.Q_drew HO_443000.out)
     replace BK415 := Aside0.mk (blk_drew BK415.out)
     replace BK416 := Aside0.mk (blk_drew BK416.out)
     replace BK431 := Aside0.mk (blk_drew BK431.out)
     replace BK442 := Aside0.mk (blk_drew BK442.out)
     replace HI420 := Aside0.mk (IsS64.drew HI420.out)
     replace HB := Aside0.mk (below_drew1 HB.out)
     refine start_ (n := 8) (S := fun w' => w'.cell? ⟨gb431, 0, none⟩ = some (.slice Ao20 t427.length co20) ∧ w'.cell? ⟨gb442, 0, none⟩ = some (.slice Ao31 t438.length co31)) (ds := []) (B_ 0 8) (by kernel_rfl) rfl rfl ⟨(blk_cell BK431.out 0).trans rfl, (blk_cell BK442.out 0).trans rfl⟩ (fun hHeld => ?_); refine with_tabW spec_l22Case.tab10 spec_l22Case.bits10 (fun HT_ HW_ => ?_)
     generalize w61.drew = w62 at HO_432000 HO_443000 BK415 BK416 BK431 BK442 HI420 HB hHeld ⊢
     refine pu_ HT_ 2 46 (B_ 4 8) ?_
     refine pu_ HT_ 3 47 (B_ 12 8) ?_
     refine tk2_ HT_ HW_ hHeld 0 44 (B_ 13 8) ?_
     refine tk2_ HT_ HW_ hHeld 1 45 (B_ 15 8) ?_
     refine one_ (i := 4) (N := none) (B_ 31 8) rfl rfl (one_of HT_.out (by kernel_rfl)) (by decide) (fun K hK => ?_)
     have hs63 : w62.cell? ⟨gb415, 0, none⟩ = some (.slice none 0 0) := (blk_cell BK415.out 0).trans rfl
     have hfs63 := blk_frozen BK415.out 0
     have hns63_1 := NB416_415.out
     have hns63_2 := NB431_415.out
     have hns63_3 := NB442_415.out
     have hms63_1 := NB415_416.out
     have hms63_2 := NB415_431.out
     have hms63_3 := NB415_442.out
     refine skip_ (w1 := ?_) (by rfl) rfl ?_ ?_
     rotate_left
     · go_simp
       rfl
     refine hK.out _ _ ⟨((cell_far (p := ⟨gb415, _, none⟩) NB431_415.out _).trans (hHeld.1)), ((cell_far (p := ⟨gb415, _, none⟩) NB442_415.out _).trans (hHeld.2))⟩ (fun hHeld => ?_)
     clear hK K
     refine one_ (i := 5) (N := none) (B_ 63 8) rfl rfl (one_of HT_.out (by kernel_rfl)) (by decide) (fun K hK => ?_)
     have hs64 : w62.cell? ⟨gb416, 0, none⟩ = some (.slice none 0 0) := (blk_cell BK416.out 0).trans rfl
     have hfs64 := blk_frozen BK416.out 0
     have hns64_0 := NB415_416.out
     have hns64_2 := NB431_416.out
     have hns64_3 := NB442_416.out
     have hms64_0 := NB416_415.out
     have hms64_2 := NB416_431.out
     have hms64_3 := NB416_442.out
     refine skip_ (w1 := ?_) (by rfl) rfl ?_ ?_
     rotate_left
     · go_simp
       rfl
     refine hK.out _ _ ⟨((cell_far (p := ⟨gb416, _, none⟩) NB431_416.out _).trans (hHeld.1)), ((cell_far (p := ⟨gb416, _, none⟩) NB442_416.out _).trans (hHeld.2))⟩ (fun hHeld => ?_)
     clear hK K
     refine pu_ HT_ 6 4 (B_ 127 8) ?_
     refine pu_ HT_ 7 5 (B_ 255 8) ?_
     refine done_ (done_of HT_.out (by kernel_rfl)) ?_
     try go_wp2
     refine bodyPost_ret (results_list (rs := [.cell 2 26, .cell 3 26, .tmp 4, .tmp 5]) rfl (by simp) (.cell gb415 26 #[.slice Ao20 t427.length co20] (0, 0) _ rfl (by (with_reducible repeat (first | refine blk_drewN ?_ _ | refine blk_drew ?_ | refine blk_alloc ?_ _)); refine blk_far ?_ NB415_416.out _; (with_reducible repeat (first | refine blk_drewN ?_ _ | refine blk_drew ?_ | refine blk_alloc ?_ _)); refine blk_put (cs := #[.slice none 0 0]) ?_ 0 _ rfl; (with_reducible repeat (first | refine blk_drewN ?_ _ | refine blk_drew ?_ | refine blk_alloc ?_ _)); exact BK415.out) Try.underlying26 rfl (by kernel_rfl) (.cell gb416 26 #[.slice Ao31 t438.length co31] (0, 0) _ rfl (by (with_reducible repeat (first | refine blk_drewN ?_ _ | refine blk_drew ?_ | refine blk_alloc ?_ _)); refine blk_put (cs := #[.slice none 0 0]) ?_ 0 _ rfl; (with_reducible repeat (first | refine blk_drewN ?_ _ | refine blk_drew ?_ | refine blk_alloc ?_ _)); refine blk_far ?_ NB416_415.out _; (with_reducible repeat (first | refine blk_drewN ?_ _ | refine blk_drew ?_ | refine blk_alloc ?_ _)); exact BK416.out) Try.underlying26 rfl (by kernel_rfl) (.tmp (.tmp .nil))))) rfl ?_
     exact ⟨_, _, rf_, by (with_reducible repeat (first | apply Kd.Q_alloc | apply Kd.Q_drewN | apply Kd.Q_drew)); exact Kd.Q_mono (Kd.Q_far (p := ⟨gb416, 0, none⟩) (Kd.Q_far (p := ⟨gb415, 0, none⟩) (Kd.Q_types (Kd.Q_types HO_432000.out BK415.out (by decide)) BK416.out (by decide)) (fun _ hk => hk.1.2) (.slice Ao20 t427.length co20)) (fun _ hk => hk.2) (.slice Ao31 t438.length co31)) (fun _ hk => hk.1.1), by (with_reducible repeat (first | apply Kd.Q_alloc | apply Kd.Q_drewN | apply Kd.Q_drew)); exact Kd.Q_mono (Kd.Q_far (p := ⟨gb416, 0, none⟩) (Kd.Q_far (p := ⟨gb415, 0, none⟩) (Kd.Q_types (Kd.Q_types HO_443000.out BK415.out (by decide)) BK416.out (by decide)) (fun _ hk => hk.1.2) (.slice Ao20 t427.length co20)) (fun _ hk => hk.2) (.slice Ao31 t438.length co31)) (fun _ hk => hk.1.1), bi_ HB (IsS64.ge HI420.out)⟩
   subst c47
   rw [if_pos rfl] at H
   obtain ⟨⟨t461, t464, t465⟩, A48, H⟩ := ob_ H
   (try dsimp only at H)
   simp only [Option.some.injEq, Prod.mk.injEq] at H
   obtain ⟨rfl, rfl, rfl, rfl⟩ := H
   try go_wp2_with (first | ((with_reducible refine gate_callee (f := 50) rfl ?_); refine gL_ (some 41) Try.func50 #[.pointer (some ⟨g420, 0, none⟩), .int .i64 12] ?_; (with_reducible refine (spec_l1Once.calls g420 t417 x421001_9 x421002_9 12 true t459 t460 w _ ?side1 ?side2 A46.out).mono ?_); (case side1 => exact IsS64.q_ HI420); (case side2 => exact bi_ HB (IsS64.ge HI420.out)); rintro e w49 ⟨rfl, hi, hb, hk⟩; refine ⟨_, rfl, ?_⟩; replace HO_432000 := Aside0.mk (Kd.Q_mono (Kd.Q_keep (IsS64.apartQ (show IsS64 w _ g420 t417 x421001_9 x421002_9 from IsS64.q_ HI420) (qe_ HO_432000.out) (by decide)) hk (fun _ h => h.2)) (fun _ h => h.1)); replace HO_443000 := Aside0.mk (Kd.Q_mono (Kd.Q_keep (IsS64.apartQ (show IsS64 w _ g420 t417 x421001_9 x421002_9 from IsS64.q_ HI420) (qe_ HO_443000.out) (by decide)) hk (fun _ h => h.2)) (fun _ h => h.1)); replace BK415 := Aside0.mk (KeepBut.blk hk (g' := gb415) (o := .cells #[.slice none 0 0] 26 (0, 0)) (be_ BK415.out) NB415_420.out (by simp)); replace BK416 := Aside0.mk (KeepBut.blk hk (g' := gb416) (o := .cells #[.slice none 0 0] 26 (0, 0)) (be_ BK416.out) NB416_420.out (by simp)); replace BK431 := Aside0.mk (KeepBut.blk hk (g' := gb431) (o := .cells #[.slice Ao20 t427.length co20] 26 (0, 0)) (be_ BK431.out) NB431_420.out (by simp)); replace BK442 := Aside0.mk (KeepBut.blk hk (g' := gb442) (o := .cells #[.slice Ao31 t438.length co31] 26 (0, 0)) (be_ BK442.out) NB442_420.out (by simp)); replace HB := Aside0.mk (hb); replace HI420 := Aside0.mk (hi); (try clear hb); (try clear hk); (try clear hi)) | ((with_reducible refine gate_callee (f := 52) rfl ?_); refine gL_ (some 43) Try.func52 #[.pointer (some ⟨g420, 0, none⟩)] ?_; (with_reducible refine (spec_l3Bent.calls kj9 g420 t417 t459 t460 t461 t464 t465 w _ ?side1 ?side2 A48.out).mono ?_); (case side1 => exact IsS64.q_ HI420); (case side2 => exact bi_ HB (IsS64.ge HI420.out)); rintro e w50 ⟨v462, rfl, ho0, hi, hb, hk⟩; refine ⟨_, rfl, ?_⟩; replace BK415 := Aside0.mk (KeepBut.blk hk (g' := gb415) (o := .cells #[.slice none 0 0] 26 (0, 0)) (be_ BK415.out) NB415_420.out (by simp)); replace BK416 := Aside0.mk (KeepBut.blk hk (g' := gb416) (o := .cells #[.slice none 0 0] 26 (0, 0)) (be_ BK416.out) NB416_420.out (by simp)); replace BK431 := Aside0.mk (KeepBut.blk hk (g' := gb431) (o := .cells #[.slice Ao20 t427.length co20] 26 (0, 0)) (be_ BK431.out) NB431_420.out (by simp)); replace BK442 := Aside0.mk (KeepBut.blk hk (g' := gb442) (o := .cells #[.slice Ao31 t438.length co31] 26 (0, 0)) (be_ BK442.out) NB442_420.out (by simp)); have HO463 := Aside0.mk (Kd.Q_lower (Kd.Q_new' (Kd.Q_new' ho0 (Kd.Q_lt (qe_ HO_432000.out))) (Kd.Q_lt (qe_ HO_443000.out))) (below_size (bi_ HB (IsS64.ge HI420.out)))); replace HO_432000 := Aside0.mk (Kd.Q_mono (Kd.Q_told (Kd.Q_oldK (IsS64.apartQ (show IsS64 w _ g420 t417 t459 t460 from IsS64.q_ HI420) (qe_ HO_432000.out) (by decide)) hk) (Kd.Q_base ho0)) (fun _ h_ => h_.1)); replace HO_443000 := Aside0.mk (Kd.Q_mono (Kd.Q_told (Kd.Q_oldK (IsS64.apartQ (show IsS64 w _ g420 t417 t459 t460 from IsS64.q_ HI420) (qe_ HO_443000.out) (by decide)) hk) (Kd.Q_base ho0)) (fun _ h_ => h_.1)); replace HB := Aside0.mk (hb); replace HI420 := Aside0.mk (hi); (try clear hb); (try clear hk); (try clear hi); (try clear ho0); obtain ⟨Ao51, co51, eo51, _⟩ := Kd.Q_slice HO463.out; subst eo51; have hnb52 := NB431_415.out; have hnc52 := NB415_431.out; have hnb53 := NB431_416.out; have hnc53 := NB416_431.out; have hnb54 := NB431_442.out; have hnc54 := NB442_431.out; have hnb55 := NB431_420.out; have hnc55 := NB420_431.out; have hcz56_0 := cz_ BK431; have hfz56_0 := blk_frozen BK431.out 0))
   have n0_ : Aside0 (Kd.Q (Kd.int .i64) 3 (w50.setCell ⟨gb431, 0, none⟩ (.slice Ao51 t461.length co51)) w.heap.size (fun k_ => some k_ ≠ (.slice Ao31 t438.length co31 : Value).ownBlock ∧ some k_ ≠ (.slice Ao51 t461.length co51 : Value).ownBlock) (.slice Ao20 t427.length co20) t427) := ⟨by (with_reducible repeat (first | apply Kd.Q_alloc | apply Kd.Q_drewN | apply Kd.Q_drew)); exact Kd.Q_mono (Kd.Q_far (p := ⟨gb431, 0, none⟩) (Kd.Q_types HO_432000.out BK431.out (by decide)) (fun _ hk => hk.2) (.slice Ao51 t461.length co51)) (fun _ hk => ⟨hk.1.1, hk.1.2⟩)⟩
   have n1_ : Aside0 (Kd.Q (Kd.int .i64) 3 (w50.setCell ⟨gb431, 0, none⟩ (.slice Ao51 t461.length co51)) w.heap.size (fun k_ => some k_ ≠ (.slice Ao20 t427.length co20 : Value).ownBlock ∧ some k_ ≠ (.slice Ao51 t461.length co51 : Value).ownBlock) (.slice Ao31 t438.length co31) t438) := ⟨by (with_reducible repeat (first | apply Kd.Q_alloc | apply Kd.Q_drewN | apply Kd.Q_drew)); exact Kd.Q_mono (Kd.Q_far (p := ⟨gb431, 0, none⟩) (Kd.Q_types HO_443000.out BK431.out (by decide)) (fun _ hk => hk.2) (.slice Ao51 t461.length co51)) (fun _ hk => ⟨hk.1.1, hk.1.2⟩)⟩
   have n2_ : Aside0 (Kd.Q (Kd.int .i64) 3 (w50.setCell ⟨gb431, 0, none⟩ (.slice Ao51 t461.length co51)) w.heap.size (fun k_ => some k_ ≠ (.slice Ao20 t427.length co20 : Value).ownBlock ∧ some k_ ≠ (.slice Ao31 t438.length co31 : Value).ownBlock) (.slice Ao51 t461.length co51) t461) := ⟨by (with_reducible repeat (first | apply Kd.Q_alloc | apply Kd.Q_drewN | apply Kd.Q_drew)); exact Kd.Q_mono (Kd.Q_far (p := ⟨gb431, 0, none⟩) (Kd.Q_types HO463.out BK431.out (by decide)) (fun _ hk => hk.2) (.slice Ao51 t461.length co51)) (fun _ hk => ⟨hk.1.1.2, hk.1.2⟩)⟩
   have n3_ : Aside0 ((w50.setCell ⟨gb431, 0, none⟩ (.slice Ao51 t461.length co51)).heap[gb415]? = some (.cells #[.slice none 0 0] 26 (0, 0))) := ⟨by (with_reducible repeat (first | refine blk_drewN ?_ _ | refine blk_drew ?_ | refine blk_alloc ?_ _)); refine blk_far ?_ NB415_431.out _; (with_reducible repeat (first | refine blk_drewN ?_ _ | refine blk_drew ?_ | refine blk_alloc ?_ _)); exact BK415.out⟩
   have n4_ : Aside0 ((w50.setCell ⟨gb431, 0, none⟩ (.slice Ao51 t461.length co51)).heap[gb416]? = some (.cells #[.slice none 0 0] 26 (0, 0))) := ⟨by (with_reducible repeat (first | refine blk_drewN ?_ _ | refine blk_drew ?_ | refine blk_alloc ?_ _)); refine blk_far ?_ NB416_431.out _; (with_reducible repeat (first | refine blk_drewN ?_ _ | refine blk_drew ?_ | refine blk_alloc ?_ _)); exact BK416.out⟩
   have n5_ : Aside0 ((w50.setCell ⟨gb431, 0, none⟩ (.slice Ao51 t461.length co51)).heap[gb431]? = some (.cells #[.slice Ao51 t461.length co51] 26 (0, 0))) := ⟨by (with_reducible repeat (first | refine blk_drewN ?_ _ | refine blk_drew ?_ | refine blk_alloc ?_ _)); refine blk_put (cs := #[.slice Ao20 t427.length co20]) ?_ 0 _ rfl; (with_reducible repeat (first | refine blk_drewN ?_ _ | refine blk_drew ?_ | refine blk_alloc ?_ _)); exact BK431.out⟩
   have n6_ : Aside0 ((w50.setCell ⟨gb431, 0, none⟩ (.slice Ao51 t461.length co51)).heap[gb442]? = some (.cells #[.slice Ao31 t438.length co31] 26 (0, 0))) := ⟨by (with_reducible repeat (first | refine blk_drewN ?_ _ | refine blk_drew ?_ | refine blk_alloc ?_ _)); refine blk_far ?_ NB442_431.out _; (with_reducible repeat (first | refine blk_drewN ?_ _ | refine blk_drew ?_ | refine blk_alloc ?_ _)); exact BK442.out⟩
   have n7_ : Aside0 (IsS64 w (w50.setCell ⟨gb431, 0, none⟩ (.slice Ao51 t461.length co51)) g420 t417 t464 t465) := ⟨IsS64.q_ HI420⟩
   have n8_ : Aside0 (Below w.heap.size w (w50.setCell ⟨gb431, 0, none⟩ (.slice Ao51 t461.length co51))) := ⟨bi_ HB (IsS64.ge HI420.out)⟩
   (try clear HO_432000)
   (try clear HO_443000)
   (try clear HO463)
   (try clear BK415)
   (try clear BK416)
   (try clear BK431)
   (try clear BK442)
   (try clear HI420)
   (try clear HB)
   generalize (w50.setCell ⟨gb431, 0, none⟩ (.slice Ao51 t461.length co51)) = w57 at n0_ n1_ n2_ n3_ n4_ n5_ n6_ n7_ n8_ ⊢
   have HO_432000 := n0_
   have HO_443000 := n1_
   have HO463 := n2_
   have BK415 := n3_
   have BK416 := n4_
   have BK431 := n5_
   have BK442 := n6_
   have HI420 := n7_
   have HB := n8_
   clear n0_ n1_ n2_ n3_ n4_ n5_ n6_ n7_ n8_
   replace HO_432000 := Aside0.mk (Kd.Q_drew HO_432000.out)
   replace HO_443000 := Aside0.mk (Kd.Q_drew HO_443000.out)
   replace HO463 := Aside0.mk (Kd.Q_drew HO463.out)
   replace BK415 := Aside0.mk (blk_drew BK415.out)
   replace BK416 := Aside0.mk (blk_drew BK416.out)
   replace BK431 := Aside0.mk (blk_drew BK431.out)
   replace BK442 := Aside0.mk (blk_drew BK442.out)
   replace HI420 := Aside0.mk (IsS64.drew HI420.out)
   replace HB := Aside0.mk (below_drew1 HB.out)
   refine start_ (n := 8) (S := fun w' => w'.cell? ⟨gb431, 0, none⟩ = some (.slice Ao51 t461.length co51) ∧ w'.cell? ⟨gb442, 0, none⟩ = some (.slice Ao31 t438.length co31)) (ds := []) (B_ 0 8) (by kernel_rfl) rfl rfl ⟨(blk_cell BK431.out 0).trans rfl, (blk_cell BK442.out 0).trans rfl⟩ (fun hHeld => ?_); refine with_tabW spec_l22Case.tab10 spec_l22Case.bits10 (fun HT_ HW_ => ?_)
   generalize w57.drew = w58 at HO_432000 HO_443000 HO463 BK415 BK416 BK431 BK442 HI420 HB hHeld ⊢
   refine pu_ HT_ 2 46 (B_ 4 8) ?_
   refine pu_ HT_ 3 47 (B_ 12 8) ?_
   refine tk2_ HT_ HW_ hHeld 0 44 (B_ 13 8) ?_
   refine tk2_ HT_ HW_ hHeld 1 45 (B_ 15 8) ?_
   refine one_ (i := 4) (N := none) (B_ 31 8) rfl rfl (one_of HT_.out (by kernel_rfl)) (by decide) (fun K hK => ?_)
   have hs59 : w58.cell? ⟨gb415, 0, none⟩ = some (.slice none 0 0) := (blk_cell BK415.out 0).trans rfl
   have hfs59 := blk_frozen BK415.out 0
   have hns59_1 := NB416_415.out
   have hns59_2 := NB431_415.out
   have hns59_3 := NB442_415.out
   have hms59_1 := NB415_416.out
   have hms59_2 := NB415_431.out
   have hms59_3 := NB415_442.out
   refine skip_ (w1 := ?_) (by rfl) rfl ?_ ?_
   rotate_left
   · go_simp
     rfl
   refine hK.out _ _ ⟨((cell_far (p := ⟨gb415, _, none⟩) NB431_415.out _).trans (hHeld.1)), ((cell_far (p := ⟨gb415, _, none⟩) NB442_415.out _).trans (hHeld.2))⟩ (fun hHeld => ?_)
   clear hK K
   refine one_ (i := 5) (N := none) (B_ 63 8) rfl rfl (one_of HT_.out (by kernel_rfl)) (by decide) (fun K hK => ?_)
   have hs60 : w58.cell? ⟨gb416, 0, none⟩ = some (.slice none 0 0) := (blk_cell BK416.out 0).trans rfl
   have hfs60 := blk_frozen BK416.out 0
   have hns60_0 := NB415_416.out
   have hns60_2 := NB431_416.out
   have hns60_3 := NB442_416.out
   have hms60_0 := NB416_415.out
   have hms60_2 := NB416_431.out
   have hms60_3 := NB416_442.out
   refine skip_ (w1 := ?_) (by rfl) rfl ?_ ?_
   rotate_left
   · go_simp
     rfl
   refine hK.out _ _ ⟨((cell_far (p := ⟨gb416, _, none⟩) NB431_416.out _).trans (hHeld.1)), ((cell_far (p := ⟨gb416, _, none⟩) NB442_416.out _).trans (hHeld.2))⟩ (fun hHeld => ?_)
   clear hK K
   refine pu_ HT_ 6 4 (B_ 127 8) ?_
   refine pu_ HT_ 7 5 (B_ 255 8) ?_
   refine done_ (done_of HT_.out (by kernel_rfl)) ?_
   try go_wp2
   refine bodyPost_ret (results_list (rs := [.cell 2 26, .cell 3 26, .tmp 4, .tmp 5]) rfl (by simp) (.cell gb415 26 #[.slice Ao51 t461.length co51] (0, 0) _ rfl (by (with_reducible repeat (first | refine blk_drewN ?_ _ | refine blk_drew ?_ | refine blk_alloc ?_ _)); refine blk_far ?_ NB415_416.out _; (with_reducible repeat (first | refine blk_drewN ?_ _ | refine blk_drew ?_ | refine blk_alloc ?_ _)); refine blk_put (cs := #[.slice none 0 0]) ?_ 0 _ rfl; (with_reducible repeat (first | refine blk_drewN ?_ _ | refine blk_drew ?_ | refine blk_alloc ?_ _)); exact BK415.out) Try.underlying26 rfl (by kernel_rfl) (.cell gb416 26 #[.slice Ao31 t438.length co31] (0, 0) _ rfl (by (with_reducible repeat (first | refine blk_drewN ?_ _ | refine blk_drew ?_ | refine blk_alloc ?_ _)); refine blk_put (cs := #[.slice none 0 0]) ?_ 0 _ rfl; (with_reducible repeat (first | refine blk_drewN ?_ _ | refine blk_drew ?_ | refine blk_alloc ?_ _)); refine blk_far ?_ NB416_415.out _; (with_reducible repeat (first | refine blk_drewN ?_ _ | refine blk_drew ?_ | refine blk_alloc ?_ _)); exact BK416.out) Try.underlying26 rfl (by kernel_rfl) (.tmp (.tmp .nil))))) rfl ?_
   exact ⟨_, _, rf_, by (with_reducible repeat (first | apply Kd.Q_alloc | apply Kd.Q_drewN | apply Kd.Q_drew)); exact Kd.Q_mono (Kd.Q_far (p := ⟨gb416, 0, none⟩) (Kd.Q_far (p := ⟨gb415, 0, none⟩) (Kd.Q_types (Kd.Q_types HO463.out BK415.out (by decide)) BK416.out (by decide)) (fun _ hk => hk.1.2) (.slice Ao51 t461.length co51)) (fun _ hk => hk.2) (.slice Ao31 t438.length co31)) (fun _ hk => hk.1.1.2), by (with_reducible repeat (first | apply Kd.Q_alloc | apply Kd.Q_drewN | apply Kd.Q_drew)); exact Kd.Q_mono (Kd.Q_far (p := ⟨gb416, 0, none⟩) (Kd.Q_far (p := ⟨gb415, 0, none⟩) (Kd.Q_types (Kd.Q_types HO_443000.out BK415.out (by decide)) BK416.out (by decide)) (fun _ hk => hk.1.2) (.slice Ao51 t461.length co51)) (fun _ hk => hk.2) (.slice Ao31 t438.length co31)) (fun _ hk => hk.1.1.2), bi_ HB (IsS64.ge HI420.out)⟩
end Go.Proofs.Ytjjajcldmkmgkaa.PA
end
