-- Bundled by shake.py from this session's printed and written texts; Lean checks it.
import Derived.Test.YtjjajcldmkmgkaaZFnGluedx1
import Derived.Test.YtjjajcldmkmgkaaZFnGluedx2
import Derived.Test.YtjjajcldmkmgkaaZFnGluedx4
import Derived.Test.YtjjajcldmkmgkaaZFnGluedx8
section
namespace Go.Proofs.Ytjjajcldmkmgkaa.PA
open Go.RowKit Go.Proofs.YtjjajcldmkmgkaaW.PrintWords Go.Proofs.YtjjajcldmkmgkaaW.PrintLast Go.Proofs.YtjjajcldmkmgkaaW.PrintMore
attribute [local go_sem] max2_int min2_int max_two min_two max_three min_three max_four min_four
set_option linter.unusedVariables false
set_option linter.unusedSimpArgs false
set_option maxHeartbeats 8000000
set_option maxRecDepth 100000
def spec_GlueOf.j0 : Nat → Int → Int → Bool → List Int → List Int → Option (List Int × Bool)
 | 0, _, _, _, _, _ => none
 | k + 1, x2, x3, x49, x771000, x772000 => if x49 = true then (some (([] : List Int), false)) else ((spec_l22Times.f k x771000 x2).bind fun t780 => ((spec_l22Times.f k x772000 x3).bind fun t783 => (if t780.length + t783.length < 17592186044416 then ((spec_FromGens.f k (t780 ++ t783)).bind fun bt789 => (some (bt789.1, bt789.2))) else (none))))
def spec_GlueOf.f (k : Nat) (l0_0 : List Int) (l1_0 : List Int) (a2 : Int) (a3 : Int) : Option (List Int × Bool) := (spec_Contains.f k l1_0 a2).bind fun t773 => (if t773 = true then ((spec_Contains.f k l0_0 a3).bind fun t774 => (if t774 = true then ((spec_HasNumber.f k l1_0 a2).bind fun t775 => (if t775 = true then (spec_GlueOf.j0 k a2 a3 true l0_0 l1_0) else ((spec_HasNumber.f k l0_0 a3).bind fun t776 => (if t776 = true then (spec_GlueOf.j0 k a2 a3 true l0_0 l1_0) else ((spec_l1In.f a2 1 60).bind fun t777 => (if t777 = true then ((spec_l1In.f a3 1 60).bind fun t778 => (if t778 = true then ((spec_GcdOf.f k a2 a3).bind fun t779 => (spec_GlueOf.j0 k a2 a3 (t779 != 1) l0_0 l1_0)) else (spec_GlueOf.j0 k a2 a3 true l0_0 l1_0))) else (spec_GlueOf.j0 k a2 a3 true l0_0 l1_0))))))) else (spec_GlueOf.j0 k a2 a3 true l0_0 l1_0))) else (spec_GlueOf.j0 k a2 a3 true l0_0 l1_0))
def spec_GlueOf.T3 : Bool × List (List Nat × List Nat) := (true, [([], []), ([0], [0]), ([], []), ([1, 2], [1, 2]), ([], []), ([4], [4]), ([], []), ([5, 6, 3], [5, 6]), ([3, 7, 7], [3, 7]), ([8, 8], [8]), ([9], [9]), ([10], [10]), ([10], [10]), ([], []), ([13, 11, 9, 0, 1, 2, 3, 4, 5, 6, 7, 8, 9, 10, 11, 13], [11, 13]), ([12, 14, 0, 1, 2, 3, 4, 5, 6, 7, 8, 9, 10, 11, 12, 13, 14], [12])])
def spec_GlueOf.B3 : List Nat := [0, 1, 0, 7, 0, 16, 0, 127, 255, 511, 1023, 2047, 2047, 0, 12287, 32767]
theorem spec_GlueOf.tab3 : rtab .any (opsOf Try.f7 3) = spec_GlueOf.T3 := by kernel_rfl
theorem spec_GlueOf.bits3 : waitsOk spec_GlueOf.T3.2 spec_GlueOf.B3 = true := by kernel_rfl
theorem spec_GlueOf.calls (k : Nat) (A0_0 : Option Addr) (c0_0 : Nat) (l0_0 : List Int) (A1_0 : Option Addr) (c1_0 : Nat) (l1_0 : List Int) (a2 : Int) (a3 : Int) (r1 : List Int) (r2 : Bool) (w : World) (hr0_0 : Kd.C (Kd.int .i64) w A0_0 l0_0.length l0_0) (hc0_0 : l0_0.length ≤ c0_0) (hr1_0 : Kd.C (Kd.int .i64) w A1_0 l1_0.length l1_0) (hc1_0 : l1_0.length ≤ c1_0) (h : spec_GlueOf.f k l0_0 l1_0 a2 a3 = some (r1, r2)) :
 Calls Try.prog 7 #[.agg #[.slice A0_0 l0_0.length c0_0], .agg #[.slice A1_0 l1_0.length c1_0], .int .i64 a2, .int .i64 a3] w fun e w' => ∃ v0_ : Value, e = .returned (.tuple #[.agg #[v0_], .bool r2]) ∧ Kd.R (Kd.int .i64) 3 w' w.heap.size (fun _ => True) v0_ r1 ∧ Below w.heap.size w w' := by
 have hu26 := Try.underlying26
 have HR0_0 := Aside0.mk hr0_0
 have HC0_0 := Aside0.mk hc0_0
 clear hr0_0 hc0_0
 have HR1_0 := Aside0.mk hr1_0
 have HC1_0 := Aside0.mk hc1_0
 clear hr1_0 hc1_0
 have HB := Aside0.mk (Below.refl w.heap.size w)
 have H := h
 clear h
 unfold spec_GlueOf.f at H
 have HC5 := Aside0.mk H
 clear H
 go_enter Try.func7, Try.ntmps7
 go_upto_region 1 with (first | ((with_reducible refine gate_dst (N := 4) rfl ?_); refine bx_ 4 #[.slice A0_0 l0_0.length c0_0] 26 ?_; intro gb770 hg w6 hbox hb; have BK770 := Aside0.mk (hbox); have GW770 := gw_ hg HB; have GE770 := gw_ hg HB; replace HB := bo_ HB hb; clear hb hbox hg) | ((with_reducible refine gate_dst (N := 5) rfl ?_); refine bx_ 5 #[.slice A1_0 l1_0.length c1_0] 26 ?_; intro gb771 hg w7 hbox hb; have BK771 := Aside0.mk (hbox); have GW771 := gq_ hg (bq_ HB); have GE771 := gq_ hg (bq_ HB); replace HB := bp_ HB hb; have NB770_771 := nl_ hg BK770; have NB771_770 := ng_ hg BK770; replace BK770 := bk_ BK770 hb; clear hb hbox hg) | ((with_reducible refine gate_dst (N := 8) rfl ?_); refine bx_ 8 #[.slice none 0 0] 26 ?_; intro gb772 hg w8 hbox hb; have BK772 := Aside0.mk (hbox); have GW772 := gq_ hg (bq_ HB); have GE772 := gq_ hg (bq_ HB); replace HB := bp_ HB hb; have NB770_772 := nl_ hg BK770; have NB772_770 := ng_ hg BK770; replace BK770 := bk_ BK770 hb; have NB771_772 := nl_ hg BK771; have NB772_771 := ng_ hg BK771; replace BK771 := bk_ BK771 hb; clear hb hbox hg))
 (try simp only [Act.put, z1_, z2_, z3_])
 go_cut [49] (fun v49 wc => ∃ (kq : Nat) (x49_4 : Bool), v49 = .bool x49_4 ∧ Aside0 (spec_GlueOf.j0 kq a2 a3 x49_4 l0_0 l1_0 = some (r1, r2)) ∧ Aside0 (kq ≤ k) ∧ Aside0 (wc.heap[gb770]? = some (.cells #[(.slice A0_0 l0_0.length c0_0)] 26 (0, 0))) ∧ Aside0 (wc.heap[gb771]? = some (.cells #[(.slice A1_0 l1_0.length c1_0)] 26 (0, 0))) ∧ Aside0 (wc.heap[gb772]? = some (.cells #[(.slice none 0 0)] 26 (0, 0))) ∧ Aside0 (Below w.heap.size w wc))
 case first =>
  have H := HC5.out
  clear HC5
  obtain ⟨t773, A9, H⟩ := ob_ H
  by_cases c10 : t773 = true
  rotate_left
  · replace c10 := Bool.eq_false_iff.mpr c10
    subst c10
    rw [if_neg (show ¬ (false = true) by decide)] at H
    have H' := Aside0.mk H
    clear H
    have hnb73 := NB771_770.out
    have hnc73 := NB770_771.out
    have hnb74 := NB771_772.out
    have hnc74 := NB772_771.out
    have hcz75_0 := cz_ BK771
    have hfz75_0 := blk_frozen BK771.out 0
    go_wp2_with (first | ((with_reducible refine gate_callee (f := 25) rfl ?_); refine gL_ (some 14) Try.func25 #[.agg #[.slice A1_0 l1_0.length c1_0], .int .i64 a2] ?_; (with_reducible refine (spec_Contains.calls k _ _ l1_0 a2 false _ ?side1 ?side2 A9.out).mono ?_); (case side1 => exact ch_ HR1_0 HB); (case side2 => exact HC1_0.out); rintro e w76 ⟨rfl, hb⟩; refine ⟨_, rfl, ?_⟩; replace BK770 := bk_ BK770 hb; replace BK771 := bk_ BK771 hb; replace BK772 := bk_ BK772 hb; replace HB := bp_ HB hb; (try clear hb)))
    go_meet
    case rel => exact ⟨_, (true), rs_, H', ⟨by first | omega | exact Nat.le_refl _⟩, ⟨be_ BK770.out⟩, ⟨be_ BK771.out⟩, ⟨be_ BK772.out⟩, ⟨bq_ HB⟩⟩
  subst c10
  rw [if_pos rfl] at H
  obtain ⟨t774, A11, H⟩ := ob_ H
  by_cases c12 : t774 = true
  rotate_left
  · replace c12 := Bool.eq_false_iff.mpr c12
    subst c12
    rw [if_neg (show ¬ (false = true) by decide)] at H
    have H' := Aside0.mk H
    clear H
    have hnb66 := NB771_770.out
    have hnc66 := NB770_771.out
    have hnb67 := NB771_772.out
    have hnc67 := NB772_771.out
    have hcz68_0 := cz_ BK771
    have hfz68_0 := blk_frozen BK771.out 0
    go_wp2_with (first | ((with_reducible refine gate_callee (f := 25) rfl ?_); refine gL_ (some 14) Try.func25 #[.agg #[.slice A1_0 l1_0.length c1_0], .int .i64 a2] ?_; (with_reducible refine (spec_Contains.calls k _ _ l1_0 a2 true _ ?side1 ?side2 A9.out).mono ?_); (case side1 => exact ch_ HR1_0 HB); (case side2 => exact HC1_0.out); rintro e w69 ⟨rfl, hb⟩; refine ⟨_, rfl, ?_⟩; replace BK770 := bk_ BK770 hb; replace BK771 := bk_ BK771 hb; replace BK772 := bk_ BK772 hb; replace HB := bp_ HB hb; (try clear hb); have hnb70 := NB770_772.out; have hnc70 := NB772_770.out; have hcz71_0 := cz_ BK770; have hfz71_0 := blk_frozen BK770.out 0) | (go_at_call 25; (with_reducible refine (spec_Contains.calls k _ _ l0_0 a3 false _ ?side1 ?side2 A11.out).mono ?_); (case side1 => exact ch_ HR0_0 HB); (case side2 => exact HC0_0.out); rintro e w72 ⟨rfl, hb⟩; replace BK770 := bk_ BK770 hb; replace BK771 := bk_ BK771 hb; replace BK772 := bk_ BK772 hb; replace HB := bp_ HB hb; (try clear hb)))
    go_meet
    case rel => exact ⟨_, (true), rs_, H', ⟨by first | omega | exact Nat.le_refl _⟩, ⟨be_ BK770.out⟩, ⟨be_ BK771.out⟩, ⟨be_ BK772.out⟩, ⟨bq_ HB⟩⟩
  subst c12
  rw [if_pos rfl] at H
  obtain ⟨t775, A13, H⟩ := ob_ H
  by_cases c14 : t775 = true
  · subst c14
    rw [if_pos rfl] at H
    have H' := Aside0.mk H
    clear H
    have hnb15 := NB771_770.out
    have hnc15 := NB770_771.out
    have hnb16 := NB771_772.out
    have hnc16 := NB772_771.out
    have hcz17_0 := cz_ BK771
    have hfz17_0 := blk_frozen BK771.out 0
    go_wp2_with (first | ((with_reducible refine gate_callee (f := 25) rfl ?_); refine gL_ (some 14) Try.func25 #[.agg #[.slice A1_0 l1_0.length c1_0], .int .i64 a2] ?_; (with_reducible refine (spec_Contains.calls k _ _ l1_0 a2 true _ ?side1 ?side2 A9.out).mono ?_); (case side1 => exact ch_ HR1_0 HB); (case side2 => exact HC1_0.out); rintro e w18 ⟨rfl, hb⟩; refine ⟨_, rfl, ?_⟩; replace BK770 := bk_ BK770 hb; replace BK771 := bk_ BK771 hb; replace BK772 := bk_ BK772 hb; replace HB := bp_ HB hb; (try clear hb); have hnb19 := NB770_772.out; have hnc19 := NB772_770.out; have hcz20_0 := cz_ BK770; have hfz20_0 := blk_frozen BK770.out 0) | (go_at_call 25; (with_reducible refine (spec_Contains.calls k _ _ l0_0 a3 true _ ?side1 ?side2 A11.out).mono ?_); (case side1 => exact ch_ HR0_0 HB); (case side2 => exact HC0_0.out); rintro e w21 ⟨rfl, hb⟩; replace BK770 := bk_ BK770 hb; replace BK771 := bk_ BK771 hb; replace BK772 := bk_ BK772 hb; replace HB := bp_ HB hb; (try clear hb); have hcz22_0 := cz_ BK771; have hfz22_0 := blk_frozen BK771.out 0) | (go_at_call 26; (with_reducible refine (spec_HasNumber.calls k _ _ l1_0 a2 true _ ?side1 ?side2 A13.out).mono ?_); (case side1 => exact ch_ HR1_0 HB); (case side2 => exact HC1_0.out); rintro e w' ⟨rfl, ⟨nd, rfl⟩⟩))
    go_meet
    case rel => exact ⟨_, (true), rs_, H', ⟨by first | omega | exact Nat.le_refl _⟩, ⟨be_ BK770.out⟩, ⟨be_ BK771.out⟩, ⟨be_ BK772.out⟩, ⟨bq_ HB⟩⟩
  replace c14 := Bool.eq_false_iff.mpr c14
  subst c14
  rw [if_neg (show ¬ (false = true) by decide)] at H
  obtain ⟨t776, A23, H⟩ := ob_ H
  by_cases c24 : t776 = true
  · subst c24
    rw [if_pos rfl] at H
    have H' := Aside0.mk H
    clear H
    have hnb25 := NB771_770.out
    have hnc25 := NB770_771.out
    have hnb26 := NB771_772.out
    have hnc26 := NB772_771.out
    have hcz27_0 := cz_ BK771
    have hfz27_0 := blk_frozen BK771.out 0
    go_wp2_with (first | ((with_reducible refine gate_callee (f := 25) rfl ?_); refine gL_ (some 14) Try.func25 #[.agg #[.slice A1_0 l1_0.length c1_0], .int .i64 a2] ?_; (with_reducible refine (spec_Contains.calls k _ _ l1_0 a2 true _ ?side1 ?side2 A9.out).mono ?_); (case side1 => exact ch_ HR1_0 HB); (case side2 => exact HC1_0.out); rintro e w28 ⟨rfl, hb⟩; refine ⟨_, rfl, ?_⟩; replace BK770 := bk_ BK770 hb; replace BK771 := bk_ BK771 hb; replace BK772 := bk_ BK772 hb; replace HB := bp_ HB hb; (try clear hb); have hnb29 := NB770_772.out; have hnc29 := NB772_770.out; have hcz30_0 := cz_ BK770; have hfz30_0 := blk_frozen BK770.out 0) | (go_at_call 25; (with_reducible refine (spec_Contains.calls k _ _ l0_0 a3 true _ ?side1 ?side2 A11.out).mono ?_); (case side1 => exact ch_ HR0_0 HB); (case side2 => exact HC0_0.out); rintro e w31 ⟨rfl, hb⟩; replace BK770 := bk_ BK770 hb; replace BK771 := bk_ BK771 hb; replace BK772 := bk_ BK772 hb; replace HB := bp_ HB hb; (try clear hb); have hcz32_0 := cz_ BK771; have hfz32_0 := blk_frozen BK771.out 0) | (go_at_call 26; (with_reducible refine (spec_HasNumber.calls k _ _ l1_0 a2 false _ ?side1 ?side2 A13.out).mono ?_); (case side1 => exact ch_ HR1_0 HB); (case side2 => exact HC1_0.out); rintro e w' ⟨rfl, ⟨nd, rfl⟩⟩; have hcz33_0 := cz_ BK770; have hfz33_0 := blk_frozen BK770.out 0) | (go_at_call 26; (with_reducible refine (spec_HasNumber.calls k _ _ l0_0 a3 true _ ?side1 ?side2 A23.out).mono ?_); (case side1 => repeat (first | exact (Kd.C_below HR0_0.out (bq_ HB)) | (with_reducible refine Kd.C_alloc ?_ _) | (with_reducible refine Kd.C_drewN ?_ _) | (with_reducible refine Kd.C_drew ?_))); (case side2 => exact HC0_0.out); rintro e w' ⟨rfl, ⟨nd, rfl⟩⟩))
    go_meet
    case rel => exact ⟨_, (true), rs_, H', ⟨by first | omega | exact Nat.le_refl _⟩, ⟨be_ BK770.out⟩, ⟨be_ BK771.out⟩, ⟨be_ BK772.out⟩, ⟨bq_ HB⟩⟩
  replace c24 := Bool.eq_false_iff.mpr c24
  subst c24
  rw [if_neg (show ¬ (false = true) by decide)] at H
  obtain ⟨t777, A34, H⟩ := ob_ H
  by_cases c35 : t777 = true
  rotate_left
  · replace c35 := Bool.eq_false_iff.mpr c35
    subst c35
    rw [if_neg (show ¬ (false = true) by decide)] at H
    have H' := Aside0.mk H
    clear H
    have hnb57 := NB771_770.out
    have hnc57 := NB770_771.out
    have hnb58 := NB771_772.out
    have hnc58 := NB772_771.out
    have hcz59_0 := cz_ BK771
    have hfz59_0 := blk_frozen BK771.out 0
    go_wp2_with (first | ((with_reducible refine gate_callee (f := 25) rfl ?_); refine gL_ (some 14) Try.func25 #[.agg #[.slice A1_0 l1_0.length c1_0], .int .i64 a2] ?_; (with_reducible refine (spec_Contains.calls k _ _ l1_0 a2 true _ ?side1 ?side2 A9.out).mono ?_); (case side1 => exact ch_ HR1_0 HB); (case side2 => exact HC1_0.out); rintro e w60 ⟨rfl, hb⟩; refine ⟨_, rfl, ?_⟩; replace BK770 := bk_ BK770 hb; replace BK771 := bk_ BK771 hb; replace BK772 := bk_ BK772 hb; replace HB := bp_ HB hb; (try clear hb); have hnb61 := NB770_772.out; have hnc61 := NB772_770.out; have hcz62_0 := cz_ BK770; have hfz62_0 := blk_frozen BK770.out 0) | (go_at_call 25; (with_reducible refine (spec_Contains.calls k _ _ l0_0 a3 true _ ?side1 ?side2 A11.out).mono ?_); (case side1 => exact ch_ HR0_0 HB); (case side2 => exact HC0_0.out); rintro e w63 ⟨rfl, hb⟩; replace BK770 := bk_ BK770 hb; replace BK771 := bk_ BK771 hb; replace BK772 := bk_ BK772 hb; replace HB := bp_ HB hb; (try clear hb); have hcz64_0 := cz_ BK771; have hfz64_0 := blk_frozen BK771.out 0) | (go_at_call 26; (with_reducible refine (spec_HasNumber.calls k _ _ l1_0 a2 false _ ?side1 ?side2 A13.out).mono ?_); (case side1 => exact ch_ HR1_0 HB); (case side2 => exact HC1_0.out); rintro e w' ⟨rfl, ⟨nd, rfl⟩⟩; have hcz65_0 := cz_ BK770; have hfz65_0 := blk_frozen BK770.out 0) | (go_at_call 26; (with_reducible refine (spec_HasNumber.calls k _ _ l0_0 a3 false _ ?side1 ?side2 A23.out).mono ?_); (case side1 => repeat (first | exact (Kd.C_below HR0_0.out (bq_ HB)) | (with_reducible refine Kd.C_alloc ?_ _) | (with_reducible refine Kd.C_drewN ?_ _) | (with_reducible refine Kd.C_drew ?_))); (case side2 => exact HC0_0.out); rintro e w' ⟨rfl, ⟨nd, rfl⟩⟩) | (go_at_call 27; (with_reducible refine (spec_l1In.calls a2 1 60 false _ A34.out).mono ?_); rintro e w' ⟨rfl, ⟨nd, rfl⟩⟩))
    go_meet
    case rel => exact ⟨_, (true), rs_, H', ⟨by first | omega | exact Nat.le_refl _⟩, ⟨be_ BK770.out⟩, ⟨be_ BK771.out⟩, ⟨be_ BK772.out⟩, ⟨bq_ HB⟩⟩
  subst c35
  rw [if_pos rfl] at H
  obtain ⟨t778, A36, H⟩ := ob_ H
  by_cases c37 : t778 = true
  rotate_left
  · replace c37 := Bool.eq_false_iff.mpr c37
    subst c37
    rw [if_neg (show ¬ (false = true) by decide)] at H
    have H' := Aside0.mk H
    clear H
    have hnb48 := NB771_770.out
    have hnc48 := NB770_771.out
    have hnb49 := NB771_772.out
    have hnc49 := NB772_771.out
    have hcz50_0 := cz_ BK771
    have hfz50_0 := blk_frozen BK771.out 0
    go_wp2_with (first | ((with_reducible refine gate_callee (f := 25) rfl ?_); refine gL_ (some 14) Try.func25 #[.agg #[.slice A1_0 l1_0.length c1_0], .int .i64 a2] ?_; (with_reducible refine (spec_Contains.calls k _ _ l1_0 a2 true _ ?side1 ?side2 A9.out).mono ?_); (case side1 => exact ch_ HR1_0 HB); (case side2 => exact HC1_0.out); rintro e w51 ⟨rfl, hb⟩; refine ⟨_, rfl, ?_⟩; replace BK770 := bk_ BK770 hb; replace BK771 := bk_ BK771 hb; replace BK772 := bk_ BK772 hb; replace HB := bp_ HB hb; (try clear hb); have hnb52 := NB770_772.out; have hnc52 := NB772_770.out; have hcz53_0 := cz_ BK770; have hfz53_0 := blk_frozen BK770.out 0) | (go_at_call 25; (with_reducible refine (spec_Contains.calls k _ _ l0_0 a3 true _ ?side1 ?side2 A11.out).mono ?_); (case side1 => exact ch_ HR0_0 HB); (case side2 => exact HC0_0.out); rintro e w54 ⟨rfl, hb⟩; replace BK770 := bk_ BK770 hb; replace BK771 := bk_ BK771 hb; replace BK772 := bk_ BK772 hb; replace HB := bp_ HB hb; (try clear hb); have hcz55_0 := cz_ BK771; have hfz55_0 := blk_frozen BK771.out 0) | (go_at_call 26; (with_reducible refine (spec_HasNumber.calls k _ _ l1_0 a2 false _ ?side1 ?side2 A13.out).mono ?_); (case side1 => exact ch_ HR1_0 HB); (case side2 => exact HC1_0.out); rintro e w' ⟨rfl, ⟨nd, rfl⟩⟩; have hcz56_0 := cz_ BK770; have hfz56_0 := blk_frozen BK770.out 0) | (go_at_call 26; (with_reducible refine (spec_HasNumber.calls k _ _ l0_0 a3 false _ ?side1 ?side2 A23.out).mono ?_); (case side1 => repeat (first | exact (Kd.C_below HR0_0.out (bq_ HB)) | (with_reducible refine Kd.C_alloc ?_ _) | (with_reducible refine Kd.C_drewN ?_ _) | (with_reducible refine Kd.C_drew ?_))); (case side2 => exact HC0_0.out); rintro e w' ⟨rfl, ⟨nd, rfl⟩⟩) | (go_at_call 27; (with_reducible refine (spec_l1In.calls a2 1 60 true _ A34.out).mono ?_); rintro e w' ⟨rfl, ⟨nd, rfl⟩⟩) | (go_at_call 27; (with_reducible refine (spec_l1In.calls a3 1 60 false _ A36.out).mono ?_); rintro e w' ⟨rfl, ⟨nd, rfl⟩⟩))
    go_meet
    case rel => exact ⟨_, (true), rs_, H', ⟨by first | omega | exact Nat.le_refl _⟩, ⟨be_ BK770.out⟩, ⟨be_ BK771.out⟩, ⟨be_ BK772.out⟩, ⟨bq_ HB⟩⟩
  subst c37
  rw [if_pos rfl] at H
  obtain ⟨t779, A38, H⟩ := ob_ H
  have H' := Aside0.mk H
  clear H
  have hnb39 := NB771_770.out
  have hnc39 := NB770_771.out
  have hnb40 := NB771_772.out
  have hnc40 := NB772_771.out
  have hcz41_0 := cz_ BK771
  have hfz41_0 := blk_frozen BK771.out 0
  go_wp2_with (first | ((with_reducible refine gate_callee (f := 25) rfl ?_); refine gL_ (some 14) Try.func25 #[.agg #[.slice A1_0 l1_0.length c1_0], .int .i64 a2] ?_; (with_reducible refine (spec_Contains.calls k _ _ l1_0 a2 true _ ?side1 ?side2 A9.out).mono ?_); (case side1 => exact ch_ HR1_0 HB); (case side2 => exact HC1_0.out); rintro e w42 ⟨rfl, hb⟩; refine ⟨_, rfl, ?_⟩; replace BK770 := bk_ BK770 hb; replace BK771 := bk_ BK771 hb; replace BK772 := bk_ BK772 hb; replace HB := bp_ HB hb; (try clear hb); have hnb43 := NB770_772.out; have hnc43 := NB772_770.out; have hcz44_0 := cz_ BK770; have hfz44_0 := blk_frozen BK770.out 0) | (go_at_call 25; (with_reducible refine (spec_Contains.calls k _ _ l0_0 a3 true _ ?side1 ?side2 A11.out).mono ?_); (case side1 => exact ch_ HR0_0 HB); (case side2 => exact HC0_0.out); rintro e w45 ⟨rfl, hb⟩; replace BK770 := bk_ BK770 hb; replace BK771 := bk_ BK771 hb; replace BK772 := bk_ BK772 hb; replace HB := bp_ HB hb; (try clear hb); have hcz46_0 := cz_ BK771; have hfz46_0 := blk_frozen BK771.out 0) | (go_at_call 26; (with_reducible refine (spec_HasNumber.calls k _ _ l1_0 a2 false _ ?side1 ?side2 A13.out).mono ?_); (case side1 => exact ch_ HR1_0 HB); (case side2 => exact HC1_0.out); rintro e w' ⟨rfl, ⟨nd, rfl⟩⟩; have hcz47_0 := cz_ BK770; have hfz47_0 := blk_frozen BK770.out 0) | (go_at_call 26; (with_reducible refine (spec_HasNumber.calls k _ _ l0_0 a3 false _ ?side1 ?side2 A23.out).mono ?_); (case side1 => repeat (first | exact (Kd.C_below HR0_0.out (bq_ HB)) | (with_reducible refine Kd.C_alloc ?_ _) | (with_reducible refine Kd.C_drewN ?_ _) | (with_reducible refine Kd.C_drew ?_))); (case side2 => exact HC0_0.out); rintro e w' ⟨rfl, ⟨nd, rfl⟩⟩) | (go_at_call 27; (with_reducible refine (spec_l1In.calls a2 1 60 true _ A34.out).mono ?_); rintro e w' ⟨rfl, ⟨nd, rfl⟩⟩) | (go_at_call 27; (with_reducible refine (spec_l1In.calls a3 1 60 true _ A36.out).mono ?_); rintro e w' ⟨rfl, ⟨nd, rfl⟩⟩) | (go_at_call 28; (with_reducible refine (spec_GcdOf.calls k a2 a3 t779 _ A38.out).mono ?_); rintro e w' ⟨rfl, ⟨nd, rfl⟩⟩))
  go_meet
  case rel => exact ⟨_, ((t779 != 1)), rs_, H', ⟨by first | omega | exact Nat.le_refl _⟩, ⟨be_ BK770.out⟩, ⟨be_ BK771.out⟩, ⟨be_ BK772.out⟩, ⟨bq_ HB⟩⟩
 case rest =>
  clear HC5
  try clear c1
  try clear c2
  try clear p2
  try clear c3
  try clear c4
  try clear c5
  try clear c6
  try clear c7
  try clear c10
  try clear c12
  try clear c14
  try clear c15
  try clear c16
  try clear c19
  try clear c24
  try clear c25
  try clear c26
  try clear c29
  try clear c35
  try clear c37
  try clear c39
  try clear c40
  try clear c43
  try clear c48
  try clear c49
  try clear c52
  try clear c57
  try clear c58
  try clear c61
  try clear c66
  try clear c67
  try clear c70
  try clear c73
  try clear c74
  try clear hcz17_0
  try clear hcz20_0
  try clear hcz22_0
  try clear hcz27_0
  try clear hcz30_0
  try clear hcz32_0
  try clear hcz33_0
  try clear hcz41_0
  try clear hcz44_0
  try clear hcz46_0
  try clear hcz47_0
  try clear hcz50_0
  try clear hcz53_0
  try clear hcz55_0
  try clear hcz56_0
  try clear hcz59_0
  try clear hcz62_0
  try clear hcz64_0
  try clear hcz65_0
  try clear hcz68_0
  try clear hcz71_0
  try clear hcz75_0
  try clear hfz17_0
  try clear hfz20_0
  try clear hfz22_0
  try clear hfz27_0
  try clear hfz30_0
  try clear hfz32_0
  try clear hfz33_0
  try clear hfz41_0
  try clear hfz44_0
  try clear hfz46_0
  try clear hfz47_0
  try clear hfz50_0
  try clear hfz53_0
  try clear hfz55_0
  try clear hfz56_0
  try clear hfz59_0
  try clear hfz62_0
  try clear hfz64_0
  try clear hfz65_0
  try clear hfz68_0
  try clear hfz71_0
  try clear hfz75_0
  obtain ⟨kq, x49_4, rfl, HA, HJ4, BK770, BK771, BK772, HB⟩ := hcut
  cases kq with
  | zero => exact absurd HA.out (by simp [spec_GlueOf.j0])
  | succ kj4 =>
   have H := HA.out
   clear HA
   simp only [spec_GlueOf.j0] at H
   by_cases c77 : x49_4 = true
   · subst c77
     rw [if_pos rfl] at H
     simp only [Option.some.injEq, Prod.mk.injEq] at H
     obtain ⟨rfl, rfl⟩ := H
     have hnb78 := NB772_770.out
     have hnc78 := NB770_772.out
     have hnb79 := NB772_771.out
     have hnc79 := NB771_772.out
     have hcz80_0 := cz_ BK772
     have hfz80_0 := blk_frozen BK772.out 0
     go_wp2
     refine bodyPost_ret (results_ct rfl _ _ gb772 26 #[.slice none 0 0] (0, 0) _ rfl (by (with_reducible repeat (first | refine blk_drewN ?_ _ | refine blk_drew ?_ | refine blk_alloc ?_ _)); refine blk_put (cs := #[.slice none 0 0]) ?_ 0 _ rfl; (with_reducible repeat (first | refine blk_drewN ?_ _ | refine blk_drew ?_ | refine blk_alloc ?_ _)); exact BK772.out) Try.underlying26 rfl (by kernel_rfl)) rfl ?_
     exact ⟨_, rf_, by first | exact Kd.R_nil _ _ _ _ _ | exact Kd.N_nil _ _ _ _ _ | exact Kd.V_nil _ _ _ _ _ | exact Kd.Q_nil _ _ _ _ _ | exact Kd.S_nil _ _ _ _ _, bq_ HB⟩
   replace c77 := Bool.eq_false_iff.mpr c77
   subst c77
   rw [if_neg (show ¬ (false = true) by decide)] at H
   obtain ⟨t780, A81, H⟩ := ob_ H
   obtain ⟨t783, A82, H⟩ := ob_ H
   by_cases c83 : t780.length + t783.length < 17592186044416
   rotate_left
   · rw [if_neg c83] at H
     cases H
   rw [if_pos c83] at H
   have LMc83 := Aside0.mk c83
   clear c83
   obtain ⟨y786, hy786⟩ : ∃ y_ : List Int, y_ = (t780 ++ t783) := ⟨_, rfl⟩
   replace H : ((spec_FromGens.f kj4 y786).bind fun bt789 => (some (bt789.1, bt789.2))) = some (r1, r2) := by subst hy786; exact H
   have Ny786 := Aside0.mk hy786
   clear hy786
   obtain ⟨⟨t789, t792⟩, A84, H⟩ := ob_ H
   (try dsimp only at H)
   simp only [Option.some.injEq, Prod.mk.injEq] at H
   obtain ⟨rfl, rfl⟩ := H
   try go_wp2
   replace BK770 := Aside0.mk (blk_drew BK770.out)
   replace BK771 := Aside0.mk (blk_drew BK771.out)
   replace BK772 := Aside0.mk (blk_drew BK772.out)
   replace HB := Aside0.mk (below_drew1 HB.out)
   refine start_ (n := 16) (S := fun w' => w'.cell? ⟨gb770, 0, none⟩ = some (.slice A0_0 l0_0.length c0_0) ∧ w'.cell? ⟨gb771, 0, none⟩ = some (.slice A1_0 l1_0.length c1_0)) (ds := []) (B_ 0 16) (by kernel_rfl) rfl rfl ⟨(blk_cell BK770.out 0).trans rfl, (blk_cell BK771.out 0).trans rfl⟩ (fun hHeld => ?_); refine with_tabW spec_GlueOf.tab3 spec_GlueOf.bits3 (fun HT_ HW_ => ?_)
   generalize wc.drew = w85 at BK770 BK771 BK772 HB hHeld ⊢
   refine pu_ HT_ 0 52 (B_ 1 16) ?_
   refine pu_ HT_ 2 54 (B_ 5 16) ?_
   refine pu_ HT_ 4 56 (B_ 21 16) ?_
   refine pu_ HT_ 6 58 (B_ 85 16) ?_
   refine tk2_ HT_ HW_ hHeld 1 53 (B_ 87 16) ?_
   refine tk2_ HT_ HW_ hHeld 5 57 (B_ 119 16) ?_
   refine join_ (σ := Value × Value × Value × Value × Nat) 2 (B_ 16383 16) (fun s_ => [(55, s_.1), (59, s_.2.1), (60, s_.2.2.1), (61, .tuple #[.agg #[s_.2.2.2.1], .bool t792]), (10, .pointer (some ⟨s_.2.2.2.2, 0, none⟩)), (51, .tuple #[.agg #[s_.2.2.2.1], .bool t792]), (62, .agg #[s_.2.2.2.1]), (63, .bool t792)]) (fun s_ w' => (w'.cell? ⟨gb770, 0, none⟩ = some (.slice A0_0 l0_0.length c0_0) ∧ w'.cell? ⟨gb771, 0, none⟩ = some (.slice A1_0 l1_0.length c1_0)) ∧ (Kd.R (Kd.int .i64) 3 w' w.heap.size (fun k_ => some k_ ≠ (s_.2.2.1 : Value).ownBlock ∧ some k_ ≠ (s_.2.2.2.1 : Value).ownBlock) s_.2.1 t783) ∧ (Kd.R (Kd.int .i64) 3 w' w.heap.size (fun k_ => some k_ ≠ (s_.2.1 : Value).ownBlock ∧ some k_ ≠ (s_.2.2.2.1 : Value).ownBlock) s_.2.2.1 y786) ∧ (Kd.R (Kd.int .i64) 3 w' w.heap.size (fun k_ => some k_ ≠ (s_.2.1 : Value).ownBlock ∧ some k_ ≠ (s_.2.2.1 : Value).ownBlock) s_.2.2.2.1 t789) ∧ (w'.heap[gb770]? = some (.cells #[.slice A0_0 l0_0.length c0_0] 26 (0, 0))) ∧ (w'.heap[gb771]? = some (.cells #[.slice A1_0 l1_0.length c1_0] 26 (0, 0))) ∧ (w'.heap[gb772]? = some (.cells #[.slice none 0 0] 26 (0, 0))) ∧ (w'.heap[s_.2.2.2.2]? = some (.cells #[.slice none 0 0] 26 (0, 0))) ∧ (w.heap.size ≤ s_.2.2.2.2) ∧ (w.heap.size ≤ s_.2.2.2.2) ∧ (gb770 ≠ s_.2.2.2.2) ∧ (s_.2.2.2.2 ≠ gb770) ∧ (gb771 ≠ s_.2.2.2.2) ∧ (s_.2.2.2.2 ≠ gb771) ∧ (gb772 ≠ s_.2.2.2.2) ∧ (s_.2.2.2.2 ≠ gb772) ∧ (Below w.heap.size w w')) ?_ ?_
   rotate_left
   · intro hJ3_7_8_9_13
     refine join_ (σ := Value × Value × Value × Value) 3 (B_ 8191 16) (fun s_ => [(55, s_.1), (59, s_.2.1), (60, s_.2.2.1), (61, .tuple #[.agg #[s_.2.2.2], .bool t792]), (51, .tuple #[.agg #[s_.2.2.2], .bool t792]), (62, .agg #[s_.2.2.2]), (63, .bool t792)]) (fun s_ w' => (w'.cell? ⟨gb770, 0, none⟩ = some (.slice A0_0 l0_0.length c0_0) ∧ w'.cell? ⟨gb771, 0, none⟩ = some (.slice A1_0 l1_0.length c1_0)) ∧ (Kd.R (Kd.int .i64) 3 w' w.heap.size (fun k_ => some k_ ≠ (s_.2.2.1 : Value).ownBlock ∧ some k_ ≠ (s_.2.2.2 : Value).ownBlock) s_.2.1 t783) ∧ (Kd.R (Kd.int .i64) 3 w' w.heap.size (fun k_ => some k_ ≠ (s_.2.1 : Value).ownBlock ∧ some k_ ≠ (s_.2.2.2 : Value).ownBlock) s_.2.2.1 y786) ∧ (Kd.R (Kd.int .i64) 3 w' w.heap.size (fun k_ => some k_ ≠ (s_.2.1 : Value).ownBlock ∧ some k_ ≠ (s_.2.2.1 : Value).ownBlock) s_.2.2.2 t789) ∧ (w'.heap[gb770]? = some (.cells #[.slice A0_0 l0_0.length c0_0] 26 (0, 0))) ∧ (w'.heap[gb771]? = some (.cells #[.slice A1_0 l1_0.length c1_0] 26 (0, 0))) ∧ (w'.heap[gb772]? = some (.cells #[.slice none 0 0] 26 (0, 0))) ∧ (Below w.heap.size w w')) ?_ ?_
     rotate_left
     · intro hJ3_7_8_9
       refine join_ (σ := Value × Value × Value × Nat) 6 (B_ 8703 16) (fun s_ => [(55, s_.1), (59, s_.2.1), (60, s_.2.2.1), (10, .pointer (some ⟨s_.2.2.2, 0, none⟩))]) (fun s_ w' => (w'.cell? ⟨gb770, 0, none⟩ = some (.slice A0_0 l0_0.length c0_0) ∧ w'.cell? ⟨gb771, 0, none⟩ = some (.slice A1_0 l1_0.length c1_0)) ∧ (Kd.R (Kd.int .i64) 3 w' w.heap.size (fun k_ => some k_ ≠ (s_.2.2.1 : Value).ownBlock) s_.2.1 t783) ∧ (Kd.R (Kd.int .i64) 3 w' w.heap.size (fun k_ => some k_ ≠ (s_.2.1 : Value).ownBlock) s_.2.2.1 y786) ∧ (w'.heap[gb770]? = some (.cells #[.slice A0_0 l0_0.length c0_0] 26 (0, 0))) ∧ (w'.heap[gb771]? = some (.cells #[.slice A1_0 l1_0.length c1_0] 26 (0, 0))) ∧ (w'.heap[gb772]? = some (.cells #[.slice none 0 0] 26 (0, 0))) ∧ (w'.heap[s_.2.2.2]? = some (.cells #[.slice none 0 0] 26 (0, 0))) ∧ (w.heap.size ≤ s_.2.2.2) ∧ (w.heap.size ≤ s_.2.2.2) ∧ (gb770 ≠ s_.2.2.2) ∧ (s_.2.2.2 ≠ gb770) ∧ (gb771 ≠ s_.2.2.2) ∧ (s_.2.2.2 ≠ gb771) ∧ (gb772 ≠ s_.2.2.2) ∧ (s_.2.2.2 ≠ gb772) ∧ (Below w.heap.size w w')) ?_ ?_
       rotate_left
       · intro hJ3_7_8_13
         refine join_ (σ := Value × Value × Value) 7 (B_ 511 16) (fun s_ => [(55, s_.1), (59, s_.2.1), (60, s_.2.2)]) (fun s_ w' => (w'.cell? ⟨gb770, 0, none⟩ = some (.slice A0_0 l0_0.length c0_0) ∧ w'.cell? ⟨gb771, 0, none⟩ = some (.slice A1_0 l1_0.length c1_0)) ∧ (Kd.R (Kd.int .i64) 3 w' w.heap.size (fun k_ => some k_ ≠ (s_.2.2 : Value).ownBlock) s_.2.1 t783) ∧ (Kd.R (Kd.int .i64) 3 w' w.heap.size (fun k_ => some k_ ≠ (s_.2.1 : Value).ownBlock) s_.2.2 y786) ∧ (w'.heap[gb770]? = some (.cells #[.slice A0_0 l0_0.length c0_0] 26 (0, 0))) ∧ (w'.heap[gb771]? = some (.cells #[.slice A1_0 l1_0.length c1_0] 26 (0, 0))) ∧ (w'.heap[gb772]? = some (.cells #[.slice none 0 0] 26 (0, 0))) ∧ (Below w.heap.size w w')) ?_ ?_
         rotate_left
         · intro hJ3_7_8
           refine join_ (σ := Value × Value × Nat) 7 (B_ 8447 16) (fun s_ => [(55, s_.1), (59, s_.2.1), (10, .pointer (some ⟨s_.2.2, 0, none⟩))]) (fun s_ w' => (w'.cell? ⟨gb770, 0, none⟩ = some (.slice A0_0 l0_0.length c0_0) ∧ w'.cell? ⟨gb771, 0, none⟩ = some (.slice A1_0 l1_0.length c1_0)) ∧ (Kd.R (Kd.int .i64) 3 w' w.heap.size (fun k_ => some k_ ≠ (s_.2.1 : Value).ownBlock) s_.1 t780) ∧ (Kd.R (Kd.int .i64) 3 w' w.heap.size (fun k_ => some k_ ≠ (s_.1 : Value).ownBlock) s_.2.1 t783) ∧ (w'.heap[gb770]? = some (.cells #[.slice A0_0 l0_0.length c0_0] 26 (0, 0))) ∧ (w'.heap[gb771]? = some (.cells #[.slice A1_0 l1_0.length c1_0] 26 (0, 0))) ∧ (w'.heap[gb772]? = some (.cells #[.slice none 0 0] 26 (0, 0))) ∧ (w'.heap[s_.2.2]? = some (.cells #[.slice none 0 0] 26 (0, 0))) ∧ (w.heap.size ≤ s_.2.2) ∧ (w.heap.size ≤ s_.2.2) ∧ (gb770 ≠ s_.2.2) ∧ (s_.2.2 ≠ gb770) ∧ (gb771 ≠ s_.2.2) ∧ (s_.2.2 ≠ gb771) ∧ (gb772 ≠ s_.2.2) ∧ (s_.2.2 ≠ gb772) ∧ (Below w.heap.size w w')) ?_ ?_
           rotate_left
           · intro hJ3_7_13
             refine join_ (σ := Value × Value) 8 (B_ 255 16) (fun s_ => [(55, s_.1), (59, s_.2)]) (fun s_ w' => (w'.cell? ⟨gb770, 0, none⟩ = some (.slice A0_0 l0_0.length c0_0) ∧ w'.cell? ⟨gb771, 0, none⟩ = some (.slice A1_0 l1_0.length c1_0)) ∧ (Kd.R (Kd.int .i64) 3 w' w.heap.size (fun k_ => some k_ ≠ (s_.2 : Value).ownBlock) s_.1 t780) ∧ (Kd.R (Kd.int .i64) 3 w' w.heap.size (fun k_ => some k_ ≠ (s_.1 : Value).ownBlock) s_.2 t783) ∧ (w'.heap[gb770]? = some (.cells #[.slice A0_0 l0_0.length c0_0] 26 (0, 0))) ∧ (w'.heap[gb771]? = some (.cells #[.slice A1_0 l1_0.length c1_0] 26 (0, 0))) ∧ (w'.heap[gb772]? = some (.cells #[.slice none 0 0] 26 (0, 0))) ∧ (Below w.heap.size w w')) ?_ ?_
             rotate_left
             · intro hJ3_7
               refine join_ (σ := Value × Nat) 8 (B_ 8319 16) (fun s_ => [(55, s_.1), (10, .pointer (some ⟨s_.2, 0, none⟩))]) (fun s_ w' => (w'.cell? ⟨gb770, 0, none⟩ = some (.slice A0_0 l0_0.length c0_0) ∧ w'.cell? ⟨gb771, 0, none⟩ = some (.slice A1_0 l1_0.length c1_0)) ∧ (Kd.R (Kd.int .i64) 3 w' w.heap.size (fun _ => True) s_.1 t780) ∧ (w'.heap[gb770]? = some (.cells #[.slice A0_0 l0_0.length c0_0] 26 (0, 0))) ∧ (w'.heap[gb771]? = some (.cells #[.slice A1_0 l1_0.length c1_0] 26 (0, 0))) ∧ (w'.heap[gb772]? = some (.cells #[.slice none 0 0] 26 (0, 0))) ∧ (w'.heap[s_.2]? = some (.cells #[.slice none 0 0] 26 (0, 0))) ∧ (w.heap.size ≤ s_.2) ∧ (w.heap.size ≤ s_.2) ∧ (gb770 ≠ s_.2) ∧ (s_.2 ≠ gb770) ∧ (gb771 ≠ s_.2) ∧ (s_.2 ≠ gb771) ∧ (gb772 ≠ s_.2) ∧ (s_.2 ≠ gb772) ∧ (Below w.heap.size w w')) ?_ ?_
               rotate_left
               · intro hJ3_13
                 refine join_ (σ := Value) 9 (B_ 127 16) (fun s_ => [(55, s_)]) (fun s_ w' => (w'.cell? ⟨gb770, 0, none⟩ = some (.slice A0_0 l0_0.length c0_0) ∧ w'.cell? ⟨gb771, 0, none⟩ = some (.slice A1_0 l1_0.length c1_0)) ∧ (Kd.R (Kd.int .i64) 3 w' w.heap.size (fun _ => True) s_ t780) ∧ (w'.heap[gb770]? = some (.cells #[.slice A0_0 l0_0.length c0_0] 26 (0, 0))) ∧ (w'.heap[gb771]? = some (.cells #[.slice A1_0 l1_0.length c1_0] 26 (0, 0))) ∧ (w'.heap[gb772]? = some (.cells #[.slice none 0 0] 26 (0, 0))) ∧ (Below w.heap.size w w')) ?_ ?_
                 rotate_left
                 · intro hJ3
                   refine join_ (σ := Nat) 9 (B_ 8311 16) (fun s_ => [(10, .pointer (some ⟨s_, 0, none⟩))]) (fun s_ w' => (w'.cell? ⟨gb770, 0, none⟩ = some (.slice A0_0 l0_0.length c0_0) ∧ w'.cell? ⟨gb771, 0, none⟩ = some (.slice A1_0 l1_0.length c1_0)) ∧ (w'.heap[gb770]? = some (.cells #[.slice A0_0 l0_0.length c0_0] 26 (0, 0))) ∧ (w'.heap[gb771]? = some (.cells #[.slice A1_0 l1_0.length c1_0] 26 (0, 0))) ∧ (w'.heap[gb772]? = some (.cells #[.slice none 0 0] 26 (0, 0))) ∧ (w'.heap[s_]? = some (.cells #[.slice none 0 0] 26 (0, 0))) ∧ (w.heap.size ≤ s_) ∧ (w.heap.size ≤ s_) ∧ (gb770 ≠ s_) ∧ (s_ ≠ gb770) ∧ (gb771 ≠ s_) ∧ (s_ ≠ gb771) ∧ (gb772 ≠ s_) ∧ (s_ ≠ gb772) ∧ (Below w.heap.size w w')) ?_ ?_
                   rotate_left
                   · intro hJ13
                     refine two_ (i := 3) (j := 13) (Ni := some 55) (Nj := some 10) (B_ 127 16) (B_ 8311 16) rfl rfl rfl rfl (two_of HT_.out (by kernel_rfl)) (by decide) (by decide) (fun K hK => ?_) (fun K hK => ?_)
                     · skip
                       refine goes_ Try.func29 (by kernel_rfl) rfl #[.slice A0_0 l0_0.length c0_0, .int .i64 a2] (by rfl) rfl rfl (by (try simp only [List.map_toArray, List.map_cons, List.map_nil]); first | done | rfl | (simp only [List.length_drop, List.length_take]; rfl)) ?_
                       with_reducible refine (spec_l22Times.calls kj4 _ _ l0_0 a2 t780 _ ?side1 ?side2 A81.out).mono ?_
                       (case side1 => exact ch_ HR0_0 HB)
                       (case side2 => exact HC0_0.out)
                       rintro e w86 ⟨v781, rfl, ho0, hb⟩
                       refine ⟨_, rfl, ?_⟩
                       have HO782 := Aside0.mk (Kd.R_lower ho0 (below_size (bq_ HB)))
                       replace BK770 := bk_ BK770 hb
                       replace BK771 := bk_ BK771 hb
                       replace BK772 := bk_ BK772 hb
                       replace HB := bp_ HB hb
                       (try clear hb)
                       (try clear ho0)
                       refine hK.out _ _ ⟨(blk_cell BK770.out 0).trans rfl, (blk_cell BK771.out 0).trans rfl⟩ (fun hHeld => ?_)
                       clear hK K
                       refine norm_ (a' := ?_) ?_ ?_
                       rotate_left
                       · show Act.put _ (some 55) _ = _
                         simp only [Act.put, z1_, z2_, z3_, i64_w, i32_w]
                         rfl
                       exact norm_ (by first | (simp only [putAll, Act.put, z1_, z2_, z3_]; done) | (simp only [putAll, Act.put, z1_, z2_, z3_]; rfl)) (hJ3 (v781) _ ⟨hHeld, (re_ HO782.out), (be_ BK770.out), (be_ BK771.out), (be_ BK772.out), (bq_ HB)⟩)
                     · skip
                       refine box_step ?hg (N := 10) ?hd (cs := #[.slice none 0 0]) (t := 26) ?hr ?_; (case hd => rfl); (case hg => rfl); (case hr => first | (go_simp; done) | (go_simp; rfl))
                       intro gb793 hg w86 hbox hb
                       have BK793 := Aside0.mk (hbox)
                       have GW793 := gq_ hg (bq_ HB)
                       have GE793 := gq_ hg (bq_ HB)
                       replace HB := bp_ HB hb
                       have NB770_793 := nl_ hg BK770
                       have NB793_770 := ng_ hg BK770
                       replace BK770 := bk_ BK770 hb
                       have NB771_793 := nl_ hg BK771
                       have NB793_771 := ng_ hg BK771
                       replace BK771 := bk_ BK771 hb
                       have NB772_793 := nl_ hg BK772
                       have NB793_772 := ng_ hg BK772
                       replace BK772 := bk_ BK772 hb
                       clear hb hbox hg
                       refine hK.out _ _ ⟨(blk_cell BK770.out 0).trans rfl, (blk_cell BK771.out 0).trans rfl⟩ (fun hHeld => ?_)
                       clear hK K
                       refine norm_ (a' := ?_) ?_ ?_
                       rotate_left
                       · show Act.put _ (some 10) _ = _
                         simp only [Act.put, z1_, z2_, z3_, i64_w, i32_w]
                         rfl
                       exact norm_ (by first | (simp only [putAll, Act.put, z1_, z2_, z3_]; done) | (simp only [putAll, Act.put, z1_, z2_, z3_]; rfl)) (hJ13 (gb793) _ ⟨hHeld, (be_ BK770.out), (be_ BK771.out), (be_ BK772.out), (be_ BK793.out), GW793.out, GE793.out, NB770_793.out, NB793_770.out, NB771_793.out, NB793_771.out, NB772_793.out, NB793_772.out, (bq_ HB)⟩)
                   · skip
                     rintro gb793 w87 ⟨hS_, h0_, h1_, h2_, h3_, h4_, h5_, h6_, h7_, h8_, h9_, h10_, h11_, h12_⟩
                     have n0_ : Aside0 (w87.heap[gb770]? = some (.cells #[.slice A0_0 l0_0.length c0_0] 26 (0, 0))) := ⟨h0_⟩
                     have n1_ : Aside0 (w87.heap[gb771]? = some (.cells #[.slice A1_0 l1_0.length c1_0] 26 (0, 0))) := ⟨h1_⟩
                     have n2_ : Aside0 (w87.heap[gb772]? = some (.cells #[.slice none 0 0] 26 (0, 0))) := ⟨h2_⟩
                     have n3_ : Aside0 (w87.heap[gb793]? = some (.cells #[.slice none 0 0] 26 (0, 0))) := ⟨h3_⟩
                     have n4_ : Aside0 (w.heap.size ≤ gb793) := ⟨h4_⟩
                     have n5_ : Aside0 (w.heap.size ≤ gb793) := ⟨h5_⟩
                     have n6_ : Aside0 (gb770 ≠ gb793) := ⟨h6_⟩
                     have n7_ : Aside0 (gb793 ≠ gb770) := ⟨h7_⟩
                     have n8_ : Aside0 (gb771 ≠ gb793) := ⟨h8_⟩
                     have n9_ : Aside0 (gb793 ≠ gb771) := ⟨h9_⟩
                     have n10_ : Aside0 (gb772 ≠ gb793) := ⟨h10_⟩
                     have n11_ : Aside0 (gb793 ≠ gb772) := ⟨h11_⟩
                     have n12_ : Aside0 (Below w.heap.size w w87) := ⟨h12_⟩
                     clear BK770
                     clear BK771
                     clear BK772
                     clear HB
                     clear h0_ h1_ h2_ h3_ h4_ h5_ h6_ h7_ h8_ h9_ h10_ h11_ h12_
                     have BK770 := n0_
                     have BK771 := n1_
                     have BK772 := n2_
                     have BK793 := n3_
                     have GW793 := n4_
                     have GE793 := n5_
                     have NB770_793 := n6_
                     have NB793_770 := n7_
                     have NB771_793 := n8_
                     have NB793_771 := n9_
                     have NB772_793 := n10_
                     have NB793_772 := n11_
                     have HB := n12_
                     clear n0_ n1_ n2_ n3_ n4_ n5_ n6_ n7_ n8_ n9_ n10_ n11_ n12_
                     have hHeld : w87.cell? ⟨gb770, 0, none⟩ = some (.slice A0_0 l0_0.length c0_0) ∧ w87.cell? ⟨gb771, 0, none⟩ = some (.slice A1_0 l1_0.length c1_0) := hS_
                     refine norm_ (a' := ?_) ?_ ?_
                     rotate_left
                     · simp only [putAll, Act.put, z1_, z2_, z3_]
                       rfl
                     refine on_ HT_ 3 55 (B_ 8319 16) (fun K hK => ?_)
                     refine goes_ Try.func29 (by kernel_rfl) rfl #[.slice A0_0 l0_0.length c0_0, .int .i64 a2] (by rfl) rfl rfl (by (try simp only [List.map_toArray, List.map_cons, List.map_nil]); first | done | rfl | (simp only [List.length_drop, List.length_take]; rfl)) ?_
                     with_reducible refine (spec_l22Times.calls kj4 _ _ l0_0 a2 t780 _ ?side1 ?side2 A81.out).mono ?_
                     (case side1 => exact ch_ HR0_0 HB)
                     (case side2 => exact HC0_0.out)
                     rintro e w88 ⟨v781, rfl, ho0, hb⟩
                     refine ⟨_, rfl, ?_⟩
                     have HO782 := Aside0.mk (Kd.R_lower ho0 (below_size (bq_ HB)))
                     replace BK770 := bk_ BK770 hb
                     replace BK771 := bk_ BK771 hb
                     replace BK772 := bk_ BK772 hb
                     replace BK793 := bk_ BK793 hb
                     replace HB := bp_ HB hb
                     (try clear hb)
                     (try clear ho0)
                     refine hK.out _ _ ⟨(blk_cell BK770.out 0).trans rfl, (blk_cell BK771.out 0).trans rfl⟩ (fun hHeld => ?_)
                     clear hK K
                     refine norm_ (a' := ?_) ?_ ?_
                     rotate_left
                     · show Act.put _ (some 55) _ = _
                       simp only [Act.put, z1_, z2_, z3_, i64_w, i32_w]
                       rfl
                     exact norm_ (by first | (simp only [putAll, Act.put, z1_, z2_, z3_]; done) | (simp only [putAll, Act.put, z1_, z2_, z3_]; rfl)) (hJ3_13 (v781, gb793) _ ⟨hHeld, (re_ HO782.out), (be_ BK770.out), (be_ BK771.out), (be_ BK772.out), (be_ BK793.out), GW793.out, GE793.out, NB770_793.out, NB793_770.out, NB771_793.out, NB793_771.out, NB772_793.out, NB793_772.out, (bq_ HB)⟩)
                 · skip
                   rintro v781 w87 ⟨hS_, h0_, h1_, h2_, h3_, h4_⟩
                   have n0_ : Aside0 (Kd.R (Kd.int .i64) 3 w87 w.heap.size (fun _ => True) v781 t780) := ⟨h0_⟩
                   have n1_ : Aside0 (w87.heap[gb770]? = some (.cells #[.slice A0_0 l0_0.length c0_0] 26 (0, 0))) := ⟨h1_⟩
                   have n2_ : Aside0 (w87.heap[gb771]? = some (.cells #[.slice A1_0 l1_0.length c1_0] 26 (0, 0))) := ⟨h2_⟩
                   have n3_ : Aside0 (w87.heap[gb772]? = some (.cells #[.slice none 0 0] 26 (0, 0))) := ⟨h3_⟩
                   have n4_ : Aside0 (Below w.heap.size w w87) := ⟨h4_⟩
                   clear BK770
                   clear BK771
                   clear BK772
                   clear HB
                   clear h0_ h1_ h2_ h3_ h4_
                   have HO782 := n0_
                   have BK770 := n1_
                   have BK771 := n2_
                   have BK772 := n3_
                   have HB := n4_
                   clear n0_ n1_ n2_ n3_ n4_
                   have hHeld : w87.cell? ⟨gb770, 0, none⟩ = some (.slice A0_0 l0_0.length c0_0) ∧ w87.cell? ⟨gb771, 0, none⟩ = some (.slice A1_0 l1_0.length c1_0) := hS_
                   refine norm_ (a' := ?_) ?_ ?_
                   rotate_left
                   · simp only [putAll, Act.put, z1_, z2_, z3_]
                     rfl
                   refine two_ (i := 7) (j := 13) (Ni := some 59) (Nj := some 10) (B_ 255 16) (B_ 8319 16) rfl rfl rfl rfl (two_of HT_.out (by kernel_rfl)) (by decide) (by decide) (fun K hK => ?_) (fun K hK => ?_)
                   · skip
                     refine goes_ Try.func29 (by kernel_rfl) rfl #[.slice A1_0 l1_0.length c1_0, .int .i64 a3] (by rfl) rfl rfl (by (try simp only [List.map_toArray, List.map_cons, List.map_nil]); first | done | rfl | (simp only [List.length_drop, List.length_take]; rfl)) ?_
                     with_reducible refine (spec_l22Times.calls kj4 _ _ l1_0 a3 t783 _ ?side1 ?side2 A82.out).mono ?_
                     (case side1 => exact ch_ HR1_0 HB)
                     (case side2 => exact HC1_0.out)
                     rintro e w88 ⟨v784, rfl, ho0, hb⟩
                     refine ⟨_, rfl, ?_⟩
                     have HO785 := Aside0.mk (Kd.R_lower (Kd.R_new' ho0 (Kd.R_lt (re_ HO782.out))) (below_size (bq_ HB)))
                     replace HO782 := Aside0.mk (Kd.R_elder' (re_ HO782.out) (Kd.R_base ho0) hb)
                     replace BK770 := bk_ BK770 hb
                     replace BK771 := bk_ BK771 hb
                     replace BK772 := bk_ BK772 hb
                     replace HB := bp_ HB hb
                     (try clear hb)
                     (try clear ho0)
                     refine hK.out _ _ ⟨(blk_cell BK770.out 0).trans rfl, (blk_cell BK771.out 0).trans rfl⟩ (fun hHeld => ?_)
                     clear hK K
                     refine norm_ (a' := ?_) ?_ ?_
                     rotate_left
                     · show Act.put _ (some 59) _ = _
                       simp only [Act.put, z1_, z2_, z3_, i64_w, i32_w]
                       rfl
                     exact norm_ (by first | (simp only [putAll, Act.put, z1_, z2_, z3_]; done) | (simp only [putAll, Act.put, z1_, z2_, z3_]; rfl)) (hJ3_7 (v781, v784) _ ⟨hHeld, (by (with_reducible repeat (first | apply Kd.R_alloc | apply Kd.R_drewN | apply Kd.R_drew)); exact Kd.R_mono HO782.out (fun _ hk => hk.2)), (by (with_reducible repeat (first | apply Kd.R_alloc | apply Kd.R_drewN | apply Kd.R_drew)); exact Kd.R_mono HO785.out (fun _ hk => hk.2)), (be_ BK770.out), (be_ BK771.out), (be_ BK772.out), (bq_ HB)⟩)
                   · skip
                     refine box_step ?hg (N := 10) ?hd (cs := #[.slice none 0 0]) (t := 26) ?hr ?_; (case hd => rfl); (case hg => rfl); (case hr => first | (go_simp; done) | (go_simp; rfl))
                     intro gb793 hg w88 hbox hb
                     replace HO782 := Aside0.mk (Kd.R_below (re_ HO782.out) hb)
                     have BK793 := Aside0.mk (hbox)
                     have GW793 := gq_ hg (bq_ HB)
                     have GE793 := gq_ hg (bq_ HB)
                     replace HB := bp_ HB hb
                     have NB770_793 := nl_ hg BK770
                     have NB793_770 := ng_ hg BK770
                     replace BK770 := bk_ BK770 hb
                     have NB771_793 := nl_ hg BK771
                     have NB793_771 := ng_ hg BK771
                     replace BK771 := bk_ BK771 hb
                     have NB772_793 := nl_ hg BK772
                     have NB793_772 := ng_ hg BK772
                     replace BK772 := bk_ BK772 hb
                     clear hb hbox hg
                     refine hK.out _ _ ⟨(blk_cell BK770.out 0).trans rfl, (blk_cell BK771.out 0).trans rfl⟩ (fun hHeld => ?_)
                     clear hK K
                     refine norm_ (a' := ?_) ?_ ?_
                     rotate_left
                     · show Act.put _ (some 10) _ = _
                       simp only [Act.put, z1_, z2_, z3_, i64_w, i32_w]
                       rfl
                     exact norm_ (by first | (simp only [putAll, Act.put, z1_, z2_, z3_]; done) | (simp only [putAll, Act.put, z1_, z2_, z3_]; rfl)) (hJ3_13 (v781, gb793) _ ⟨hHeld, (re_ HO782.out), (be_ BK770.out), (be_ BK771.out), (be_ BK772.out), (be_ BK793.out), GW793.out, GE793.out, NB770_793.out, NB793_770.out, NB771_793.out, NB793_771.out, NB772_793.out, NB793_772.out, (bq_ HB)⟩)
               · skip
                 rintro ⟨v781, gb793⟩ w88 ⟨hS_, h0_, h1_, h2_, h3_, h4_, h5_, h6_, h7_, h8_, h9_, h10_, h11_, h12_, h13_⟩
                 have n0_ : Aside0 (Kd.R (Kd.int .i64) 3 w88 w.heap.size (fun _ => True) v781 t780) := ⟨h0_⟩
                 have n1_ : Aside0 (w88.heap[gb770]? = some (.cells #[.slice A0_0 l0_0.length c0_0] 26 (0, 0))) := ⟨h1_⟩
                 have n2_ : Aside0 (w88.heap[gb771]? = some (.cells #[.slice A1_0 l1_0.length c1_0] 26 (0, 0))) := ⟨h2_⟩
                 have n3_ : Aside0 (w88.heap[gb772]? = some (.cells #[.slice none 0 0] 26 (0, 0))) := ⟨h3_⟩
                 have n4_ : Aside0 (w88.heap[gb793]? = some (.cells #[.slice none 0 0] 26 (0, 0))) := ⟨h4_⟩
                 have n5_ : Aside0 (w.heap.size ≤ gb793) := ⟨h5_⟩
                 have n6_ : Aside0 (w.heap.size ≤ gb793) := ⟨h6_⟩
                 have n7_ : Aside0 (gb770 ≠ gb793) := ⟨h7_⟩
                 have n8_ : Aside0 (gb793 ≠ gb770) := ⟨h8_⟩
                 have n9_ : Aside0 (gb771 ≠ gb793) := ⟨h9_⟩
                 have n10_ : Aside0 (gb793 ≠ gb771) := ⟨h10_⟩
                 have n11_ : Aside0 (gb772 ≠ gb793) := ⟨h11_⟩
                 have n12_ : Aside0 (gb793 ≠ gb772) := ⟨h12_⟩
                 have n13_ : Aside0 (Below w.heap.size w w88) := ⟨h13_⟩
                 clear BK770
                 clear BK771
                 clear BK772
                 clear HB
                 clear h0_ h1_ h2_ h3_ h4_ h5_ h6_ h7_ h8_ h9_ h10_ h11_ h12_ h13_
                 have HO782 := n0_
                 have BK770 := n1_
                 have BK771 := n2_
                 have BK772 := n3_
                 have BK793 := n4_
                 have GW793 := n5_
                 have GE793 := n6_
                 have NB770_793 := n7_
                 have NB793_770 := n8_
                 have NB771_793 := n9_
                 have NB793_771 := n10_
                 have NB772_793 := n11_
                 have NB793_772 := n12_
                 have HB := n13_
                 clear n0_ n1_ n2_ n3_ n4_ n5_ n6_ n7_ n8_ n9_ n10_ n11_ n12_ n13_
                 have hHeld : w88.cell? ⟨gb770, 0, none⟩ = some (.slice A0_0 l0_0.length c0_0) ∧ w88.cell? ⟨gb771, 0, none⟩ = some (.slice A1_0 l1_0.length c1_0) := hS_
                 refine norm_ (a' := ?_) ?_ ?_
                 rotate_left
                 · simp only [putAll, Act.put, z1_, z2_, z3_]
                   rfl
                 refine on_ HT_ 7 59 (B_ 8447 16) (fun K hK => ?_)
                 refine goes_ Try.func29 (by kernel_rfl) rfl #[.slice A1_0 l1_0.length c1_0, .int .i64 a3] (by rfl) rfl rfl (by (try simp only [List.map_toArray, List.map_cons, List.map_nil]); first | done | rfl | (simp only [List.length_drop, List.length_take]; rfl)) ?_
                 with_reducible refine (spec_l22Times.calls kj4 _ _ l1_0 a3 t783 _ ?side1 ?side2 A82.out).mono ?_
                 (case side1 => exact ch_ HR1_0 HB)
                 (case side2 => exact HC1_0.out)
                 rintro e w89 ⟨v784, rfl, ho0, hb⟩
                 refine ⟨_, rfl, ?_⟩
                 have HO785 := Aside0.mk (Kd.R_lower (Kd.R_new' ho0 (Kd.R_lt (re_ HO782.out))) (below_size (bq_ HB)))
                 replace HO782 := Aside0.mk (Kd.R_elder' (re_ HO782.out) (Kd.R_base ho0) hb)
                 replace BK770 := bk_ BK770 hb
                 replace BK771 := bk_ BK771 hb
                 replace BK772 := bk_ BK772 hb
                 replace BK793 := bk_ BK793 hb
                 replace HB := bp_ HB hb
                 (try clear hb)
                 (try clear ho0)
                 refine hK.out _ _ ⟨(blk_cell BK770.out 0).trans rfl, (blk_cell BK771.out 0).trans rfl⟩ (fun hHeld => ?_)
                 clear hK K
                 refine norm_ (a' := ?_) ?_ ?_
                 rotate_left
                 · show Act.put _ (some 59) _ = _
                   simp only [Act.put, z1_, z2_, z3_, i64_w, i32_w]
                   rfl
                 exact norm_ (by first | (simp only [putAll, Act.put, z1_, z2_, z3_]; done) | (simp only [putAll, Act.put, z1_, z2_, z3_]; rfl)) (hJ3_7_13 (v781, v784, gb793) _ ⟨hHeld, (by (with_reducible repeat (first | apply Kd.R_alloc | apply Kd.R_drewN | apply Kd.R_drew)); exact Kd.R_mono HO782.out (fun _ hk => hk.2)), (by (with_reducible repeat (first | apply Kd.R_alloc | apply Kd.R_drewN | apply Kd.R_drew)); exact Kd.R_mono HO785.out (fun _ hk => hk.2)), (be_ BK770.out), (be_ BK771.out), (be_ BK772.out), (be_ BK793.out), GW793.out, GE793.out, NB770_793.out, NB793_770.out, NB771_793.out, NB793_771.out, NB772_793.out, NB793_772.out, (bq_ HB)⟩)
             · skip
               rintro ⟨v781, v784⟩ w88 ⟨hS_, h0_, h1_, h2_, h3_, h4_, h5_⟩
               have n0_ : Aside0 (Kd.R (Kd.int .i64) 3 w88 w.heap.size (fun k_ => some k_ ≠ (v784 : Value).ownBlock) v781 t780) := ⟨h0_⟩
               have n1_ : Aside0 (Kd.R (Kd.int .i64) 3 w88 w.heap.size (fun k_ => some k_ ≠ (v781 : Value).ownBlock) v784 t783) := ⟨h1_⟩
               have n2_ : Aside0 (w88.heap[gb770]? = some (.cells #[.slice A0_0 l0_0.length c0_0] 26 (0, 0))) := ⟨h2_⟩
               have n3_ : Aside0 (w88.heap[gb771]? = some (.cells #[.slice A1_0 l1_0.length c1_0] 26 (0, 0))) := ⟨h3_⟩
               have n4_ : Aside0 (w88.heap[gb772]? = some (.cells #[.slice none 0 0] 26 (0, 0))) := ⟨h4_⟩
               have n5_ : Aside0 (Below w.heap.size w w88) := ⟨h5_⟩
               clear BK770
               clear BK771
               clear BK772
               clear HB
               clear h0_ h1_ h2_ h3_ h4_ h5_
               have HO782 := n0_
               have HO785 := n1_
               have BK770 := n2_
               have BK771 := n3_
               have BK772 := n4_
               have HB := n5_
               clear n0_ n1_ n2_ n3_ n4_ n5_
               have hHeld : w88.cell? ⟨gb770, 0, none⟩ = some (.slice A0_0 l0_0.length c0_0) ∧ w88.cell? ⟨gb771, 0, none⟩ = some (.slice A1_0 l1_0.length c1_0) := hS_
               obtain ⟨Ao90, co90, eo90⟩ := Kd.R_slice HO785.out
               (first | subst eo90 | (injection eo90 with f1_ f2_ f3_; have f4_ := f1_.symm; have f5_ := f3_.symm; clear f1_ f2_ f3_; subst f4_; subst f5_))
               refine norm_ (a' := ?_) ?_ ?_
               rotate_left
               · simp only [putAll, Act.put, z1_, z2_, z3_]
                 rfl
               refine two_ (i := 8) (j := 13) (Ni := some 60) (Nj := some 10) (B_ 511 16) (B_ 8447 16) rfl rfl rfl rfl (two_of HT_.out (by kernel_rfl)) (by decide) (by decide) (fun K hK => ?_) (fun K hK => ?_)
               · skip
                 refine Kd.R_append_rows_step (Kd.int .i64) (w0 := w) w.heap.size (by rfl) (.tmp 55) (.tmp 59) 24 3 (.int .i64 0) 8 rfl Try.underlying24 info3 rfl (by decide) (by omega) v781 t780 t783 _ _ _ (fun k_ => some k_ ≠ (.slice Ao90 t783.length co90 : Value).ownBlock) (fun _ => False) rfl rfl ?aO ?aR (fun _ _ h => h) (fun _ h => h.elim) ?aF ?aB ?aS ?aL ?_
                 (case aR => exact ce_ ((Kd.R_reads' HO785.out).2.2))
                 (case aB => exact (bq_ HB))
                 (case aF => exact (fun k_ hk => Kd.fresh' (Kd.R_lt (re_ HO785.out)) k_ hk))
                 (case aO => exact (re_ HO782.out))
                 (case aS => exact (below_size (bq_ HB)))
                 (case aL => have := LMc83.out; omega)
                 intro v787 w89 ho hb hg hat
                 rw [← Ny786.out] at ho
                 replace BK770 := Aside0.mk (blk_grown (be_ BK770.out) hg (Kd.R_ne HO782.out BK770.out (by decide)))
                 replace BK771 := Aside0.mk (blk_grown (be_ BK771.out) hg (Kd.R_ne HO782.out BK771.out (by decide)))
                 replace BK772 := Aside0.mk (blk_grown (be_ BK772.out) hg (Kd.R_ne HO782.out BK772.out (by decide)))
                 replace HO785 := Aside0.mk (Kd.R_after (ok := (fun _ => True)) (by (with_reducible repeat (first | apply Kd.R_alloc | apply Kd.R_drewN | apply Kd.R_drew)); exact Kd.R_mono HO785.out (fun _ hk => ⟨trivial, hk⟩)) hg hat)
                 replace HB := Aside0.mk (hb)
                 have HO788 := Aside0.mk (ho)
                 clear HO782
                 clear ho hb hg hat
                 refine hK.out _ _ ⟨(blk_cell BK770.out 0).trans rfl, (blk_cell BK771.out 0).trans rfl⟩ (fun hHeld => ?_)
                 clear hK K
                 refine norm_ (a' := ?_) ?_ ?_
                 rotate_left
                 · show Act.put _ (some 60) _ = _
                   simp only [Act.put, z1_, z2_, z3_, i64_w, i32_w]
                   rfl
                 exact norm_ (by first | (simp only [putAll, Act.put, z1_, z2_, z3_]; done) | (simp only [putAll, Act.put, z1_, z2_, z3_]; rfl)) (hJ3_7_8 (v781, .slice Ao90 t783.length co90, v787) _ ⟨hHeld, (by (with_reducible repeat (first | apply Kd.R_alloc | apply Kd.R_drewN | apply Kd.R_drew)); exact Kd.R_mono HO785.out (fun _ hk => hk.2)), (re_ HO788.out), (be_ BK770.out), (be_ BK771.out), (be_ BK772.out), (bq_ HB)⟩)
               · skip
                 refine box_step ?hg (N := 10) ?hd (cs := #[.slice none 0 0]) (t := 26) ?hr ?_; (case hd => rfl); (case hg => rfl); (case hr => first | (go_simp; done) | (go_simp; rfl))
                 intro gb793 hg w89 hbox hb
                 replace HO782 := Aside0.mk (Kd.R_below (re_ HO782.out) hb)
                 replace HO785 := Aside0.mk (Kd.R_below (re_ HO785.out) hb)
                 have BK793 := Aside0.mk (hbox)
                 have GW793 := gq_ hg (bq_ HB)
                 have GE793 := gq_ hg (bq_ HB)
                 replace HB := bp_ HB hb
                 have NB770_793 := nl_ hg BK770
                 have NB793_770 := ng_ hg BK770
                 replace BK770 := bk_ BK770 hb
                 have NB771_793 := nl_ hg BK771
                 have NB793_771 := ng_ hg BK771
                 replace BK771 := bk_ BK771 hb
                 have NB772_793 := nl_ hg BK772
                 have NB793_772 := ng_ hg BK772
                 replace BK772 := bk_ BK772 hb
                 clear hb hbox hg
                 refine hK.out _ _ ⟨(blk_cell BK770.out 0).trans rfl, (blk_cell BK771.out 0).trans rfl⟩ (fun hHeld => ?_)
                 clear hK K
                 refine norm_ (a' := ?_) ?_ ?_
                 rotate_left
                 · show Act.put _ (some 10) _ = _
                   simp only [Act.put, z1_, z2_, z3_, i64_w, i32_w]
                   rfl
                 exact norm_ (by first | (simp only [putAll, Act.put, z1_, z2_, z3_]; done) | (simp only [putAll, Act.put, z1_, z2_, z3_]; rfl)) (hJ3_7_13 (v781, .slice Ao90 t783.length co90, gb793) _ ⟨hHeld, (re_ HO782.out), (re_ HO785.out), (be_ BK770.out), (be_ BK771.out), (be_ BK772.out), (be_ BK793.out), GW793.out, GE793.out, NB770_793.out, NB793_770.out, NB771_793.out, NB793_771.out, NB772_793.out, NB793_772.out, (bq_ HB)⟩)
           · skip
             rintro ⟨v781, v784, gb793⟩ w89 ⟨hS_, h0_, h1_, h2_, h3_, h4_, h5_, h6_, h7_, h8_, h9_, h10_, h11_, h12_, h13_, h14_⟩
             have n0_ : Aside0 (Kd.R (Kd.int .i64) 3 w89 w.heap.size (fun k_ => some k_ ≠ (v784 : Value).ownBlock) v781 t780) := ⟨h0_⟩
             have n1_ : Aside0 (Kd.R (Kd.int .i64) 3 w89 w.heap.size (fun k_ => some k_ ≠ (v781 : Value).ownBlock) v784 t783) := ⟨h1_⟩
             have n2_ : Aside0 (w89.heap[gb770]? = some (.cells #[.slice A0_0 l0_0.length c0_0] 26 (0, 0))) := ⟨h2_⟩
             have n3_ : Aside0 (w89.heap[gb771]? = some (.cells #[.slice A1_0 l1_0.length c1_0] 26 (0, 0))) := ⟨h3_⟩
             have n4_ : Aside0 (w89.heap[gb772]? = some (.cells #[.slice none 0 0] 26 (0, 0))) := ⟨h4_⟩
             have n5_ : Aside0 (w89.heap[gb793]? = some (.cells #[.slice none 0 0] 26 (0, 0))) := ⟨h5_⟩
             have n6_ : Aside0 (w.heap.size ≤ gb793) := ⟨h6_⟩
             have n7_ : Aside0 (w.heap.size ≤ gb793) := ⟨h7_⟩
             have n8_ : Aside0 (gb770 ≠ gb793) := ⟨h8_⟩
             have n9_ : Aside0 (gb793 ≠ gb770) := ⟨h9_⟩
             have n10_ : Aside0 (gb771 ≠ gb793) := ⟨h10_⟩
             have n11_ : Aside0 (gb793 ≠ gb771) := ⟨h11_⟩
             have n12_ : Aside0 (gb772 ≠ gb793) := ⟨h12_⟩
             have n13_ : Aside0 (gb793 ≠ gb772) := ⟨h13_⟩
             have n14_ : Aside0 (Below w.heap.size w w89) := ⟨h14_⟩
             clear BK770
             clear BK771
             clear BK772
             clear HB
             clear h0_ h1_ h2_ h3_ h4_ h5_ h6_ h7_ h8_ h9_ h10_ h11_ h12_ h13_ h14_
             have HO782 := n0_
             have HO785 := n1_
             have BK770 := n2_
             have BK771 := n3_
             have BK772 := n4_
             have BK793 := n5_
             have GW793 := n6_
             have GE793 := n7_
             have NB770_793 := n8_
             have NB793_770 := n9_
             have NB771_793 := n10_
             have NB793_771 := n11_
             have NB772_793 := n12_
             have NB793_772 := n13_
             have HB := n14_
             clear n0_ n1_ n2_ n3_ n4_ n5_ n6_ n7_ n8_ n9_ n10_ n11_ n12_ n13_ n14_
             have hHeld : w89.cell? ⟨gb770, 0, none⟩ = some (.slice A0_0 l0_0.length c0_0) ∧ w89.cell? ⟨gb771, 0, none⟩ = some (.slice A1_0 l1_0.length c1_0) := hS_
             obtain ⟨Ao91, co91, eo91⟩ := Kd.R_slice HO785.out
             (first | subst eo91 | (injection eo91 with f1_ f2_ f3_; have f4_ := f1_.symm; have f5_ := f3_.symm; clear f1_ f2_ f3_; subst f4_; subst f5_))
             refine norm_ (a' := ?_) ?_ ?_
             rotate_left
             · simp only [putAll, Act.put, z1_, z2_, z3_]
               rfl
             refine on_ HT_ 8 60 (B_ 8703 16) (fun K hK => ?_)
             refine Kd.R_append_rows_step (Kd.int .i64) (w0 := w) w.heap.size (by rfl) (.tmp 55) (.tmp 59) 24 3 (.int .i64 0) 8 rfl Try.underlying24 info3 rfl (by decide) (by omega) v781 t780 t783 _ _ _ (fun k_ => some k_ ≠ (.slice Ao91 t783.length co91 : Value).ownBlock) (fun _ => False) rfl rfl ?aO ?aR (fun _ _ h => h) (fun _ h => h.elim) ?aF ?aB ?aS ?aL ?_
             (case aR => exact ce_ ((Kd.R_reads' HO785.out).2.2))
             (case aB => exact (bq_ HB))
             (case aF => exact (fun k_ hk => Kd.fresh' (Kd.R_lt (re_ HO785.out)) k_ hk))
             (case aO => exact (re_ HO782.out))
             (case aS => exact (below_size (bq_ HB)))
             (case aL => have := LMc83.out; omega)
             intro v787 w90 ho hb hg hat
             rw [← Ny786.out] at ho
             replace BK770 := Aside0.mk (blk_grown (be_ BK770.out) hg (Kd.R_ne HO782.out BK770.out (by decide)))
             replace BK771 := Aside0.mk (blk_grown (be_ BK771.out) hg (Kd.R_ne HO782.out BK771.out (by decide)))
             replace BK772 := Aside0.mk (blk_grown (be_ BK772.out) hg (Kd.R_ne HO782.out BK772.out (by decide)))
             replace HO785 := Aside0.mk (Kd.R_after (ok := (fun _ => True)) (by (with_reducible repeat (first | apply Kd.R_alloc | apply Kd.R_drewN | apply Kd.R_drew)); exact Kd.R_mono HO785.out (fun _ hk => ⟨trivial, hk⟩)) hg hat)
             replace BK793 := Aside0.mk (blk_grown (be_ BK793.out) hg (Kd.R_ne HO782.out BK793.out (by decide)))
             replace HB := Aside0.mk (hb)
             have HO788 := Aside0.mk (ho)
             clear HO782
             clear ho hb hg hat
             refine hK.out _ _ ⟨(blk_cell BK770.out 0).trans rfl, (blk_cell BK771.out 0).trans rfl⟩ (fun hHeld => ?_)
             clear hK K
             refine norm_ (a' := ?_) ?_ ?_
             rotate_left
             · show Act.put _ (some 60) _ = _
               simp only [Act.put, z1_, z2_, z3_, i64_w, i32_w]
               rfl
             exact norm_ (by first | (simp only [putAll, Act.put, z1_, z2_, z3_]; done) | (simp only [putAll, Act.put, z1_, z2_, z3_]; rfl)) (hJ3_7_8_13 (v781, .slice Ao91 t783.length co91, v787, gb793) _ ⟨hHeld, (by (with_reducible repeat (first | apply Kd.R_alloc | apply Kd.R_drewN | apply Kd.R_drew)); exact Kd.R_mono HO785.out (fun _ hk => hk.2)), (re_ HO788.out), (be_ BK770.out), (be_ BK771.out), (be_ BK772.out), (be_ BK793.out), GW793.out, GE793.out, NB770_793.out, NB793_770.out, NB771_793.out, NB793_771.out, NB772_793.out, NB793_772.out, (bq_ HB)⟩)
         · skip
           rintro ⟨v781, v784, v787⟩ w90 ⟨hS_, h0_, h1_, h2_, h3_, h4_, h5_⟩
           have n0_ : Aside0 (Kd.R (Kd.int .i64) 3 w90 w.heap.size (fun k_ => some k_ ≠ (v787 : Value).ownBlock) v784 t783) := ⟨h0_⟩
           have n1_ : Aside0 (Kd.R (Kd.int .i64) 3 w90 w.heap.size (fun k_ => some k_ ≠ (v784 : Value).ownBlock) v787 y786) := ⟨h1_⟩
           have n2_ : Aside0 (w90.heap[gb770]? = some (.cells #[.slice A0_0 l0_0.length c0_0] 26 (0, 0))) := ⟨h2_⟩
           have n3_ : Aside0 (w90.heap[gb771]? = some (.cells #[.slice A1_0 l1_0.length c1_0] 26 (0, 0))) := ⟨h3_⟩
           have n4_ : Aside0 (w90.heap[gb772]? = some (.cells #[.slice none 0 0] 26 (0, 0))) := ⟨h4_⟩
           have n5_ : Aside0 (Below w.heap.size w w90) := ⟨h5_⟩
           clear BK770
           clear BK771
           clear BK772
           clear HB
           clear h0_ h1_ h2_ h3_ h4_ h5_
           have HO785 := n0_
           have HO788 := n1_
           have BK770 := n2_
           have BK771 := n3_
           have BK772 := n4_
           have HB := n5_
           clear n0_ n1_ n2_ n3_ n4_ n5_
           have hHeld : w90.cell? ⟨gb770, 0, none⟩ = some (.slice A0_0 l0_0.length c0_0) ∧ w90.cell? ⟨gb771, 0, none⟩ = some (.slice A1_0 l1_0.length c1_0) := hS_
           obtain ⟨Ao91, co91, eo91⟩ := Kd.R_slice HO788.out
           (first | subst eo91 | (injection eo91 with f1_ f2_ f3_; have f4_ := f1_.symm; have f5_ := f3_.symm; clear f1_ f2_ f3_; subst f4_; subst f5_))
           refine norm_ (a' := ?_) ?_ ?_
           rotate_left
           · simp only [putAll, Act.put, z1_, z2_, z3_]
             rfl
           refine two_ (i := 9) (j := 13) (Ni := some 61) (Nj := some 10) (B_ 1023 16) (B_ 8703 16) rfl rfl rfl rfl (two_of HT_.out (by kernel_rfl)) (by decide) (by decide) (fun K hK => ?_) (fun K hK => ?_)
           · skip
             refine goes_ Try.func18 (by kernel_rfl) rfl #[.slice Ao91 y786.length co91] (by rfl) rfl rfl (by (try simp only [List.map_toArray, List.map_cons, List.map_nil]); first | done | rfl | (simp only [List.length_drop, List.length_take]; rfl)) ?_
             with_reducible refine (spec_FromGens.calls kj4 _ _ y786 t789 t792 _ ?side1 ?side2 A84.out).mono ?_
             (case side1 => exact ce_ ((Kd.R_reads' HO788.out).2.2))
             (case side2 => exact (Kd.R_reads' HO788.out).2.1)
             rintro e w92 ⟨v790, rfl, ho0, hb⟩
             refine ⟨_, rfl, ?_⟩
             have HO791 := Aside0.mk (Kd.R_lower (Kd.R_new' (Kd.R_new' ho0 (Kd.R_lt (re_ HO785.out))) (Kd.R_lt (re_ HO788.out))) (below_size (bq_ HB)))
             replace HO785 := Aside0.mk (Kd.R_elder' (re_ HO785.out) (Kd.R_base ho0) hb)
             replace HO788 := Aside0.mk (Kd.R_elder' (re_ HO788.out) (Kd.R_base ho0) hb)
             replace BK770 := bk_ BK770 hb
             replace BK771 := bk_ BK771 hb
             replace BK772 := bk_ BK772 hb
             replace HB := bp_ HB hb
             (try clear hb)
             (try clear ho0)
             refine hK.out _ _ ⟨(blk_cell BK770.out 0).trans rfl, (blk_cell BK771.out 0).trans rfl⟩ (fun hHeld => ?_)
             clear hK K
             refine norm_ (a' := ?_) ?_ ?_
             rotate_left
             · show Act.put _ (some 61) _ = _
               simp only [Act.put, z1_, z2_, z3_, i64_w, i32_w]
               rfl
             refine pu_ HT_ 10 51 (B_ 2047 16) ?_
             refine pu_ HT_ 11 62 (B_ 4095 16) ?_
             refine pu_ HT_ 12 63 (B_ 8191 16) ?_
             exact norm_ (by first | (simp only [putAll, Act.put, z1_, z2_, z3_]; done) | (simp only [putAll, Act.put, z1_, z2_, z3_]; rfl)) (hJ3_7_8_9 (v781, v784, .slice Ao91 y786.length co91, v790) _ ⟨hHeld, (re_ HO785.out), (re_ HO788.out), (by (with_reducible repeat (first | apply Kd.R_alloc | apply Kd.R_drewN | apply Kd.R_drew)); exact Kd.R_mono HO791.out (fun _ hk => ⟨hk.1.2, hk.2⟩)), (be_ BK770.out), (be_ BK771.out), (be_ BK772.out), (bq_ HB)⟩)
           · skip
             refine box_step ?hg (N := 10) ?hd (cs := #[.slice none 0 0]) (t := 26) ?hr ?_; (case hd => rfl); (case hg => rfl); (case hr => first | (go_simp; done) | (go_simp; rfl))
             intro gb793 hg w91 hbox hb
             replace HO785 := Aside0.mk (Kd.R_below (re_ HO785.out) hb)
             replace HO788 := Aside0.mk (Kd.R_below (re_ HO788.out) hb)
             have BK793 := Aside0.mk (hbox)
             have GW793 := gq_ hg (bq_ HB)
             have GE793 := gq_ hg (bq_ HB)
             replace HB := bp_ HB hb
             have NB770_793 := nl_ hg BK770
             have NB793_770 := ng_ hg BK770
             replace BK770 := bk_ BK770 hb
             have NB771_793 := nl_ hg BK771
             have NB793_771 := ng_ hg BK771
             replace BK771 := bk_ BK771 hb
             have NB772_793 := nl_ hg BK772
             have NB793_772 := ng_ hg BK772
             replace BK772 := bk_ BK772 hb
             clear hb hbox hg
             refine hK.out _ _ ⟨(blk_cell BK770.out 0).trans rfl, (blk_cell BK771.out 0).trans rfl⟩ (fun hHeld => ?_)
             clear hK K
             refine norm_ (a' := ?_) ?_ ?_
             rotate_left
             · show Act.put _ (some 10) _ = _
               simp only [Act.put, z1_, z2_, z3_, i64_w, i32_w]
               rfl
             exact norm_ (by first | (simp only [putAll, Act.put, z1_, z2_, z3_]; done) | (simp only [putAll, Act.put, z1_, z2_, z3_]; rfl)) (hJ3_7_8_13 (v781, v784, .slice Ao91 y786.length co91, gb793) _ ⟨hHeld, (re_ HO785.out), (re_ HO788.out), (be_ BK770.out), (be_ BK771.out), (be_ BK772.out), (be_ BK793.out), GW793.out, GE793.out, NB770_793.out, NB793_770.out, NB771_793.out, NB793_771.out, NB772_793.out, NB793_772.out, (bq_ HB)⟩)
       · skip
         rintro ⟨v781, v784, v787, gb793⟩ w91 ⟨hS_, h0_, h1_, h2_, h3_, h4_, h5_, h6_, h7_, h8_, h9_, h10_, h11_, h12_, h13_, h14_⟩
         have n0_ : Aside0 (Kd.R (Kd.int .i64) 3 w91 w.heap.size (fun k_ => some k_ ≠ (v787 : Value).ownBlock) v784 t783) := ⟨h0_⟩
         have n1_ : Aside0 (Kd.R (Kd.int .i64) 3 w91 w.heap.size (fun k_ => some k_ ≠ (v784 : Value).ownBlock) v787 y786) := ⟨h1_⟩
         have n2_ : Aside0 (w91.heap[gb770]? = some (.cells #[.slice A0_0 l0_0.length c0_0] 26 (0, 0))) := ⟨h2_⟩
         have n3_ : Aside0 (w91.heap[gb771]? = some (.cells #[.slice A1_0 l1_0.length c1_0] 26 (0, 0))) := ⟨h3_⟩
         have n4_ : Aside0 (w91.heap[gb772]? = some (.cells #[.slice none 0 0] 26 (0, 0))) := ⟨h4_⟩
         have n5_ : Aside0 (w91.heap[gb793]? = some (.cells #[.slice none 0 0] 26 (0, 0))) := ⟨h5_⟩
         have n6_ : Aside0 (w.heap.size ≤ gb793) := ⟨h6_⟩
         have n7_ : Aside0 (w.heap.size ≤ gb793) := ⟨h7_⟩
         have n8_ : Aside0 (gb770 ≠ gb793) := ⟨h8_⟩
         have n9_ : Aside0 (gb793 ≠ gb770) := ⟨h9_⟩
         have n10_ : Aside0 (gb771 ≠ gb793) := ⟨h10_⟩
         have n11_ : Aside0 (gb793 ≠ gb771) := ⟨h11_⟩
         have n12_ : Aside0 (gb772 ≠ gb793) := ⟨h12_⟩
         have n13_ : Aside0 (gb793 ≠ gb772) := ⟨h13_⟩
         have n14_ : Aside0 (Below w.heap.size w w91) := ⟨h14_⟩
         clear BK770
         clear BK771
         clear BK772
         clear HB
         clear h0_ h1_ h2_ h3_ h4_ h5_ h6_ h7_ h8_ h9_ h10_ h11_ h12_ h13_ h14_
         have HO785 := n0_
         have HO788 := n1_
         have BK770 := n2_
         have BK771 := n3_
         have BK772 := n4_
         have BK793 := n5_
         have GW793 := n6_
         have GE793 := n7_
         have NB770_793 := n8_
         have NB793_770 := n9_
         have NB771_793 := n10_
         have NB793_771 := n11_
         have NB772_793 := n12_
         have NB793_772 := n13_
         have HB := n14_
         clear n0_ n1_ n2_ n3_ n4_ n5_ n6_ n7_ n8_ n9_ n10_ n11_ n12_ n13_ n14_
         have hHeld : w91.cell? ⟨gb770, 0, none⟩ = some (.slice A0_0 l0_0.length c0_0) ∧ w91.cell? ⟨gb771, 0, none⟩ = some (.slice A1_0 l1_0.length c1_0) := hS_
         obtain ⟨Ao92, co92, eo92⟩ := Kd.R_slice HO788.out
         (first | subst eo92 | (injection eo92 with f1_ f2_ f3_; have f4_ := f1_.symm; have f5_ := f3_.symm; clear f1_ f2_ f3_; subst f4_; subst f5_))
         refine norm_ (a' := ?_) ?_ ?_
         rotate_left
         · simp only [putAll, Act.put, z1_, z2_, z3_]
           rfl
         refine on_ HT_ 9 61 (B_ 9215 16) (fun K hK => ?_)
         refine goes_ Try.func18 (by kernel_rfl) rfl #[.slice Ao92 y786.length co92] (by rfl) rfl rfl (by (try simp only [List.map_toArray, List.map_cons, List.map_nil]); first | done | rfl | (simp only [List.length_drop, List.length_take]; rfl)) ?_
         with_reducible refine (spec_FromGens.calls kj4 _ _ y786 t789 t792 _ ?side1 ?side2 A84.out).mono ?_
         (case side1 => exact ce_ ((Kd.R_reads' HO788.out).2.2))
         (case side2 => exact (Kd.R_reads' HO788.out).2.1)
         rintro e w93 ⟨v790, rfl, ho0, hb⟩
         refine ⟨_, rfl, ?_⟩
         have HO791 := Aside0.mk (Kd.R_lower (Kd.R_new' (Kd.R_new' ho0 (Kd.R_lt (re_ HO785.out))) (Kd.R_lt (re_ HO788.out))) (below_size (bq_ HB)))
         replace HO785 := Aside0.mk (Kd.R_elder' (re_ HO785.out) (Kd.R_base ho0) hb)
         replace HO788 := Aside0.mk (Kd.R_elder' (re_ HO788.out) (Kd.R_base ho0) hb)
         replace BK770 := bk_ BK770 hb
         replace BK771 := bk_ BK771 hb
         replace BK772 := bk_ BK772 hb
         replace BK793 := bk_ BK793 hb
         replace HB := bp_ HB hb
         (try clear hb)
         (try clear ho0)
         refine hK.out _ _ ⟨(blk_cell BK770.out 0).trans rfl, (blk_cell BK771.out 0).trans rfl⟩ (fun hHeld => ?_)
         clear hK K
         refine norm_ (a' := ?_) ?_ ?_
         rotate_left
         · show Act.put _ (some 61) _ = _
           simp only [Act.put, z1_, z2_, z3_, i64_w, i32_w]
           rfl
         refine pu_ HT_ 10 51 (B_ 10239 16) ?_
         refine pu_ HT_ 11 62 (B_ 12287 16) ?_
         refine pu_ HT_ 12 63 (B_ 16383 16) ?_
         exact norm_ (by first | (simp only [putAll, Act.put, z1_, z2_, z3_]; done) | (simp only [putAll, Act.put, z1_, z2_, z3_]; rfl)) (hJ3_7_8_9_13 (v781, v784, .slice Ao92 y786.length co92, v790, gb793) _ ⟨hHeld, (re_ HO785.out), (re_ HO788.out), (by (with_reducible repeat (first | apply Kd.R_alloc | apply Kd.R_drewN | apply Kd.R_drew)); exact Kd.R_mono HO791.out (fun _ hk => ⟨hk.1.2, hk.2⟩)), (be_ BK770.out), (be_ BK771.out), (be_ BK772.out), (be_ BK793.out), GW793.out, GE793.out, NB770_793.out, NB793_770.out, NB771_793.out, NB793_771.out, NB772_793.out, NB793_772.out, (bq_ HB)⟩)
     · skip
       rintro ⟨v781, v784, v787, v790⟩ w92 ⟨hS_, h0_, h1_, h2_, h3_, h4_, h5_, h6_⟩
       have n0_ : Aside0 (Kd.R (Kd.int .i64) 3 w92 w.heap.size (fun k_ => some k_ ≠ (v787 : Value).ownBlock ∧ some k_ ≠ (v790 : Value).ownBlock) v784 t783) := ⟨h0_⟩
       have n1_ : Aside0 (Kd.R (Kd.int .i64) 3 w92 w.heap.size (fun k_ => some k_ ≠ (v784 : Value).ownBlock ∧ some k_ ≠ (v790 : Value).ownBlock) v787 y786) := ⟨h1_⟩
       have n2_ : Aside0 (Kd.R (Kd.int .i64) 3 w92 w.heap.size (fun k_ => some k_ ≠ (v784 : Value).ownBlock ∧ some k_ ≠ (v787 : Value).ownBlock) v790 t789) := ⟨h2_⟩
       have n3_ : Aside0 (w92.heap[gb770]? = some (.cells #[.slice A0_0 l0_0.length c0_0] 26 (0, 0))) := ⟨h3_⟩
       have n4_ : Aside0 (w92.heap[gb771]? = some (.cells #[.slice A1_0 l1_0.length c1_0] 26 (0, 0))) := ⟨h4_⟩
       have n5_ : Aside0 (w92.heap[gb772]? = some (.cells #[.slice none 0 0] 26 (0, 0))) := ⟨h5_⟩
       have n6_ : Aside0 (Below w.heap.size w w92) := ⟨h6_⟩
       clear BK770
       clear BK771
       clear BK772
       clear HB
       clear h0_ h1_ h2_ h3_ h4_ h5_ h6_
       have HO785 := n0_
       have HO788 := n1_
       have HO791 := n2_
       have BK770 := n3_
       have BK771 := n4_
       have BK772 := n5_
       have HB := n6_
       clear n0_ n1_ n2_ n3_ n4_ n5_ n6_
       have hHeld : w92.cell? ⟨gb770, 0, none⟩ = some (.slice A0_0 l0_0.length c0_0) ∧ w92.cell? ⟨gb771, 0, none⟩ = some (.slice A1_0 l1_0.length c1_0) := hS_
       refine norm_ (a' := ?_) ?_ ?_
       rotate_left
       · simp only [putAll, Act.put, z1_, z2_, z3_]
         rfl
       refine on_ HT_ 13 10 (B_ 16383 16) (fun K hK => ?_)
       refine box_step ?hg (N := 10) ?hd (cs := #[.slice none 0 0]) (t := 26) ?hr ?_; (case hd => rfl); (case hg => rfl); (case hr => first | (go_simp; done) | (go_simp; rfl))
       intro gb793 hg w93 hbox hb
       replace HO785 := Aside0.mk (Kd.R_below (re_ HO785.out) hb)
       replace HO788 := Aside0.mk (Kd.R_below (re_ HO788.out) hb)
       replace HO791 := Aside0.mk (Kd.R_below (re_ HO791.out) hb)
       have BK793 := Aside0.mk (hbox)
       have GW793 := gq_ hg (bq_ HB)
       have GE793 := gq_ hg (bq_ HB)
       replace HB := bp_ HB hb
       have NB770_793 := nl_ hg BK770
       have NB793_770 := ng_ hg BK770
       replace BK770 := bk_ BK770 hb
       have NB771_793 := nl_ hg BK771
       have NB793_771 := ng_ hg BK771
       replace BK771 := bk_ BK771 hb
       have NB772_793 := nl_ hg BK772
       have NB793_772 := ng_ hg BK772
       replace BK772 := bk_ BK772 hb
       clear hb hbox hg
       refine hK.out _ _ ⟨(blk_cell BK770.out 0).trans rfl, (blk_cell BK771.out 0).trans rfl⟩ (fun hHeld => ?_)
       clear hK K
       refine norm_ (a' := ?_) ?_ ?_
       rotate_left
       · show Act.put _ (some 10) _ = _
         simp only [Act.put, z1_, z2_, z3_, i64_w, i32_w]
         rfl
       exact norm_ (by first | (simp only [putAll, Act.put, z1_, z2_, z3_]; done) | (simp only [putAll, Act.put, z1_, z2_, z3_]; rfl)) (hJ3_7_8_9_13 (v781, v784, v787, v790, gb793) _ ⟨hHeld, (re_ HO785.out), (re_ HO788.out), (re_ HO791.out), (be_ BK770.out), (be_ BK771.out), (be_ BK772.out), (be_ BK793.out), GW793.out, GE793.out, NB770_793.out, NB793_770.out, NB771_793.out, NB793_771.out, NB772_793.out, NB793_772.out, (bq_ HB)⟩)
   rintro ⟨v781, v784, v787, v790, gb793⟩ w93 ⟨hS_, h0_, h1_, h2_, h3_, h4_, h5_, h6_, h7_, h8_, h9_, h10_, h11_, h12_, h13_, h14_, h15_⟩
   have n0_ : Aside0 (Kd.R (Kd.int .i64) 3 w93 w.heap.size (fun k_ => some k_ ≠ (v787 : Value).ownBlock ∧ some k_ ≠ (v790 : Value).ownBlock) v784 t783) := ⟨h0_⟩
   have n1_ : Aside0 (Kd.R (Kd.int .i64) 3 w93 w.heap.size (fun k_ => some k_ ≠ (v784 : Value).ownBlock ∧ some k_ ≠ (v790 : Value).ownBlock) v787 y786) := ⟨h1_⟩
   have n2_ : Aside0 (Kd.R (Kd.int .i64) 3 w93 w.heap.size (fun k_ => some k_ ≠ (v784 : Value).ownBlock ∧ some k_ ≠ (v787 : Value).ownBlock) v790 t789) := ⟨h2_⟩
   have n3_ : Aside0 (w93.heap[gb770]? = some (.cells #[.slice A0_0 l0_0.length c0_0] 26 (0, 0))) := ⟨h3_⟩
   have n4_ : Aside0 (w93.heap[gb771]? = some (.cells #[.slice A1_0 l1_0.length c1_0] 26 (0, 0))) := ⟨h4_⟩
   have n5_ : Aside0 (w93.heap[gb772]? = some (.cells #[.slice none 0 0] 26 (0, 0))) := ⟨h5_⟩
   have n6_ : Aside0 (w93.heap[gb793]? = some (.cells #[.slice none 0 0] 26 (0, 0))) := ⟨h6_⟩
   have n7_ : Aside0 (w.heap.size ≤ gb793) := ⟨h7_⟩
   have n8_ : Aside0 (w.heap.size ≤ gb793) := ⟨h8_⟩
   have n9_ : Aside0 (gb770 ≠ gb793) := ⟨h9_⟩
   have n10_ : Aside0 (gb793 ≠ gb770) := ⟨h10_⟩
   have n11_ : Aside0 (gb771 ≠ gb793) := ⟨h11_⟩
   have n12_ : Aside0 (gb793 ≠ gb771) := ⟨h12_⟩
   have n13_ : Aside0 (gb772 ≠ gb793) := ⟨h13_⟩
   have n14_ : Aside0 (gb793 ≠ gb772) := ⟨h14_⟩
   have n15_ : Aside0 (Below w.heap.size w w93) := ⟨h15_⟩
   clear BK770
   clear BK771
   clear BK772
   clear HB
   clear h0_ h1_ h2_ h3_ h4_ h5_ h6_ h7_ h8_ h9_ h10_ h11_ h12_ h13_ h14_ h15_
   have HO785 := n0_
   have HO788 := n1_
   have HO791 := n2_
   have BK770 := n3_
   have BK771 := n4_
   have BK772 := n5_
   have BK793 := n6_
   have GW793 := n7_
   have GE793 := n8_
   have NB770_793 := n9_
   have NB793_770 := n10_
   have NB771_793 := n11_
   have NB793_771 := n12_
   have NB772_793 := n13_
   have NB793_772 := n14_
   have HB := n15_
   clear n0_ n1_ n2_ n3_ n4_ n5_ n6_ n7_ n8_ n9_ n10_ n11_ n12_ n13_ n14_ n15_
   have hHeld : w93.cell? ⟨gb770, 0, none⟩ = some (.slice A0_0 l0_0.length c0_0) ∧ w93.cell? ⟨gb771, 0, none⟩ = some (.slice A1_0 l1_0.length c1_0) := hS_
   obtain ⟨Ao94, co94, eo94⟩ := Kd.R_slice HO791.out
   (first | subst eo94 | (injection eo94 with f1_ f2_ f3_; have f4_ := f1_.symm; have f5_ := f3_.symm; clear f1_ f2_ f3_; subst f4_; subst f5_))
   refine norm_ (a' := ?_) ?_ ?_
   rotate_left
   · simp only [putAll, Act.put, z1_, z2_, z3_]
     rfl
   refine one_ (i := 14) (N := none) (B_ 32767 16) rfl rfl (one_of HT_.out (by kernel_rfl)) (by decide) (fun K hK => ?_)
   have hs95 : w93.cell? ⟨gb793, 0, none⟩ = some (.slice none 0 0) := (blk_cell BK793.out 0).trans rfl
   have hfs95 := blk_frozen BK793.out 0
   have hns95_0 := NB770_793.out
   have hns95_1 := NB771_793.out
   have hns95_2 := NB772_793.out
   have hms95_0 := NB793_770.out
   have hms95_1 := NB793_771.out
   have hms95_2 := NB793_772.out
   refine skip_ (w1 := ?_) (by rfl) rfl ?_ ?_
   rotate_left
   · go_simp
     rfl
   refine hK.out _ _ ⟨((cell_far (p := ⟨gb793, _, none⟩) NB770_793.out _).trans (hHeld.1)), ((cell_far (p := ⟨gb793, _, none⟩) NB771_793.out _).trans (hHeld.2))⟩ (fun hHeld => ?_)
   clear hK K
   refine pu_ HT_ 15 11 (B_ 65535 16) ?_
   refine done_ (done_of HT_.out (by kernel_rfl)) ?_
   have hnb96 := NB793_770.out
   have hnc96 := NB770_793.out
   have hnb97 := NB793_771.out
   have hnc97 := NB771_793.out
   have hnb98 := NB793_772.out
   have hnc98 := NB772_793.out
   have hcz99_0 : w93.cell? ⟨gb793, 0, none⟩ = some (.slice none 0 0) := (blk_cell BK793.out 0).trans rfl
   have hfz99_0 := blk_frozen BK793.out 0
   have hnb100 := NB772_770.out
   have hnc100 := NB770_772.out
   have hnb101 := NB772_771.out
   have hnc101 := NB771_772.out
   have hcz102_0 := cz_ BK772
   have hfz102_0 := blk_frozen BK772.out 0
   try go_wp2
   refine bodyPost_ret (results_ct rfl _ _ gb772 26 #[.slice Ao94 t789.length co94] (0, 0) _ rfl (by (with_reducible repeat (first | refine blk_drewN ?_ _ | refine blk_drew ?_ | refine blk_alloc ?_ _)); refine blk_put (cs := #[.slice none 0 0]) ?_ 0 _ rfl; (with_reducible repeat (first | refine blk_drewN ?_ _ | refine blk_drew ?_ | refine blk_alloc ?_ _)); refine blk_far ?_ NB772_793.out _; (with_reducible repeat (first | refine blk_drewN ?_ _ | refine blk_drew ?_ | refine blk_alloc ?_ _)); exact BK772.out) Try.underlying26 rfl (by kernel_rfl)) rfl ?_
   exact ⟨_, rf_, by (with_reducible repeat (first | apply Kd.R_alloc | apply Kd.R_drewN | apply Kd.R_drew)); exact Kd.R_mono (Kd.R_far (p := ⟨gb772, 0, none⟩) (Kd.R_far (p := ⟨gb793, 0, none⟩) (Kd.R_types (Kd.R_types HO791.out BK793.out (by decide)) BK772.out (by decide)) (fun _ hk => hk.1.2) (.slice Ao94 t789.length co94)) (fun _ hk => hk.2) (.slice Ao94 t789.length co94)) (fun _ hk => trivial), bq_ HB⟩
end Go.Proofs.Ytjjajcldmkmgkaa.PA
end
