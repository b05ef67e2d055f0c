-- Bundled by shake.py from this session's printed and written texts; Lean checks it.
import Derived.Test.YtjjajcldmkmgkaaZFnGluedx1
import Derived.Test.YtjjajcldmkmgkaaZFnGluedx4
import Derived.Test.YtjjajcldmkmgkaaZFnGluedx5
import Derived.Test.YtjjajcldmkmgkaaZFnGluedx7
import Derived.Test.YtjjajcldmkmgkaaZFnGluedx8
section
namespace Go.Proofs.Ytjjajcldmkmgkaa.PA
open Go.RowKit Go.Proofs.YtjjajcldmkmgkaaW.PrintWords Go.Proofs.YtjjajcldmkmgkaaW.PrintLast Go.Proofs.YtjjajcldmkmgkaaW.PrintMore
attribute [local go_sem] max2_int min2_int max_two min_two max_three min_three max_four min_four
set_option linter.unusedVariables false
set_option linter.unusedSimpArgs false
set_option maxHeartbeats 8000000
set_option maxRecDepth 100000
def impl_table.l0 : Nat → List Int → List Bool → Int → Int → List Int → Option (List Bool)
 | 0, _, _, _, _, _ => none
 | k + 1, x5, x6, x19, x20, x795000 => if x20 < x19 then (if 0 < (x795000.length : Int) then (if (rd x795000 0) = 0 then (none) else (if 0 ≤ (Int.tmod x20 (rd x795000 0)) then (if (Int.tmod x20 (rd x795000 0)) < (x5.length : Int) then (if 0 ≤ x20 then (if x20 < (x6.length : Int) then (impl_table.l0 k x5 (x6.set (x20 : Int).toNat (decide ((rd x5 (Int.tmod x20 (rd x795000 0))) ≤ x20))) x19 (wrap64 (x20 + 1)) x795000) else (none)) else (none)) else (none)) else (none))) else (none)) else (some x6)
def impl_table.f (k : Nat) (l0_0 : List Int) (a1 : Int) : Option (List Bool) := if 0 < (l0_0.length : Int) then ((impl_leasts.f k l0_0 (rd l0_0 0)).bind fun t796 => (if 0 ≤ (wrap64 (a1 + 1)) then (if (wrap64 (a1 + 1) : Int).toNat ≤ 281474976710656 then ((some (List.replicate (wrap64 (a1 + 1) : Int).toNat false : List Bool)).bind fun y799 => (impl_table.l0 k t796 y799 (y799.length : Int) 0 l0_0)) else (none)) else (none))) else (none)
def impl_table.T1 : Bool × List (List Nat × List Nat) := (true, [([], []), ([0], [0]), ([], []), ([2], [2]), ([3], [3]), ([4], [4]), ([1, 5], [1, 5]), ([6, 6, 0, 1, 2, 3, 4, 5, 6], [6])])
def impl_table.B1 : List Nat := [0, 1, 0, 4, 12, 28, 63, 127]
theorem impl_table.tab1 : rtab .any (opsOf Try.f75 1) = impl_table.T1 := by kernel_rfl
theorem impl_table.bits1 : waitsOk impl_table.T1.2 impl_table.B1 = true := by kernel_rfl
theorem impl_table.calls (k : Nat) (A0_0 : Option Addr) (c0_0 : Nat) (l0_0 : List Int) (a1 : Int) (r : List Bool) (w : World) (hr0_0 : Kd.C (Kd.int .i64) w A0_0 l0_0.length l0_0) (hc0_0 : l0_0.length ≤ c0_0) (h : impl_table.f k l0_0 a1 = some r) :
 Calls Try.prog 75 #[.agg #[.slice A0_0 l0_0.length c0_0], .int .i64 a1] w fun e w' => ∃ v0_ : Value, e = .returned (v0_) ∧ Kd.R Kd.bool 4 w' w.heap.size (fun _ => True) v0_ r ∧ Below w.heap.size w w' := by
 have hu26 := Try.underlying26
 have HR0_0 := Aside0.mk hr0_0
 have HC0_0 := Aside0.mk hc0_0
 clear hr0_0 hc0_0
 have HB := Aside0.mk (Below.refl w.heap.size w)
 have H := h
 clear h
 unfold impl_table.f at H
 by_cases c3 : 0 < (l0_0.length : Int)
 rotate_left
 · rw [if_neg c3] at H
   cases H
 rw [if_pos c3] at H
 have c3b0 : decide (0 < (l0_0.length : Int)) = true := decide_eq_true c3
 have c3b1 : decide (0 < l0_0.length) = true := decide_eq_true (by omega)
 clear c3
 obtain ⟨t796, A4, H⟩ := ob_ H
 obtain ⟨ji5, hji5⟩ : ∃ j_ : Int, (wrap64 (a1 + 1)) = j_ := ⟨_, rfl⟩
 replace H : (if 0 ≤ (ji5) then (if (ji5 : Int).toNat ≤ 281474976710656 then ((some (List.replicate (ji5 : Int).toNat false : List Bool)).bind fun y799 => (impl_table.l0 k t796 y799 (y799.length : Int) 0 l0_0)) else (none)) else (none)) = some r := by first | (rw [hji5] at H; exact H) | (simp only [hji5] at H ⊢; exact H)
 (try rw [hji5] at A4)
 have hji5w : (IntKind.i64.wrap (a1 + 1)) = ji5 := (i64_w _).trans hji5
 by_cases c6 : 0 ≤ (ji5)
 rotate_left
 · rw [if_neg c6] at H
   cases H
 rw [if_pos c6] at H
 have c6b0 := eq_true c6
 have c6b1 : decide (0 ≤ (ji5)) = true := decide_eq_true c6
 clear c6
 by_cases c7 : (ji5 : Int).toNat ≤ 281474976710656
 rotate_left
 · rw [if_neg c7] at H
   cases H
 rw [if_pos c7] at H
 have c7b0 := eq_true c7
 have c7b1 : decide ((ji5 : Int).toNat ≤ 281474976710656) = true := decide_eq_true c7
 clear c7
 obtain ⟨y799, hy799⟩ : ∃ y_ : List Bool, y_ = (List.replicate (ji5 : Int).toNat false) := ⟨_, rfl⟩
 replace H : (impl_table.l0 k t796 y799 (y799.length : Int) 0 l0_0) = some r := by subst hy799; exact H
 have Ny799 := Aside0.mk hy799
 clear hy799
 have H' := Aside0.mk H
 clear H
 go_enter Try.func75, Try.ntmps75
 try go_wp2_with (first | ((with_reducible refine gate_dst (N := 2) rfl ?_); refine bx_ 2 #[.slice A0_0 l0_0.length c0_0] 26 ?_; intro gb794 hg w8 hbox hb; have BK794 := Aside0.mk (hbox); have GW794 := gw_ hg HB; have GE794 := gw_ hg HB; replace HB := bo_ HB hb; clear hb hbox hg))
 replace BK794 := Aside0.mk (blk_drew BK794.out)
 replace HB := Aside0.mk (below_drew1 HB.out)
 have p795 : 0 ≤ (0 : Int) := (by omega)
 have q795 : 0 < (l0_0.length : Int) := od_
 obtain ⟨ad795, e795, hx795_0⟩ := Kd.at_int HR0_0.out 0 p795 q795
 have hw795_0 := hx795_0
 (try rw [show ((0 : Int)).toNat = 0 from rfl] at hw795_0)
 (try rw [show 0 * 1 = 0 from rfl] at hw795_0)
 (try rw [Addr.add_zero'] at hw795_0)
 cases e795
 have qi795 : (0 < l0_0.length) = True := eq_true (by omega)
 (try rw [show ((0 : Int)).toNat = 0 from rfl] at hx795_0)
 (try rw [Addr.add_zero'] at hx795_0)
 (try replace hx795_0 := (HB.out.cell (World.block_lt_of_cell? w _ hx795_0)).trans hx795_0)
 replace p795 := eq_true p795
 replace q795 := eq_true q795
 refine start_ (n := 8) (S := fun w' => w'.cell? ⟨gb794, 0, none⟩ = some (.slice (some ad795) l0_0.length c0_0) ∧ w'.cell? ad795 = some (.int .i64 (rd l0_0 0))) (ds := []) (B_ 0 8) (by kernel_rfl) rfl rfl ⟨(blk_cell BK794.out 0).trans rfl, ((HB.out.cell (World.block_lt_of_cell? w _ hw795_0)).trans hw795_0)⟩ (fun hHeld => ?_); refine with_tabW impl_table.tab1 impl_table.bits1 (fun HT_ HW_ => ?_)
 generalize w8.drew = w9 at BK794 HB hx795_0 hHeld ⊢
 refine pu_ HT_ 0 8 (B_ 1 8) ?_
 refine pu_ HT_ 2 10 (B_ 5 8) ?_
 refine tk2_ HT_ HW_ hHeld 1 9 (B_ 7 8) ?_
 refine tk2_ HT_ HW_ hHeld 3 11 (B_ 15 8) ?_
 refine pu_ HT_ 4 12 (B_ 31 8) ?_
 refine tk2_ HT_ HW_ hHeld 5 13 (B_ 63 8) ?_
 refine on_ HT_ 6 14 (B_ 127 8) (fun K hK => ?_)
 refine goes_ Try.func54 (by kernel_rfl) rfl #[.slice (some ad795) l0_0.length c0_0, .int .i64 (rd l0_0 0)] (by rfl) rfl rfl (by (try simp only [List.map_toArray, List.map_cons, List.map_nil]); first | done | rfl | (simp only [List.length_drop, List.length_take]; rfl)) ?_
 with_reducible refine (impl_leasts.calls k _ _ l0_0 (rd l0_0 0) t796 _ ?side1 ?side2 A4.out).mono ?_
 (case side1 => exact ch_ HR0_0 HB)
 (case side2 => exact HC0_0.out)
 rintro e w10 ⟨v797, rfl, ho0, hb⟩
 refine ⟨_, rfl, ?_⟩
 have HO798 := Aside0.mk (Kd.R_lower ho0 (below_size (bq_ HB)))
 replace BK794 := bk_ BK794 hb
 replace HB := bp_ HB hb
 (try clear hb)
 (try clear ho0)
 refine hK.out _ _ ⟨(blk_cell BK794.out 0).trans rfl, ((HB.out.cell (World.block_lt_of_cell? w _ hw795_0)).trans hw795_0)⟩ (fun hHeld => ?_)
 clear hK K
 refine norm_ (a' := ?_) ?_ ?_
 rotate_left
 · show Act.put _ (some 14) _ = _
   simp only [Act.put, z1_, z2_, z3_, i64_w, i32_w]
   rfl
 refine pu_ HT_ 7 5 (B_ 255 8) ?_
 refine done_ (done_of HT_.out (by kernel_rfl)) ?_
 try go_wp2_with (first | ((with_reducible refine gate_dst (N := 17) rfl ?_); refine Kd.R_make Kd.bool _ 4 rfl (N := 17) rfl 61 _ _ rfl ji5 rfl rfl Try.underlying61 (.bool false) 1 info4 rfl (by decide) (by omega) false (ok := fun _ => True) (okp := fun _ => True) rfl (fun _ hk => hk) trivial (od_) (Nat.le_trans (Nat.mul_le_mul_right _ (od_ : ji5.toNat ≤ 281474976710656)) (by omega)) (Below.refl _ _) (Nat.le_refl _) ?_; intro v800 w11 ho12 hb hg_ hnew_; clear hg_ hnew_; (first | rw [← Ny799.out] at ho12 | (simp only [Int.reduceToNat] at ho12; rw [← Ny799.out] at ho12)); replace HO798 := Aside0.mk (Kd.R_below (re_ HO798.out) hb); have HO801 := Aside0.mk (Kd.R_lower ho12 (below_size (bq_ HB))); replace BK794 := bk_ BK794 hb; replace HB := bp_ HB hb; clear hb ho12; obtain ⟨Ao13, co13, eo13⟩ := Kd.R_slice HO801.out; subst eo13))
 go_loopg [20] k (fun kq v20 w' => ∃ (x6_1 : List Bool) (x20_1 : Int), v20 = .int .i64 x20_1 ∧ Aside0 (impl_table.l0 kq t796 x6_1 (y799.length : Int) x20_1 l0_0 = some r) ∧ Aside0 (kq ≤ k) ∧ Aside0 (Kd.R (Kd.int .i64) 3 w' w.heap.size (fun _ => True) v797 t796) ∧ Aside0 (Kd.R Kd.bool 4 w' w.heap.size (fun _ => True) (.slice Ao13 y799.length co13) x6_1) ∧ Aside0 (w'.heap[gb794]? = some (.cells #[(.slice (some ad795) l0_0.length c0_0)] 26 (0, 0))) ∧ Aside0 (Below w.heap.size w w'))
 case atStart => exact ⟨(y799), (0), rs_, H', ⟨Nat.le_refl _⟩, ⟨re_ HO798.out⟩, ⟨re_ HO801.out⟩, ⟨be_ BK794.out⟩, ⟨bq_ HB⟩⟩
 case round =>
  clear H'
  try clear p2
  try clear c3
  try clear c3b0
  try clear c3b1
  try clear c5
  try clear c6
  try clear c6b0
  try clear c6b1
  try clear p6
  try clear c7
  try clear c7b0
  try clear c7b1
  try clear p7
  try clear q7
  try clear hx7
  try clear qi7
  try clear hx795_0
  try clear p795
  try clear q795
  obtain ⟨x6_1, x20_1, rfl, HA, HK1, HO_5, HO_6, BK794, HB⟩ := hrel
  have hl6_1 := (Kd.R_reads' HO_6.out).1
  rw [hl6_1] at HO_6
  (try simp only [hl6_1])
  (try simp only [hl6_1] at BK794)
  (try simp only [hl6_1] at HO_5)
  cases gk with
  | zero => exact absurd HA.out (by simp [impl_table.l0])
  | succ k1 =>
   have H := HA.out
   clear HA
   simp only [impl_table.l0] at H
   by_cases c14 : x20_1 < (y799.length : Int)
   rotate_left
   · rw [if_neg c14] at H
     have c14b0 : decide (x20_1 < (y799.length : Int)) = false := decide_eq_false c14
     (try (have c14h := c14b0; simp only [hl6_1] at c14h))
     clear c14
     obtain rfl := Option.some.inj H
     go_wp2
     go_ret
     exact ⟨_, by first | rfl | (simp [errW_none, errW_some] <;> rfl) | (simp only [← hji5]; first | rfl | (simp [errW_none, errW_some] <;> rfl)) | (simp [*, errW_none, errW_some] <;> rfl), re_ HO_6.out, bq_ HB⟩
   rw [if_pos c14] at H
   have c14b0 : decide (x20_1 < (y799.length : Int)) = true := decide_eq_true c14
   (try (have c14h := c14b0; simp only [hl6_1] at c14h))
   clear c14
   by_cases c15 : 0 < (l0_0.length : Int)
   rotate_left
   · rw [if_neg c15] at H
     cases H
   rw [if_pos c15] at H
   have c15b0 : decide (0 < (l0_0.length : Int)) = true := decide_eq_true c15
   have c15b1 : decide (0 < l0_0.length) = true := decide_eq_true (by omega)
   (try (have c15h := c15b0; simp only [hl6_1] at c15h))
   clear c15
   by_cases c16 : (rd l0_0 0) = 0
   · rw [if_pos c16] at H
     cases H
   rw [if_neg c16] at H
   have c16b0 : ((rd l0_0 0) == 0) = false := beq_eq_false_iff_ne.mpr c16
   have c16b1 : ((rd l0_0 0) != 0) = true := bne_iff_ne.mpr c16
   obtain ⟨ji17, hji17⟩ : ∃ j_ : Int, (Int.tmod x20_1 (rd l0_0 0)) = j_ := ⟨_, rfl⟩
   replace H : (if 0 ≤ (ji17) then (if (ji17) < (t796.length : Int) then (if 0 ≤ x20_1 then (if x20_1 < (x6_1.length : Int) then (impl_table.l0 k1 t796 (x6_1.set (x20_1 : Int).toNat (decide ((rd t796 (ji17)) ≤ x20_1))) (y799.length : Int) (wrap64 (x20_1 + 1)) l0_0) else (none)) else (none)) else (none)) else (none)) = some r := by first | (rw [hji17] at H; exact H) | (simp only [hji17] at H ⊢; exact H)
   by_cases c18 : 0 ≤ (ji17)
   rotate_left
   · rw [if_neg c18] at H
     cases H
   rw [if_pos c18] at H
   have c18b0 : decide (0 ≤ (ji17)) = true := decide_eq_true c18
   clear c18
   by_cases c19 : (ji17) < (t796.length : Int)
   rotate_left
   · rw [if_neg c19] at H
     cases H
   rw [if_pos c19] at H
   have c19b0 : decide ((ji17) < (t796.length : Int)) = true := decide_eq_true c19
   (try (have c19h := c19b0; simp only [hl6_1] at c19h))
   clear c19
   by_cases c20 : 0 ≤ x20_1
   rotate_left
   · rw [if_neg c20] at H
     cases H
   rw [if_pos c20] at H
   have c20b0 : decide (0 ≤ x20_1) = true := decide_eq_true c20
   clear c20
   by_cases c21 : x20_1 < (x6_1.length : Int)
   rotate_left
   · rw [if_neg c21] at H
     cases H
   rw [if_pos c21] at H
   have c21b0 : decide (x20_1 < (x6_1.length : Int)) = true := decide_eq_true c21
   (try (have c21h := c21b0; simp only [hl6_1] at c21h))
   clear c21
   obtain ⟨y804, hy804⟩ : ∃ y_ : List Bool, y_ = (x6_1.set (x20_1 : Int).toNat (decide ((rd t796 (ji17)) ≤ x20_1))) := ⟨_, rfl⟩
   replace H : (impl_table.l0 k1 t796 y804 (y799.length : Int) (wrap64 (x20_1 + 1)) l0_0) = some r := by subst hy804; exact H
   have Ny804 := Aside0.mk hy804
   clear hy804
   have H' := Aside0.mk H
   clear H
   have hcz23_0 := cz_ BK794
   have hfz23_0 := blk_frozen BK794.out 0
   have p802 : 0 ≤ (0 : Int) := (by omega)
   have q802 : 0 < (l0_0.length : Int) := od_
   obtain ⟨ad802, e802, hx802_0⟩ := Kd.at_int HR0_0.out 0 p802 q802
   obtain rfl : ad795 = ad802 := (by injection e802)
   have qi802 : (0 < l0_0.length) = True := eq_true (by omega)
   (try rw [show ((0 : Int)).toNat = 0 from rfl] at hx802_0)
   (try rw [Addr.add_zero'] at hx802_0)
   (try replace hx802_0 := (HB.out.cell (World.block_lt_of_cell? w _ hx802_0)).trans hx802_0)
   replace p802 := eq_true p802
   replace q802 := eq_true q802
   obtain ⟨Ao24, co24, eo24⟩ := Kd.R_slice HO_5.out
   subst eo24
   have p803 : 0 ≤ ((ji17) : Int) := od_
   have q803 : (ji17) < (t796.length : Int) := od_
   obtain ⟨ad803, e803, hx803_0⟩ := Kd.at_int (Kd.R_reads' HO_5.out).2.2 (ji17) p803 q803
   cases e803
   replace p803 := eq_true p803
   replace q803 := eq_true q803
   have p22 : 0 ≤ (x20_1 : Int) := od_
   have q22 : (x20_1 : Int) < ((x6_1.length : Int) : Int) := od_
   obtain ⟨go22, co22, eo22, gb22, gl22, cl22, HG22⟩ := Kd.R_form HO_6.out (by omega)
   (first | cases eo22 | (injection eo22 with ea_ en_ ec_; (first | subst ea_ | (injection ea_ with ea_; subst ea_)); subst ec_; clear en_))
   have GB22 := Aside0.mk gb22
   have GG22 := Aside0.mk HG22
   clear gb22 gl22 HG22
   obtain ⟨hx22_0, hf22_0⟩ := Kd.R_celln false HO_6.out (x20_1 : Int) p22 q22
   replace p22 := eq_true p22
   replace q22 := eq_true q22
   have HP25 := Kd.R_putg HO_6.out (x20_1 : Int) (decide ((rd t796 (ji17)) ≤ x20_1))
   go_wp2_with (first | ((with_reducible refine gate_store (t := 4) (p := 36) rfl ?_); refine store_event (t := 4) (p := 36) (v := ?vo_w26) (w1 := (wr.setCell ⟨go22, (x20_1 : Int).toNat, none⟩ (.bool (decide ((rd t796 (ji17)) ≤ x20_1))))) ?hg ?ho ?hn ?hr ?_; (case ho => rfl); (case hg => rfl); (case hn => rfl); (case hr => first | (go_simp; done) | (go_simp; rfl)); intro w26 hw; have hg : wr.grownBy w26 (some go22) := (by rw [hw]; exact HP25.2); have hp_ : Kd.R Kd.bool 4 w26 w.heap.size (fun _ => True) (.slice (some ⟨go22, 0, none⟩) x6_1.length co13) y804 := (by rw [hw, Ny804.out]; exact HP25.1); clear HP25; replace HO_5 := Aside0.mk (Kd.R_over' (v := (.slice (some ⟨go22, 0, none⟩) x6_1.length co13)) (re_ HO_5.out) (Kd.R_typed HO_6.out) (by decide) hg); replace BK794 := Aside0.mk (blk_grown (be_ BK794.out) hg (Kd.R_ne HO_6.out BK794.out (by decide))); replace HO_6 := Aside0.mk (hp_); replace HB := Aside0.mk ((by rw [hw]; exact below_set (HB.out) GB22.out : Below w.heap.size w w26)); clear hg hw hp_))
   (try simp only [← hl6_1])
   go_roundg k1
   case measure => have := HK1.out; omega
   case rel => exact ⟨(y804), (wrap64 (x20_1 + 1)), rs_, H', ⟨by have := HK1.out; omega⟩, ⟨by (try simp only [hl6_1]); (with_reducible repeat (first | apply Kd.R_alloc | apply Kd.R_drewN | apply Kd.R_drew)); exact HO_5.out⟩, ⟨by (try simp only [hl6_1]); (with_reducible repeat (first | apply Kd.R_alloc | apply Kd.R_drewN | apply Kd.R_drew)); exact HO_6.out⟩, ⟨by (try simp only [hl6_1]); (with_reducible repeat (first | refine blk_drewN ?_ _ | refine blk_drew ?_ | refine blk_alloc ?_ _)); exact BK794.out⟩, ⟨bq_ HB⟩⟩
def impl_Gaps.l0 : Nat → List Int → List Bool → Int → Int → Option (List Int)
 | 0, _, _, _, _ => none
 | k + 1, x3, x11, x12, x13 => if x13 < x12 then (if 0 ≤ x13 then (if x13 < (x11.length : Int) then (if rdOf false x11 x13 = true then (impl_Gaps.l0 k x3 x11 x12 (wrap64 (x13 + 1))) else (if x3.length < 17592186044416 then (impl_Gaps.l0 k (x3 ++ [x13]) x11 x12 (wrap64 (x13 + 1))) else (none))) else (none)) else (none)) else (some x3)
def impl_Gaps.f (k : Nat) (l0_0 : List Int) : Option (List Int) := (impl_IsSemigroup.f k l0_0).bind fun t806 => (if t806 = true then ((impl_table.f k l0_0 200).bind fun t810 => (impl_Gaps.l0 k (([] : List Int)) t810 (t810.length : Int) 0)) else (some ([] : List Int)))
theorem impl_Gaps.calls (k : Nat) (A0_0 : Option Addr) (c0_0 : Nat) (l0_0 : List Int) (r : List Int) (w : World) (hr0_0 : Kd.C (Kd.int .i64) w A0_0 l0_0.length l0_0) (hc0_0 : l0_0.length ≤ c0_0) (h : impl_Gaps.f k l0_0 = some r) :
 Calls Try.prog 61 #[.agg #[.slice A0_0 l0_0.length c0_0]] w fun e w' => ∃ v0_ : Value, e = .returned (v0_) ∧ Kd.R (Kd.int .i64) 3 w' w.heap.size (fun _ => True) v0_ r ∧ Below w.heap.size w w' := by
 have hu26 := Try.underlying26
 have HR0_0 := Aside0.mk hr0_0
 have HC0_0 := Aside0.mk hc0_0
 clear hr0_0 hc0_0
 have HB := Aside0.mk (Below.refl w.heap.size w)
 have H := h
 clear h
 unfold impl_Gaps.f at H
 obtain ⟨t806, A2, H⟩ := ob_ H
 by_cases c3 : t806 = true
 rotate_left
 · replace c3 := Bool.eq_false_iff.mpr c3
   subst c3
   rw [if_neg (show ¬ (false = true) by decide)] at H
   obtain rfl := Option.some.inj H
   go_enter Try.func61, Try.ntmps61
   go_wp2_with (first | ((with_reducible refine gate_dst (N := 1) rfl ?_); refine bx_ 1 #[.slice A0_0 l0_0.length c0_0] 26 ?_; intro gb805 hg w20 hbox hb; have BK805 := Aside0.mk (hbox); have GW805 := gw_ hg HB; have GE805 := gw_ hg HB; replace HB := bo_ HB hb; clear hb hbox hg; have hcz21_0 := cz_ BK805; have hfz21_0 := blk_frozen BK805.out 0) | ((with_reducible refine gate_callee (f := 53) rfl ?_); refine gL_ (some 7) Try.func53 #[.agg #[.slice A0_0 l0_0.length c0_0]] ?_; (with_reducible refine (impl_IsSemigroup.calls k _ _ l0_0 false _ ?side1 ?side2 A2.out).mono ?_); (case side1 => exact ch_ HR0_0 HB); (case side2 => exact HC0_0.out); rintro e w22 ⟨rfl, hb⟩; refine ⟨_, rfl, ?_⟩; replace BK805 := bk_ BK805 hb; replace HB := bp_ HB hb; (try clear hb)))
   go_ret
   exact ⟨_, rf_, by first | exact Kd.R_nil _ _ _ _ _ | exact Kd.N_nil _ _ _ _ _ | exact Kd.V_nil _ _ _ _ _ | exact Kd.Q_nil _ _ _ _ _ | exact Kd.S_nil _ _ _ _ _, bq_ HB⟩
 subst c3
 rw [if_pos rfl] at H
 obtain ⟨y807, hy807⟩ : ∃ y_ : List Int, y_ = (([] : List Int)) := ⟨_, rfl⟩
 replace H : ((impl_table.f k l0_0 200).bind fun t810 => (impl_Gaps.l0 k y807 t810 (t810.length : Int) 0)) = some r := by subst hy807; exact H
 have Ny807 := Aside0.mk hy807
 clear hy807
 obtain ⟨t810, A4, H⟩ := ob_ H
 have H' := Aside0.mk H
 clear H
 go_enter Try.func61, Try.ntmps61
 go_wp2_with (first | ((with_reducible refine gate_dst (N := 1) rfl ?_); refine bx_ 1 #[.slice A0_0 l0_0.length c0_0] 26 ?_; intro gb805 hg w5 hbox hb; have BK805 := Aside0.mk (hbox); have GW805 := gw_ hg HB; have GE805 := gw_ hg HB; replace HB := bo_ HB hb; clear hb hbox hg; have hcz6_0 := cz_ BK805; have hfz6_0 := blk_frozen BK805.out 0) | ((with_reducible refine gate_callee (f := 53) rfl ?_); refine gL_ (some 7) Try.func53 #[.agg #[.slice A0_0 l0_0.length c0_0]] ?_; (with_reducible refine (impl_IsSemigroup.calls k _ _ l0_0 true _ ?side1 ?side2 A2.out).mono ?_); (case side1 => exact ch_ HR0_0 HB); (case side2 => exact HC0_0.out); rintro e w7 ⟨rfl, hb⟩; refine ⟨_, rfl, ?_⟩; replace BK805 := bk_ BK805 hb; replace HB := bp_ HB hb; (try clear hb)) | ((with_reducible refine gate_dst (N := 9) rfl ?_); refine Kd.R_lit (Kd.int .i64) _ 3 ?hg (N := 9) ?hd (xs := ([] : List Int)) (inner := []) (ok := fun _ => True) (okp := fun _ => True) ?hr ?hp (fun _ hk => hk) trivial (Below.refl _ _) (Nat.le_refl _) (by simp) ?_; (case hd => rfl); (case hg => rfl); (case hr => first | (go_simp; done) | (go_simp; rfl)); (case hp => exact (Reps.none _ _)); intro v808 w8 ho9 hb hg_ hnew_; clear hg_ hnew_; (first | rw [← Ny807.out] at ho9 | (simp only [Int.reduceToNat] at ho9; rw [← Ny807.out] at ho9)); have HO809 := Aside0.mk (Kd.R_lower ho9 (below_size (bq_ HB))); replace BK805 := bk_ BK805 hb; replace HB := bp_ HB hb; clear hb ho9; have hcz10_0 := cz_ BK805; have hfz10_0 := blk_frozen BK805.out 0) | ((with_reducible refine gate_callee (f := 75) rfl ?_); refine gL_ (some 11) Try.func75 #[.agg #[.slice A0_0 l0_0.length c0_0], .int .i64 200] ?_; (with_reducible refine (impl_table.calls k _ _ l0_0 200 t810 _ ?side1 ?side2 A4.out).mono ?_); (case side1 => exact ch_ HR0_0 HB); (case side2 => exact HC0_0.out); rintro e w11 ⟨v811, rfl, ho0, hb⟩; refine ⟨_, rfl, ?_⟩; replace HO809 := Aside0.mk (Kd.R_below (re_ HO809.out) hb); have HO812 := Aside0.mk (Kd.R_lower ho0 (below_size (bq_ HB))); replace BK805 := bk_ BK805 hb; replace HB := bp_ HB hb; (try clear hb); (try clear ho0); obtain ⟨Ao12, co12, eo12⟩ := Kd.R_slice HO812.out; subst eo12))
 go_loopg [3, 13] k (fun kq v3 v13 w' => ∃ (x3_1 : List Int) (x13_1 : Int), v13 = .int .i64 x13_1 ∧ Aside0 (impl_Gaps.l0 kq x3_1 t810 (t810.length : Int) x13_1 = some r) ∧ Aside0 (kq ≤ k) ∧ Aside0 (Kd.R (Kd.int .i64) 3 w' w.heap.size (fun _ => True) v3 x3_1) ∧ Aside0 (Kd.R Kd.bool 4 w' w.heap.size (fun _ => True) (.slice Ao12 t810.length co12) t810) ∧ Aside0 (w'.heap[gb805]? = some (.cells #[(.slice A0_0 l0_0.length c0_0)] 26 (0, 0))) ∧ Aside0 (Below w.heap.size w w'))
 case atStart => exact ⟨(y807), (0), rs_, H', ⟨Nat.le_refl _⟩, ⟨re_ HO809.out⟩, ⟨re_ HO812.out⟩, ⟨be_ BK805.out⟩, ⟨bq_ HB⟩⟩
 case round =>
  clear H'
  try clear p2
  try clear c3
  try clear c5
  try clear c6
  try clear c7
  try clear hcz10_0
  try clear hcz6_0
  try clear hfz10_0
  try clear hfz6_0
  obtain ⟨x3_1, x13_1, rfl, HA, HK1, HO_3, HO_11, BK805, HB⟩ := hrel
  cases gk with
  | zero => exact absurd HA.out (by simp [impl_Gaps.l0])
  | succ k1 =>
   have H := HA.out
   clear HA
   simp only [impl_Gaps.l0] at H
   by_cases c13 : x13_1 < (t810.length : Int)
   rotate_left
   · rw [if_neg c13] at H
     have c13b0 : decide (x13_1 < (t810.length : Int)) = false := decide_eq_false c13
     clear c13
     obtain rfl := Option.some.inj H
     go_wp2
     go_ret
     exact ⟨_, rf_, re_ HO_3.out, bq_ HB⟩
   rw [if_pos c13] at H
   have c13b0 : decide (x13_1 < (t810.length : Int)) = true := decide_eq_true c13
   clear c13
   by_cases c14 : 0 ≤ x13_1
   rotate_left
   · rw [if_neg c14] at H
     cases H
   rw [if_pos c14] at H
   have c14b0 : decide (0 ≤ x13_1) = true := decide_eq_true c14
   clear c14
   by_cases c15 : x13_1 < (t810.length : Int)
   rotate_left
   · rw [if_neg c15] at H
     cases H
   rw [if_pos c15] at H
   have c15b0 : decide (x13_1 < (t810.length : Int)) = true := decide_eq_true c15
   clear c15
   obtain ⟨bq16, hbq16⟩ : ∃ b_ : Bool, b_ = (rdOf false t810 x13_1) := ⟨_, rfl⟩
   replace H : (if bq16 = true then (impl_Gaps.l0 k1 x3_1 t810 (t810.length : Int) (wrap64 (x13_1 + 1))) else (if x3_1.length < 17592186044416 then (impl_Gaps.l0 k1 (x3_1 ++ [x13_1]) t810 (t810.length : Int) (wrap64 (x13_1 + 1))) else (none))) = some r := by rw [← hbq16] at H; exact H
   have Nbq16 := Aside0.mk hbq16
   clear hbq16
   by_cases c17 : bq16 = true
   · subst c17
     rw [if_pos rfl] at H
     have H' := Aside0.mk H
     clear H
     have p813 : 0 ≤ (x13_1 : Int) := od_
     have q813 : x13_1 < (t810.length : Int) := od_
     obtain ⟨ad813, e813, hx813_0⟩ := Kd.at_bool (Kd.R_reads' HO_11.out).2.2 x13_1 p813 q813
     (try rw [← Nbq16.out] at hx813_0)
     cases e813
     replace p813 := eq_true p813
     replace q813 := eq_true q813
     go_wp2
     go_roundg k1
     case measure => have := HK1.out; omega
     case rel => exact ⟨(x3_1), (wrap64 (x13_1 + 1)), rs_, H', ⟨by have := HK1.out; omega⟩, ⟨re_ HO_3.out⟩, ⟨re_ HO_11.out⟩, ⟨be_ BK805.out⟩, ⟨bq_ HB⟩⟩
   replace c17 := Bool.eq_false_iff.mpr c17
   subst c17
   rw [if_neg (show ¬ (false = true) by decide)] at H
   by_cases c18 : x3_1.length < 17592186044416
   rotate_left
   · rw [if_neg c18] at H
     cases H
   rw [if_pos c18] at H
   have LMc18 := Aside0.mk c18
   clear c18
   obtain ⟨y814, hy814⟩ : ∃ y_ : List Int, y_ = (x3_1 ++ [x13_1]) := ⟨_, rfl⟩
   replace H : (impl_Gaps.l0 k1 y814 t810 (t810.length : Int) (wrap64 (x13_1 + 1))) = some r := by subst hy814; exact H
   have Ny814 := Aside0.mk hy814
   clear hy814
   have H' := Aside0.mk H
   clear H
   have p813 : 0 ≤ (x13_1 : Int) := od_
   have q813 : x13_1 < (t810.length : Int) := od_
   obtain ⟨ad813, e813, hx813_0⟩ := Kd.at_bool (Kd.R_reads' HO_11.out).2.2 x13_1 p813 q813
   (try rw [← Nbq16.out] at hx813_0)
   cases e813
   replace p813 := eq_true p813
   replace q813 := eq_true q813
   go_wp2_with (first | ((with_reducible refine gate_builtin (b := .append) (xs := #[.tmp 20, .tmp 22]) rfl ?_); at_builtin; refine Kd.R_append (Kd.int .i64) (w0 := w) w.heap.size rfl (.tmp 20) (.tmp 22) 24 3 (.int .i64 0) 8 rfl Try.underlying24 info3 rfl (by decide) (by omega) u3 x3_1 x13_1 [.int .i64 x13_1] (fun _ => True) (fun _ => False) rfl rfl ?aP (fun _ hk => hk.elim) ?aF ?aO ?aB ?aS ?aL ?_; (case aP => exact rfl); (case aB => exact (bq_ HB)); (case aF => exact (fun _ _ => trivial)); (case aO => exact (re_ HO_3.out)); (case aS => exact (below_size (bq_ HB))); (case aL => have := LMc18.out; omega); intro v815 w19 ho hb hg hat; rw [← Ny814.out] at ho; replace HO_11 := Aside0.mk (Kd.R_over' (re_ HO_11.out) (Kd.R_typed (re_ HO_3.out)) (by decide) hg); replace BK805 := Aside0.mk (blk_grown (be_ BK805.out) hg (Kd.R_ne HO_3.out BK805.out (by decide))); replace HB := Aside0.mk (hb); have HO816 := Aside0.mk (ho); clear HO_3; clear ho hb hg hat))
   go_roundg k1
   case measure => have := HK1.out; omega
   case rel => exact ⟨(y814), (wrap64 (x13_1 + 1)), rs_, H', ⟨by have := HK1.out; omega⟩, ⟨re_ HO816.out⟩, ⟨re_ HO_11.out⟩, ⟨be_ BK805.out⟩, ⟨bq_ HB⟩⟩
def impl_FrobeniusOf.f (k : Nat) (l0_0 : List Int) : Option (Int) := (impl_Gaps.f k l0_0).bind fun t818 => (if (t818.length : Int) = 0 then (some (-1)) else (if 0 ≤ (wrap64 ((t818.length : Int) - 1)) then (if (wrap64 ((t818.length : Int) - 1)) < (t818.length : Int) then (some (rd t818 (wrap64 ((t818.length : Int) - 1)))) else (none)) else (none)))
theorem impl_FrobeniusOf.calls (k : Nat) (A0_0 : Option Addr) (c0_0 : Nat) (l0_0 : List Int) (r : Int) (w : World) (hr0_0 : Kd.C (Kd.int .i64) w A0_0 l0_0.length l0_0) (hc0_0 : l0_0.length ≤ c0_0) (h : impl_FrobeniusOf.f k l0_0 = some r) :
 Calls Try.prog 30 #[.agg #[.slice A0_0 l0_0.length c0_0]] w fun e w' => e = .returned (.int .i64 r) ∧ Below w.heap.size w w' := by
 have hu26 := Try.underlying26
 have HR0_0 := Aside0.mk hr0_0
 have HC0_0 := Aside0.mk hc0_0
 clear hr0_0 hc0_0
 have HB := Aside0.mk (Below.refl w.heap.size w)
 have H := h
 clear h
 unfold impl_FrobeniusOf.f at H
 obtain ⟨t818, A2, H⟩ := ob_ H
 by_cases c3 : (t818.length : Int) = 0
 · rw [if_pos c3] at H
   have c3b0 : ((t818.length : Int) == 0) = true := beq_iff_eq.mpr c3
   have c3b1 : ((t818.length : Int) != 0) = false := bne_eq_false_iff_eq.mpr c3
   clear c3
   obtain rfl := Option.some.inj H
   go_enter Try.func30, Try.ntmps30
   go_wp2_with (first | ((with_reducible refine gate_dst (N := 1) rfl ?_); refine bx_ 1 #[.slice A0_0 l0_0.length c0_0] 26 ?_; intro gb817 hg w4 hbox hb; have BK817 := Aside0.mk (hbox); have GW817 := gw_ hg HB; have GE817 := gw_ hg HB; replace HB := bo_ HB hb; clear hb hbox hg; have hcz5_0 := cz_ BK817; have hfz5_0 := blk_frozen BK817.out 0) | ((with_reducible refine gate_callee (f := 61) rfl ?_); refine gL_ (some 5) Try.func61 #[.agg #[.slice A0_0 l0_0.length c0_0]] ?_; (with_reducible refine (impl_Gaps.calls k _ _ l0_0 t818 _ ?side1 ?side2 A2.out).mono ?_); (case side1 => exact ch_ HR0_0 HB); (case side2 => exact HC0_0.out); rintro e w6 ⟨v819, rfl, ho0, hb⟩; refine ⟨_, rfl, ?_⟩; have HO820 := Aside0.mk (Kd.R_lower ho0 (below_size (bq_ HB))); replace BK817 := bk_ BK817 hb; replace HB := bp_ HB hb; (try clear hb); (try clear ho0); obtain ⟨Ao7, co7, eo7⟩ := Kd.R_slice HO820.out; subst eo7))
   go_ret
   exact ⟨rf_, bq_ HB⟩
 rw [if_neg c3] at H
 have c3b0 : ((t818.length : Int) == 0) = false := beq_eq_false_iff_ne.mpr c3
 have c3b1 : ((t818.length : Int) != 0) = true := bne_iff_ne.mpr c3
 have c3b2 : ¬ (t818 = []) := fun h_ => c3 (by rw [h_]; rfl)
 obtain ⟨ji8, hji8⟩ : ∃ j_ : Int, (wrap64 ((t818.length : Int) - 1)) = j_ := ⟨_, rfl⟩
 replace H : (if 0 ≤ (ji8) then (if (ji8) < (t818.length : Int) then (some (rd t818 (ji8))) else (none)) else (none)) = some r := by first | (rw [hji8] at H; exact H) | (simp only [hji8] at H ⊢; exact H)
 (try rw [hji8] at A2)
 have hji8w : (IntKind.i64.wrap ((t818.length : Int) - 1)) = ji8 := (i64_w _).trans hji8
 by_cases c9 : 0 ≤ (ji8)
 rotate_left
 · rw [if_neg c9] at H
   cases H
 rw [if_pos c9] at H
 have c9b0 : decide (0 ≤ (ji8)) = true := decide_eq_true c9
 clear c9
 by_cases c10 : (ji8) < (t818.length : Int)
 rotate_left
 · rw [if_neg c10] at H
   cases H
 rw [if_pos c10] at H
 have c10b0 : decide ((ji8) < (t818.length : Int)) = true := decide_eq_true c10
 clear c10
 obtain rfl := Option.some.inj H
 go_enter Try.func30, Try.ntmps30
 go_wp2_with (first | ((with_reducible refine gate_dst (N := 1) rfl ?_); refine bx_ 1 #[.slice A0_0 l0_0.length c0_0] 26 ?_; intro gb817 hg w11 hbox hb; have BK817 := Aside0.mk (hbox); have GW817 := gw_ hg HB; have GE817 := gw_ hg HB; replace HB := bo_ HB hb; clear hb hbox hg; have hcz12_0 := cz_ BK817; have hfz12_0 := blk_frozen BK817.out 0) | ((with_reducible refine gate_callee (f := 61) rfl ?_); refine gL_ (some 5) Try.func61 #[.agg #[.slice A0_0 l0_0.length c0_0]] ?_; (with_reducible refine (impl_Gaps.calls k _ _ l0_0 t818 _ ?side1 ?side2 A2.out).mono ?_); (case side1 => exact ch_ HR0_0 HB); (case side2 => exact HC0_0.out); rintro e w13 ⟨v819, rfl, ho0, hb⟩; refine ⟨_, rfl, ?_⟩; have HO820 := Aside0.mk (Kd.R_lower ho0 (below_size (bq_ HB))); replace BK817 := bk_ BK817 hb; replace HB := bp_ HB hb; (try clear hb); (try clear ho0); obtain ⟨Ao14, co14, eo14⟩ := Kd.R_slice HO820.out; subst eo14; have p821 : 0 ≤ ((ji8) : Int) := od_; have q821 : (ji8) < (t818.length : Int) := od_; obtain ⟨ad821, e821, hx821_0⟩ := Kd.at_int (Kd.R_reads' HO820.out).2.2 (ji8) p821 q821; cases e821; replace p821 := eq_true p821; replace q821 := eq_true q821))
 go_ret
 exact ⟨by first | rfl | (simp [errW_none, errW_some] <;> rfl) | (simp only [← hji8]; first | rfl | (simp [errW_none, errW_some] <;> rfl)) | (simp [*, errW_none, errW_some] <;> rfl), bq_ HB⟩
def impl_GlueFrobenius.f (k : Nat) (l0_0 : List Int) (l1_0 : List Int) (a2 : Int) (a3 : Int) : Option (Int) := (impl_GlueOf.f k l0_0 l1_0 a2 a3).bind fun bt824 => (if bt824.2 = true then ((impl_FrobeniusOf.f k l0_0).bind fun t829 => ((impl_FrobeniusOf.f k l1_0).bind fun t830 => (some (wrap64 ((wrap64 ((wrap64 (a2 * t829)) + (wrap64 (a3 * t830)))) + (wrap64 (a2 * a3))))))) else (some (-1)))
def impl_GlueFrobenius.T4 : Bool × List (List Nat × List Nat) := (true, [([], []), ([], []), ([1], [1]), ([0, 2], [0, 2]), ([], []), ([], []), ([5, 2], [5]), ([4, 6], [4, 6]), ([3, 7], [3, 7]), ([], []), ([], []), ([9, 10], [9, 10]), ([8, 11], [8, 11]), ([12, 6, 0, 1, 2, 3, 4, 5, 6, 7, 8, 9, 10, 11, 12], [12])])
def impl_GlueFrobenius.B4 : List Nat := [0, 0, 2, 7, 0, 0, 38, 118, 255, 0, 0, 1536, 4095, 8191]
theorem impl_GlueFrobenius.tab4 : rtab .any (opsOf Try.f8 4) = impl_GlueFrobenius.T4 := by kernel_rfl
theorem impl_GlueFrobenius.bits4 : waitsOk impl_GlueFrobenius.T4.2 impl_GlueFrobenius.B4 = true := by kernel_rfl
theorem impl_GlueFrobenius.calls (k : Nat) (A0_0 : Option Addr) (c0_0 : Nat) (l0_0 : List Int) (A1_0 : Option Addr) (c1_0 : Nat) (l1_0 : List Int) (a2 : Int) (a3 : Int) (r : Int) (w : World) (hr0_0 : Kd.C (Kd.int .i64) w A0_0 l0_0.length l0_0) (hc0_0 : l0_0.length ≤ c0_0) (hr1_0 : Kd.C (Kd.int .i64) w A1_0 l1_0.length l1_0) (hc1_0 : l1_0.length ≤ c1_0) (h : impl_GlueFrobenius.f k l0_0 l1_0 a2 a3 = some r) :
 Calls Try.prog 8 #[.agg #[.slice A0_0 l0_0.length c0_0], .agg #[.slice A1_0 l1_0.length c1_0], .int .i64 a2, .int .i64 a3] w fun e w' => e = .returned (.int .i64 r) ∧ Below w.heap.size w w' := by
 have hu26 := Try.underlying26
 have HR0_0 := Aside0.mk hr0_0
 have HC0_0 := Aside0.mk hc0_0
 clear hr0_0 hc0_0
 have HR1_0 := Aside0.mk hr1_0
 have HC1_0 := Aside0.mk hc1_0
 clear hr1_0 hc1_0
 have HB := Aside0.mk (Below.refl w.heap.size w)
 have H := h
 clear h
 unfold impl_GlueFrobenius.f at H
 obtain ⟨⟨t824, t827⟩, A5, H⟩ := ob_ H
 (try dsimp only at H)
 by_cases c6 : t827 = true
 rotate_left
 · replace c6 := Bool.eq_false_iff.mpr c6
   subst c6
   rw [if_neg (show ¬ (false = true) by decide)] at H
   obtain rfl := Option.some.inj H
   go_enter Try.func8, Try.ntmps8
   go_wp2_with (first | ((with_reducible refine gate_dst (N := 4) rfl ?_); refine bx_ 4 #[.slice A0_0 l0_0.length c0_0] 26 ?_; intro gb822 hg w24 hbox hb; have BK822 := Aside0.mk (hbox); have GW822 := gw_ hg HB; have GE822 := gw_ hg HB; replace HB := bo_ HB hb; clear hb hbox hg) | ((with_reducible refine gate_dst (N := 5) rfl ?_); refine bx_ 5 #[.slice A1_0 l1_0.length c1_0] 26 ?_; intro gb823 hg w25 hbox hb; have BK823 := Aside0.mk (hbox); have GW823 := gq_ hg (bq_ HB); have GE823 := gq_ hg (bq_ HB); replace HB := bp_ HB hb; have NB822_823 := nl_ hg BK822; have NB823_822 := ng_ hg BK822; replace BK822 := bk_ BK822 hb; clear hb hbox hg; have hnb26 := NB822_823.out; have hnc26 := NB823_822.out; have hcz27_0 := cz_ BK822; have hfz27_0 := blk_frozen BK822.out 0; have hcz28_0 := cz_ BK823; have hfz28_0 := blk_frozen BK823.out 0) | ((with_reducible refine gate_callee (f := 6) rfl ?_); refine gL_ (some 16) Try.func6 #[.agg #[.slice A0_0 l0_0.length c0_0], .agg #[.slice A1_0 l1_0.length c1_0], .int .i64 a2, .int .i64 a3] ?_; (with_reducible refine (impl_GlueOf.calls k _ _ l0_0 _ _ l1_0 a2 a3 t824 false _ ?side1 ?side2 ?side3 ?side4 A5.out).mono ?_); (case side1 => exact ch_ HR0_0 HB); (case side2 => exact HC0_0.out); (case side3 => exact ch_ HR1_0 HB); (case side4 => exact HC1_0.out); rintro e w29 ⟨v825, rfl, ho0, hb⟩; refine ⟨_, rfl, ?_⟩; have HO826 := Aside0.mk (Kd.R_lower ho0 (below_size (bq_ HB))); replace BK822 := bk_ BK822 hb; replace BK823 := bk_ BK823 hb; replace HB := bp_ HB hb; (try clear hb); (try clear ho0)) | ((with_reducible refine gate_dst (N := 9) rfl ?_); refine bx_ 9 #[.slice none 0 0] 26 ?_; intro gb828 hg w30 hbox hb; replace HO826 := Aside0.mk (Kd.R_below (re_ HO826.out) hb); have BK828 := Aside0.mk (hbox); have GW828 := gq_ hg (bq_ HB); have GE828 := gq_ hg (bq_ HB); replace HB := bp_ HB hb; have NB822_828 := nl_ hg BK822; have NB828_822 := ng_ hg BK822; replace BK822 := bk_ BK822 hb; have NB823_828 := nl_ hg BK823; have NB828_823 := ng_ hg BK823; replace BK823 := bk_ BK823 hb; clear hb hbox hg; obtain ⟨Ao31, co31, eo31⟩ := Kd.R_slice HO826.out; subst eo31; have hnb32 := NB828_822.out; have hnc32 := NB822_828.out; have hnb33 := NB828_823.out; have hnc33 := NB823_828.out; have hcz34_0 := cz_ BK828; have hfz34_0 := blk_frozen BK828.out 0))
   go_ret
   exact ⟨rf_, bq_ HB⟩
 subst c6
 rw [if_pos rfl] at H
 obtain ⟨t829, A7, H⟩ := ob_ H
 obtain ⟨t830, A8, H⟩ := ob_ H
 obtain rfl := Option.some.inj H
 go_enter Try.func8, Try.ntmps8
 try go_wp2_with (first | ((with_reducible refine gate_dst (N := 4) rfl ?_); refine bx_ 4 #[.slice A0_0 l0_0.length c0_0] 26 ?_; intro gb822 hg w9 hbox hb; have BK822 := Aside0.mk (hbox); have GW822 := gw_ hg HB; have GE822 := gw_ hg HB; replace HB := bo_ HB hb; clear hb hbox hg) | ((with_reducible refine gate_dst (N := 5) rfl ?_); refine bx_ 5 #[.slice A1_0 l1_0.length c1_0] 26 ?_; intro gb823 hg w10 hbox hb; have BK823 := Aside0.mk (hbox); have GW823 := gq_ hg (bq_ HB); have GE823 := gq_ hg (bq_ HB); replace HB := bp_ HB hb; have NB822_823 := nl_ hg BK822; have NB823_822 := ng_ hg BK822; replace BK822 := bk_ BK822 hb; clear hb hbox hg; have hnb11 := NB822_823.out; have hnc11 := NB823_822.out; have hcz12_0 := cz_ BK822; have hfz12_0 := blk_frozen BK822.out 0; have hcz13_0 := cz_ BK823; have hfz13_0 := blk_frozen BK823.out 0) | ((with_reducible refine gate_callee (f := 6) rfl ?_); refine gL_ (some 16) Try.func6 #[.agg #[.slice A0_0 l0_0.length c0_0], .agg #[.slice A1_0 l1_0.length c1_0], .int .i64 a2, .int .i64 a3] ?_; (with_reducible refine (impl_GlueOf.calls k _ _ l0_0 _ _ l1_0 a2 a3 t824 true _ ?side1 ?side2 ?side3 ?side4 A5.out).mono ?_); (case side1 => exact ch_ HR0_0 HB); (case side2 => exact HC0_0.out); (case side3 => exact ch_ HR1_0 HB); (case side4 => exact HC1_0.out); rintro e w14 ⟨v825, rfl, ho0, hb⟩; refine ⟨_, rfl, ?_⟩; have HO826 := Aside0.mk (Kd.R_lower ho0 (below_size (bq_ HB))); replace BK822 := bk_ BK822 hb; replace BK823 := bk_ BK823 hb; replace HB := bp_ HB hb; (try clear hb); (try clear ho0)) | ((with_reducible refine gate_dst (N := 9) rfl ?_); refine bx_ 9 #[.slice none 0 0] 26 ?_; intro gb828 hg w15 hbox hb; replace HO826 := Aside0.mk (Kd.R_below (re_ HO826.out) hb); have BK828 := Aside0.mk (hbox); have GW828 := gq_ hg (bq_ HB); have GE828 := gq_ hg (bq_ HB); replace HB := bp_ HB hb; have NB822_828 := nl_ hg BK822; have NB828_822 := ng_ hg BK822; replace BK822 := bk_ BK822 hb; have NB823_828 := nl_ hg BK823; have NB828_823 := ng_ hg BK823; replace BK823 := bk_ BK823 hb; clear hb hbox hg; obtain ⟨Ao16, co16, eo16⟩ := Kd.R_slice HO826.out; subst eo16; have hnb17 := NB828_822.out; have hnc17 := NB822_828.out; have hnb18 := NB828_823.out; have hnc18 := NB823_828.out; have hcz19_0 := cz_ BK828; have hfz19_0 := blk_frozen BK828.out 0))
 have n0_ : Aside0 (Kd.R (Kd.int .i64) 3 (w15.setCell ⟨gb828, 0, none⟩ (.slice Ao16 t824.length co16)) w.heap.size (fun _ => True) (.slice Ao16 t824.length co16) t824) := ⟨by (with_reducible repeat (first | apply Kd.R_alloc | apply Kd.R_drewN | apply Kd.R_drew)); exact Kd.R_mono (Kd.R_far (p := ⟨gb828, 0, none⟩) (Kd.R_types HO826.out BK828.out (by decide)) (fun _ hk => hk.2) (.slice Ao16 t824.length co16)) (fun _ hk => trivial)⟩
 have n1_ : Aside0 ((w15.setCell ⟨gb828, 0, none⟩ (.slice Ao16 t824.length co16)).heap[gb822]? = some (.cells #[.slice A0_0 l0_0.length c0_0] 26 (0, 0))) := ⟨by (with_reducible repeat (first | refine blk_drewN ?_ _ | refine blk_drew ?_ | refine blk_alloc ?_ _)); refine blk_far ?_ NB822_828.out _; (with_reducible repeat (first | refine blk_drewN ?_ _ | refine blk_drew ?_ | refine blk_alloc ?_ _)); exact BK822.out⟩
 have n2_ : Aside0 ((w15.setCell ⟨gb828, 0, none⟩ (.slice Ao16 t824.length co16)).heap[gb823]? = some (.cells #[.slice A1_0 l1_0.length c1_0] 26 (0, 0))) := ⟨by (with_reducible repeat (first | refine blk_drewN ?_ _ | refine blk_drew ?_ | refine blk_alloc ?_ _)); refine blk_far ?_ NB823_828.out _; (with_reducible repeat (first | refine blk_drewN ?_ _ | refine blk_drew ?_ | refine blk_alloc ?_ _)); exact BK823.out⟩
 have n3_ : Aside0 ((w15.setCell ⟨gb828, 0, none⟩ (.slice Ao16 t824.length co16)).heap[gb828]? = some (.cells #[.slice Ao16 t824.length co16] 26 (0, 0))) := ⟨by (with_reducible repeat (first | refine blk_drewN ?_ _ | refine blk_drew ?_ | refine blk_alloc ?_ _)); refine blk_put (cs := #[.slice none 0 0]) ?_ 0 _ rfl; (with_reducible repeat (first | refine blk_drewN ?_ _ | refine blk_drew ?_ | refine blk_alloc ?_ _)); exact BK828.out⟩
 have n4_ : Aside0 (Below w.heap.size w (w15.setCell ⟨gb828, 0, none⟩ (.slice Ao16 t824.length co16))) := ⟨bq_ HB⟩
 (try clear HO826)
 (try clear BK822)
 (try clear BK823)
 (try clear BK828)
 (try clear HB)
 generalize (w15.setCell ⟨gb828, 0, none⟩ (.slice Ao16 t824.length co16)) = w20 at n0_ n1_ n2_ n3_ n4_ ⊢
 have HO826 := n0_
 have BK822 := n1_
 have BK823 := n2_
 have BK828 := n3_
 have HB := n4_
 clear n0_ n1_ n2_ n3_ n4_
 replace HO826 := Aside0.mk (Kd.R_drew HO826.out)
 replace BK822 := Aside0.mk (blk_drew BK822.out)
 replace BK823 := Aside0.mk (blk_drew BK823.out)
 replace BK828 := Aside0.mk (blk_drew BK828.out)
 replace HB := Aside0.mk (below_drew1 HB.out)
 refine start_ (n := 14) (S := fun w' => w'.cell? ⟨gb822, 0, none⟩ = some (.slice A0_0 l0_0.length c0_0) ∧ w'.cell? ⟨gb823, 0, none⟩ = some (.slice A1_0 l1_0.length c1_0)) (ds := []) (B_ 0 14) (by kernel_rfl) rfl rfl ⟨(blk_cell BK822.out 0).trans rfl, (blk_cell BK823.out 0).trans rfl⟩ (fun hHeld => ?_); refine with_tabW impl_GlueFrobenius.tab4 impl_GlueFrobenius.bits4 (fun HT_ HW_ => ?_)
 generalize w20.drew = w21 at HO826 BK822 BK823 BK828 HB hHeld ⊢
 refine pu_ HT_ 0 21 (B_ 1 14) ?_
 refine pu_ HT_ 4 25 (B_ 17 14) ?_
 refine pu_ HT_ 9 30 (B_ 529 14) ?_
 refine pu_ HT_ 10 31 (B_ 1553 14) ?_
 refine pu_ HT_ 11 32 (B_ 3601 14) ?_
 refine tk2_ HT_ HW_ hHeld 1 22 (B_ 3603 14) ?_
 refine tk2_ HT_ HW_ hHeld 5 26 (B_ 3635 14) ?_
 refine on_ HT_ 2 23 (B_ 3639 14) (fun K hK => ?_)
 refine goes_ Try.func30 (by kernel_rfl) rfl #[.agg #[.slice A0_0 l0_0.length c0_0]] (by rfl) rfl rfl (by (try simp only [List.map_toArray, List.map_cons, List.map_nil]); first | done | rfl | (simp only [List.length_drop, List.length_take]; rfl)) ?_
 with_reducible refine (impl_FrobeniusOf.calls k _ _ l0_0 t829 _ ?side1 ?side2 A7.out).mono ?_
 (case side1 => exact ch_ HR0_0 HB)
 (case side2 => exact HC0_0.out)
 rintro e w22 ⟨rfl, hb⟩
 refine ⟨_, rfl, ?_⟩
 replace HO826 := Aside0.mk (Kd.R_below (re_ HO826.out) hb)
 replace BK822 := bk_ BK822 hb
 replace BK823 := bk_ BK823 hb
 replace BK828 := bk_ BK828 hb
 replace HB := bp_ HB hb
 (try clear hb)
 refine hK.out _ _ ⟨(blk_cell BK822.out 0).trans rfl, (blk_cell BK823.out 0).trans rfl⟩ (fun hHeld => ?_)
 clear hK K
 refine norm_ (a' := ?_) ?_ ?_
 rotate_left
 · show Act.put _ (some 23) _ = _
   simp only [Act.put, z1_, z2_, z3_, i64_w, i32_w]
   rfl
 refine pu_ HT_ 3 24 (B_ 3647 14) ?_
 refine on_ HT_ 6 27 (B_ 3711 14) (fun K hK => ?_)
 refine goes_ Try.func30 (by kernel_rfl) rfl #[.agg #[.slice A1_0 l1_0.length c1_0]] (by rfl) rfl rfl (by (try simp only [List.map_toArray, List.map_cons, List.map_nil]); first | done | rfl | (simp only [List.length_drop, List.length_take]; rfl)) ?_
 with_reducible refine (impl_FrobeniusOf.calls k _ _ l1_0 t830 _ ?side1 ?side2 A8.out).mono ?_
 (case side1 => exact ch_ HR1_0 HB)
 (case side2 => exact HC1_0.out)
 rintro e w23 ⟨rfl, hb⟩
 refine ⟨_, rfl, ?_⟩
 replace HO826 := Aside0.mk (Kd.R_below (re_ HO826.out) hb)
 replace BK822 := bk_ BK822 hb
 replace BK823 := bk_ BK823 hb
 replace BK828 := bk_ BK828 hb
 replace HB := bp_ HB hb
 (try clear hb)
 refine hK.out _ _ ⟨(blk_cell BK822.out 0).trans rfl, (blk_cell BK823.out 0).trans rfl⟩ (fun hHeld => ?_)
 clear hK K
 refine norm_ (a' := ?_) ?_ ?_
 rotate_left
 · show Act.put _ (some 27) _ = _
   simp only [Act.put, z1_, z2_, z3_, i64_w, i32_w]
   rfl
 refine pu_ HT_ 7 28 (B_ 3839 14) ?_
 refine pu_ HT_ 8 29 (B_ 4095 14) ?_
 refine pu_ HT_ 12 33 (B_ 8191 14) ?_
 refine pu_ HT_ 13 8 (B_ 16383 14) ?_
 refine done_ (done_of HT_.out (by kernel_rfl)) ?_
 try go_wp2
 go_ret
 exact ⟨rf_, bq_ HB⟩
def spec_l2Draw.l0 : Nat → List Int → Int → Int → List Int → Int → Int → Option (List Int × Int × Int)
 | 0, _, _, _, _, _, _ => none
 | k + 1, x3, x4, x5, x1000, x1001, x1002 => if x5 < x4 then ((spec_l1Below.f x1000 x1001 x1002 25).bind fun bt837 => (if x3.length < 17592186044416 then (spec_l2Draw.l0 k (x3 ++ [wrap64 (bt837.1 - 4)]) x4 (wrap64 (x5 + 1)) x1000 bt837.2.1 bt837.2.2) else (none))) else (some (x3, x1001, x1002))
def spec_l2Draw.f (k : Nat) (s0_0 : List Int) (s0_1 : Int) (s0_2 : Int) : Option (List Int × Int × Int) := (spec_l1Below.f s0_0 s0_1 s0_2 6).bind fun bt834 => (spec_l2Draw.l0 k (([] : List Int)) bt834.1 0 s0_0 bt834.2.1 bt834.2.2)
theorem spec_l2Draw.calls (k : Nat) (g : Nat) (s0_0 : List Int) (s0_1 : Int) (s0_2 : Int) (r1 : List Int) (r2 : Int) (r3 : Int) (w0 w : World) (hI : IsS64 w0 w g s0_0 s0_1 s0_2) (hB : Below w0.heap.size w0 w) (h : spec_l2Draw.f k s0_0 s0_1 s0_2 = some (r1, r2, r3)) :
 Calls Try.prog 62 #[.pointer (some ⟨g, 0, none⟩)] w fun e w' => ∃ v0_ : Value, e = .returned (v0_) ∧ Kd.R (Kd.int .i64) 3 w' w.heap.size (fun _ => True) v0_ r1 ∧ IsS64 w0 w' g s0_0 r2 r3 ∧ Below w0.heap.size w0 w' ∧ KeepBut w w' g none := by
 have HI0 := Aside0.mk hI
 have HK := Aside0.mk (KeepBut.refl w g none)
 have HL := Aside0.mk hB.size
 clear hI
 have HW0 := Aside0.mk hB.size
 have HB := Aside0.mk hB
 clear hB
 have H := h
 clear h
 unfold spec_l2Draw.f at H
 obtain ⟨y831, hy831⟩ : ∃ y_ : List Int, y_ = (([] : List Int)) := ⟨_, rfl⟩
 replace H : ((spec_l1Below.f s0_0 s0_1 s0_2 6).bind fun bt834 => (spec_l2Draw.l0 k y831 bt834.1 0 s0_0 bt834.2.1 bt834.2.2)) = some (r1, r2, r3) := by subst hy831; exact H
 have Ny831 := Aside0.mk hy831
 clear hy831
 obtain ⟨⟨t834, t835, t836⟩, A2, H⟩ := ob_ H
 (try dsimp only at H)
 have H' := Aside0.mk H
 clear H
 go_enter Try.func62, Try.ntmps62
 go_wp2_with (first | ((with_reducible refine gate_dst (N := 6) rfl ?_); refine Kd.R_lit (Kd.int .i64) _ 3 ?hg (N := 6) ?hd (xs := ([] : List Int)) (inner := []) (ok := fun _ => True) (okp := fun _ => True) ?hr ?hp (fun _ hk => hk) trivial (Below.refl _ _) (Nat.le_refl _) (by simp) ?_; (case hd => rfl); (case hg => rfl); (case hr => first | (go_simp; done) | (go_simp; rfl)); (case hp => exact (Reps.none _ _)); intro v832 w3 ho4 hb hg_ hnew_; clear hg_ hnew_; (first | rw [← Ny831.out] at ho4 | (simp only [Int.reduceToNat] at ho4; rw [← Ny831.out] at ho4)); have HO833 := Aside0.mk (Kd.R_lower ho4 (keep_size (w := w) (g := g) (row := none) (kq_ HK))); replace HK := Aside0.mk (KeepBut.trans (kq_ HK) (KeepBut.of_below hb g none) (.inl rfl)); replace HB := Aside0.mk (below_step (bi_ HB (IsS64.ge HI0.out)) hb); replace HI0 := Aside0.mk (IsS64.below (IsS64.q_ HI0) hb); clear hb ho4) | ((with_reducible refine gate_callee (f := 49) rfl ?_); refine gL_ (some 8) Try.func49 #[.pointer (some ⟨g, 0, none⟩), .int .i64 6] ?_; (with_reducible refine (spec_l1Below.calls g s0_0 s0_1 s0_2 6 t834 t835 t836 w0 _ ?side1 ?side2 A2.out).mono ?_); (case side1 => exact IsS64.q_ HI0); (case side2 => exact bi_ HB (IsS64.ge HI0.out)); rintro e w5 ⟨rfl, hi, hb, hk⟩; refine ⟨_, rfl, ?_⟩; replace HO833 := Aside0.mk (Kd.R_mono (Kd.R_keep (IsS64.apart (show IsS64 w0 _ g s0_0 s0_1 s0_2 from IsS64.q_ HI0) (re_ HO833.out) (by decide)) hk (fun _ h => h.2)) (fun _ h => h.1)); replace HK := Aside0.mk (KeepBut.trans (kq_ HK) hk (.inl rfl)); replace HB := Aside0.mk (hb); replace HI0 := Aside0.mk (hi); (try clear hb); (try clear hk); (try clear hi)))
 go_loopg [3, 5] k (fun kq v3 v5 w' => ∃ (x3_1 : List Int) (x5_1 : Int) (x1001_1 : Int) (x1002_1 : Int), v5 = .int .i64 x5_1 ∧ Aside0 (spec_l2Draw.l0 kq x3_1 t834 x5_1 s0_0 x1001_1 x1002_1 = some (r1, r2, r3)) ∧ Aside0 (kq ≤ k) ∧ Aside0 (Kd.R (Kd.int .i64) 3 w' w.heap.size (fun _ => True) v3 x3_1) ∧ Aside0 (IsS64 w0 w' g s0_0 x1001_1 x1002_1) ∧ Aside0 (KeepBut w w' g none) ∧ Aside0 (Below w0.heap.size w0 w'))
 case atStart => exact ⟨(y831), (0), (t835), (t836), rs_, H', ⟨Nat.le_refl _⟩, ⟨re_ HO833.out⟩, ⟨IsS64.q_ HI0⟩, ⟨kq_ HK⟩, ⟨bi_ HB (IsS64.ge HI0.out)⟩⟩
 case round =>
  clear H'
  try clear p2
  try clear c4
  obtain ⟨x3_1, x5_1, x1001_1, x1002_1, rfl, HA, HK1, HO_3, HI0, HK, HB⟩ := hrel
  cases gk with
  | zero => exact absurd HA.out (by simp [spec_l2Draw.l0])
  | succ k1 =>
   have H := HA.out
   clear HA
   simp only [spec_l2Draw.l0] at H
   by_cases c6 : x5_1 < t834
   rotate_left
   · rw [if_neg c6] at H
     have c6b0 : decide (x5_1 < t834) = false := decide_eq_false c6
     clear c6
     simp only [Option.some.injEq, Prod.mk.injEq] at H
     obtain ⟨rfl, rfl, rfl⟩ := H
     go_wp2
     go_ret
     exact ⟨_, rf_, re_ HO_3.out, IsS64.q_ HI0, bi_ HB (IsS64.ge HI0.out), kq_ HK⟩
   rw [if_pos c6] at H
   have c6b0 : decide (x5_1 < t834) = true := decide_eq_true c6
   clear c6
   obtain ⟨⟨t837, t838, t839⟩, A7, H⟩ := ob_ H
   (try dsimp only at H)
   by_cases c8 : x3_1.length < 17592186044416
   rotate_left
   · rw [if_neg c8] at H
     cases H
   rw [if_pos c8] at H
   have LMc8 := Aside0.mk c8
   clear c8
   obtain ⟨y840, hy840⟩ : ∃ y_ : List Int, y_ = (x3_1 ++ [wrap64 (t837 - 4)]) := ⟨_, rfl⟩
   replace H : (spec_l2Draw.l0 k1 y840 t834 (wrap64 (x5_1 + 1)) s0_0 t838 t839) = some (r1, r2, r3) := by subst hy840; exact H
   have Ny840 := Aside0.mk hy840
   clear hy840
   have H' := Aside0.mk H
   clear H
   go_wp2_with (first | ((with_reducible refine gate_callee (f := 49) rfl ?_); refine gL_ (some 16) Try.func49 #[.pointer (some ⟨g, 0, none⟩), .int .i64 25] ?_; (with_reducible refine (spec_l1Below.calls g s0_0 x1001_1 x1002_1 25 t837 t838 t839 w0 _ ?side1 ?side2 A7.out).mono ?_); (case side1 => exact IsS64.q_ HI0); (case side2 => exact bi_ HB (IsS64.ge HI0.out)); rintro e w9 ⟨rfl, hi, hb, hk⟩; refine ⟨_, rfl, ?_⟩; replace HO_3 := Aside0.mk (Kd.R_mono (Kd.R_keep (IsS64.apart (show IsS64 w0 _ g s0_0 x1001_1 x1002_1 from IsS64.q_ HI0) (re_ HO_3.out) (by decide)) hk (fun _ h => h.2)) (fun _ h => h.1)); replace HK := Aside0.mk (KeepBut.trans (kq_ HK) hk (.inl rfl)); replace HB := Aside0.mk (hb); replace HI0 := Aside0.mk (hi); (try clear hb); (try clear hk); (try clear hi)) | ((with_reducible refine gate_builtin (b := .append) (xs := #[.tmp 14, .tmp 18]) rfl ?_); at_builtin; refine Kd.R_append (Kd.int .i64) w.heap.size rfl (.tmp 14) (.tmp 18) 24 3 (.int .i64 0) 8 rfl Try.underlying24 info3 rfl (by decide) (by omega) u3 x3_1 (wrap64 (t837 - 4)) [.int .i64 (wrap64 (t837 - 4))] (fun _ => True) (fun _ => False) rfl rfl ?aP (fun _ hk => hk.elim) ?aF ?aO (Below.refl _ _) ?aS ?aL ?_; (case aP => exact rfl); (case aF => exact (fun _ _ => trivial)); (case aO => exact (re_ HO_3.out)); (case aS => exact (keep_size (w := w) (g := g) (row := none) (kq_ HK))); (case aL => have := LMc8.out; omega); intro v841 w10 ho hb hg hat; rw [← Ny840.out] at ho; replace HB := Aside0.mk (below_weaken (bi_ HB (IsS64.ge HI0.out)) HL.out hb); replace HI0 := Aside0.mk (IsS64.grown (IsS64.q_ HI0) hg (IsS64.own_ne HI0.out HO_3.out (by decide))); replace HK := Aside0.mk (KeepBut.trans (kq_ HK) (KeepBut.of_grown hg g) (Kd.R_base2 HO_3.out)); have HO842 := Aside0.mk (ho); clear HO_3; clear ho hb hg hat))
   go_roundg k1
   case measure => have := HK1.out; omega
   case rel => exact ⟨(y840), (wrap64 (x5_1 + 1)), (t838), (t839), rs_, H', ⟨by have := HK1.out; omega⟩, ⟨re_ HO842.out⟩, ⟨IsS64.q_ HI0⟩, ⟨kq_ HK⟩, ⟨bi_ HB (IsS64.ge HI0.out)⟩⟩
def spec_l22List.f (k : Nat) (l0 : List Int) : Option (List Int) := (spec_l1New.f k l0).bind fun bt843 => ((spec_l1Once.f bt843.1 bt843.2.1 bt843.2.2 2).bind fun bt847 => (if bt847.1 = true then ((spec_l1Below.f bt843.1 bt847.2.1 bt847.2.2 4).bind fun bt850 => ((spec_l1Below.f bt843.1 bt850.2.1 bt850.2.2 4).bind fun bt853 => ((spec_l1Below.f bt843.1 bt853.2.1 bt853.2.2 3).bind fun bt856 => (some (([wrap64 ((wrap64 (2 + bt850.1)) * (wrap64 (2 + bt853.1))), wrap64 ((wrap64 (2 + bt850.1)) * (wrap64 ((wrap64 (2 + bt853.1)) + 1))), wrap64 ((wrap64 ((wrap64 (2 + bt850.1)) + 1)) * (wrap64 ((wrap64 (2 + bt853.1)) + bt856.1)))] : List Int)))))) else ((spec_l1Once.f bt843.1 bt847.2.1 bt847.2.2 3).bind fun bt862 => (if bt862.1 = true then ((spec_l2Draw.f k bt843.1 bt862.2.1 bt862.2.2).bind fun bt865 => (some bt865.1)) else ((some (([] : List Int) : List Int)).bind fun y870 => ((spec_l3Draw.f k bt843.1 bt862.2.1 bt862.2.2).bind fun bt873 => (if y870.length + bt873.1.length < 17592186044416 then (some (y870 ++ bt873.1)) else (none))))))))
theorem spec_l22List.calls (k : Nat) (A0 : Option Addr) (c0 : Nat) (l0 : List Int) (r : List Int) (w : World) (hr0 : Kd.C (Kd.int .u8) w A0 l0.length l0) (hc0 : l0.length ≤ c0) (h : spec_l22List.f k l0 = some r) :
 Calls Try.prog 31 #[.slice A0 l0.length c0] w fun e w' => ∃ v0_ : Value, e = .returned (v0_) ∧ Kd.R (Kd.int .i64) 3 w' w.heap.size (fun _ => True) v0_ r ∧ Below w.heap.size w w' := by
 have hfl26 : ∀ (v : Value) (W : World), Sem.run Try.prog (Instr.field 26 (.agg #[v]) 0) W = .ok v W := fun v W => by simp [Instr.field, go_sem, asAgg]
 have hu26 := Try.underlying26
 have HR0 := Aside0.mk hr0
 have HC0 := Aside0.mk hc0
 clear hr0 hc0
 have HB := Aside0.mk (Below.refl w.heap.size w)
 have H := h
 clear h
 unfold spec_l22List.f at H
 obtain ⟨⟨t843, t844, t845⟩, A2, H⟩ := ob_ H
 (try dsimp only at H)
 obtain ⟨⟨t847, t848, t849⟩, A3, H⟩ := ob_ H
 (try dsimp only at H)
 by_cases c4 : t847 = true
 · subst c4
   rw [if_pos rfl] at H
   obtain ⟨⟨t850, t851, t852⟩, A5, H⟩ := ob_ H
   (try dsimp only at H)
   obtain ⟨⟨t853, t854, t855⟩, A6, H⟩ := ob_ H
   (try dsimp only at H)
   obtain ⟨⟨t856, t857, t858⟩, A7, H⟩ := ob_ H
   (try dsimp only at H)
   obtain ⟨y859, hy859⟩ : ∃ y_ : List Int, y_ = (([wrap64 ((wrap64 (2 + t850)) * (wrap64 (2 + t853))), wrap64 ((wrap64 (2 + t850)) * (wrap64 ((wrap64 (2 + t853)) + 1))), wrap64 ((wrap64 ((wrap64 (2 + t850)) + 1)) * (wrap64 ((wrap64 (2 + t853)) + t856)))] : List Int)) := ⟨_, rfl⟩
   replace H : (some y859) = some r := by subst hy859; exact H
   have Ny859 := Aside0.mk hy859
   clear hy859
   obtain rfl := Option.some.inj H
   go_enter Try.func31, Try.ntmps31
   go_wp2_with (first | ((with_reducible refine gate_callee (f := 46) rfl ?_); refine gL_ (some 7) Try.func46 #[.slice A0 l0.length c0] ?_; (with_reducible refine (spec_l1New.calls k _ _ l0 t843 t844 t845 w _ ?side1 ?side2 ?side3 A2.out).mono ?_); (case side1 => exact bq_ HB); (case side2 => exact HR0.out); (case side3 => exact HC0.out); rintro e w8 ⟨g846, rfl, hi, hb, hb2⟩; refine ⟨_, rfl, ?_⟩; replace HB := Aside0.mk (hb); have HI846 := Aside0.mk (hi); (try clear hb); (try clear hb2); (try clear hi)) | ((with_reducible refine gate_callee (f := 50) rfl ?_); refine gL_ (some 9) Try.func50 #[.pointer (some ⟨g846, 0, none⟩), .int .i64 2] ?_; (with_reducible refine (spec_l1Once.calls g846 t843 t844 t845 2 true t848 t849 w _ ?side1 ?side2 A3.out).mono ?_); (case side1 => exact IsS64.q_ HI846); (case side2 => exact bi_ HB (IsS64.ge HI846.out)); rintro e w9 ⟨rfl, hi, hb, hk⟩; refine ⟨_, rfl, ?_⟩; replace HB := Aside0.mk (hb); replace HI846 := Aside0.mk (hi); (try clear hb); (try clear hk); (try clear hi)) | ((with_reducible refine gate_callee (f := 49) rfl ?_); refine gL_ (some 11) Try.func49 #[.pointer (some ⟨g846, 0, none⟩), .int .i64 4] ?_; (with_reducible refine (spec_l1Below.calls g846 t843 t848 t849 4 t850 t851 t852 w _ ?side1 ?side2 A5.out).mono ?_); (case side1 => exact IsS64.q_ HI846); (case side2 => exact bi_ HB (IsS64.ge HI846.out)); rintro e w10 ⟨rfl, hi, hb, hk⟩; refine ⟨_, rfl, ?_⟩; replace HB := Aside0.mk (hb); replace HI846 := Aside0.mk (hi); (try clear hb); (try clear hk); (try clear hi)) | ((with_reducible refine gate_callee (f := 49) rfl ?_); refine gL_ (some 14) Try.func49 #[.pointer (some ⟨g846, 0, none⟩), .int .i64 4] ?_; (with_reducible refine (spec_l1Below.calls g846 t843 t851 t852 4 t853 t854 t855 w _ ?side1 ?side2 A6.out).mono ?_); (case side1 => exact IsS64.q_ HI846); (case side2 => exact bi_ HB (IsS64.ge HI846.out)); rintro e w11 ⟨rfl, hi, hb, hk⟩; refine ⟨_, rfl, ?_⟩; replace HB := Aside0.mk (hb); replace HI846 := Aside0.mk (hi); (try clear hb); (try clear hk); (try clear hi)) | ((with_reducible refine gate_callee (f := 49) rfl ?_); refine gL_ (some 27) Try.func49 #[.pointer (some ⟨g846, 0, none⟩), .int .i64 3] ?_; (with_reducible refine (spec_l1Below.calls g846 t843 t854 t855 3 t856 t857 t858 w _ ?side1 ?side2 A7.out).mono ?_); (case side1 => exact IsS64.q_ HI846); (case side2 => exact bi_ HB (IsS64.ge HI846.out)); rintro e w12 ⟨rfl, hi, hb, hk⟩; refine ⟨_, rfl, ?_⟩; replace HB := Aside0.mk (hb); replace HI846 := Aside0.mk (hi); (try clear hb); (try clear hk); (try clear hi)) | ((with_reducible refine gate_dst (N := 30) rfl ?_); refine Kd.R_lit (Kd.int .i64) _ 3 ?hg (N := 30) ?hd (xs := ([wrap64 ((wrap64 (2 + t850)) * (wrap64 (2 + t853))), wrap64 ((wrap64 (2 + t850)) * (wrap64 ((wrap64 (2 + t853)) + 1))), wrap64 ((wrap64 ((wrap64 (2 + t850)) + 1)) * (wrap64 ((wrap64 (2 + t853)) + t856)))] : List Int)) (inner := [.int .i64 (wrap64 ((wrap64 (2 + t850)) * (wrap64 (2 + t853)))), .int .i64 (wrap64 ((wrap64 (2 + t850)) * (wrap64 ((wrap64 (2 + t853)) + 1)))), .int .i64 (wrap64 ((wrap64 ((wrap64 (2 + t850)) + 1)) * (wrap64 ((wrap64 (2 + t853)) + t856))))]) (ok := fun _ => True) (okp := fun _ => True) ?hr ?hp (fun _ hk => hk) trivial (Below.refl _ _) (Nat.le_refl _) (by simp) ?_; (case hd => rfl); (case hg => rfl); (case hr => first | (go_simp; done) | (go_simp; rfl)); (case hp => exact (Reps.one (show Kd.M (Kd.int .i64) _ _ _ (wrap64 ((wrap64 (2 + t850)) * (wrap64 (2 + t853)))) [.int .i64 (wrap64 ((wrap64 (2 + t850)) * (wrap64 (2 + t853))))] from rfl) (Reps.one (show Kd.M (Kd.int .i64) _ _ _ (wrap64 ((wrap64 (2 + t850)) * (wrap64 ((wrap64 (2 + t853)) + 1)))) [.int .i64 (wrap64 ((wrap64 (2 + t850)) * (wrap64 ((wrap64 (2 + t853)) + 1))))] from rfl) (Reps.one (show Kd.M (Kd.int .i64) _ _ _ (wrap64 ((wrap64 ((wrap64 (2 + t850)) + 1)) * (wrap64 ((wrap64 (2 + t853)) + t856)))) [.int .i64 (wrap64 ((wrap64 ((wrap64 (2 + t850)) + 1)) * (wrap64 ((wrap64 (2 + t853)) + t856))))] from rfl) (Reps.none _ _))))); intro v860 w13 ho14 hb hg_ hnew_; clear hg_ hnew_; (first | rw [← Ny859.out] at ho14 | (simp only [Int.reduceToNat] at ho14; rw [← Ny859.out] at ho14)); have HO861 := Aside0.mk (Kd.R_lower ho14 (below_size (bi_ HB (IsS64.ge HI846.out)))); replace HB := Aside0.mk (below_step (bi_ HB (IsS64.ge HI846.out)) hb); replace HI846 := Aside0.mk (IsS64.below (IsS64.q_ HI846) hb); clear hb ho14))
   go_ret
   exact ⟨_, rf_, re_ HO861.out, bi_ HB (IsS64.ge HI846.out)⟩
 replace c4 := Bool.eq_false_iff.mpr c4
 subst c4
 rw [if_neg (show ¬ (false = true) by decide)] at H
 obtain ⟨⟨t862, t863, t864⟩, A15, H⟩ := ob_ H
 (try dsimp only at H)
 by_cases c16 : t862 = true
 · subst c16
   rw [if_pos rfl] at H
   obtain ⟨⟨t865, t868, t869⟩, A17, H⟩ := ob_ H
   (try dsimp only at H)
   obtain rfl := Option.some.inj H
   go_enter Try.func31, Try.ntmps31
   go_wp2_with (first | ((with_reducible refine gate_callee (f := 46) rfl ?_); refine gL_ (some 7) Try.func46 #[.slice A0 l0.length c0] ?_; (with_reducible refine (spec_l1New.calls k _ _ l0 t843 t844 t845 w _ ?side1 ?side2 ?side3 A2.out).mono ?_); (case side1 => exact bq_ HB); (case side2 => exact HR0.out); (case side3 => exact HC0.out); rintro e w18 ⟨g846, rfl, hi, hb, hb2⟩; refine ⟨_, rfl, ?_⟩; replace HB := Aside0.mk (hb); have HI846 := Aside0.mk (hi); (try clear hb); (try clear hb2); (try clear hi)) | ((with_reducible refine gate_callee (f := 50) rfl ?_); refine gL_ (some 9) Try.func50 #[.pointer (some ⟨g846, 0, none⟩), .int .i64 2] ?_; (with_reducible refine (spec_l1Once.calls g846 t843 t844 t845 2 false t848 t849 w _ ?side1 ?side2 A3.out).mono ?_); (case side1 => exact IsS64.q_ HI846); (case side2 => exact bi_ HB (IsS64.ge HI846.out)); rintro e w19 ⟨rfl, hi, hb, hk⟩; refine ⟨_, rfl, ?_⟩; replace HB := Aside0.mk (hb); replace HI846 := Aside0.mk (hi); (try clear hb); (try clear hk); (try clear hi)) | ((with_reducible refine gate_callee (f := 50) rfl ?_); refine gL_ (some 32) Try.func50 #[.pointer (some ⟨g846, 0, none⟩), .int .i64 3] ?_; (with_reducible refine (spec_l1Once.calls g846 t843 t848 t849 3 true t863 t864 w _ ?side1 ?side2 A15.out).mono ?_); (case side1 => exact IsS64.q_ HI846); (case side2 => exact bi_ HB (IsS64.ge HI846.out)); rintro e w20 ⟨rfl, hi, hb, hk⟩; refine ⟨_, rfl, ?_⟩; replace HB := Aside0.mk (hb); replace HI846 := Aside0.mk (hi); (try clear hb); (try clear hk); (try clear hi)) | ((with_reducible refine gate_callee (f := 62) rfl ?_); refine gL_ (some 34) Try.func62 #[.pointer (some ⟨g846, 0, none⟩)] ?_; (with_reducible refine (spec_l2Draw.calls k g846 t843 t863 t864 t865 t868 t869 w _ ?side1 ?side2 A17.out).mono ?_); (case side1 => exact IsS64.q_ HI846); (case side2 => exact bi_ HB (IsS64.ge HI846.out)); rintro e w21 ⟨v866, rfl, ho0, hi, hb, hk⟩; refine ⟨_, rfl, ?_⟩; have HO867 := Aside0.mk (Kd.R_lower ho0 (below_size (bi_ HB (IsS64.ge HI846.out)))); replace HB := Aside0.mk (hb); replace HI846 := Aside0.mk (hi); (try clear hb); (try clear hk); (try clear hi); (try clear ho0)))
   go_ret
   exact ⟨_, rf_, re_ HO867.out, bi_ HB (IsS64.ge HI846.out)⟩
 replace c16 := Bool.eq_false_iff.mpr c16
 subst c16
 rw [if_neg (show ¬ (false = true) by decide)] at H
 obtain ⟨y870, hy870⟩ : ∃ y_ : List Int, y_ = (([] : List Int)) := ⟨_, rfl⟩
 replace H : ((spec_l3Draw.f k t843 t863 t864).bind fun bt873 => (if y870.length + bt873.1.length < 17592186044416 then (some (y870 ++ bt873.1)) else (none))) = some r := by subst hy870; exact H
 have Ny870 := Aside0.mk hy870
 clear hy870
 obtain ⟨⟨t873, t876, t877⟩, A22, H⟩ := ob_ H
 (try dsimp only at H)
 by_cases c23 : y870.length + t873.length < 17592186044416
 rotate_left
 · rw [if_neg c23] at H
   cases H
 rw [if_pos c23] at H
 have LMc23 := Aside0.mk c23
 clear c23
 obtain ⟨y878, hy878⟩ : ∃ y_ : List Int, y_ = (y870 ++ t873) := ⟨_, rfl⟩
 replace H : (some y878) = some r := by subst hy878; exact H
 have Ny878 := Aside0.mk hy878
 clear hy878
 obtain rfl := Option.some.inj H
 go_enter Try.func31, Try.ntmps31
 go_wp2_with (first | ((with_reducible refine gate_callee (f := 46) rfl ?_); refine gL_ (some 7) Try.func46 #[.slice A0 l0.length c0] ?_; (with_reducible refine (spec_l1New.calls k _ _ l0 t843 t844 t845 w _ ?side1 ?side2 ?side3 A2.out).mono ?_); (case side1 => exact bq_ HB); (case side2 => exact HR0.out); (case side3 => exact HC0.out); rintro e w24 ⟨g846, rfl, hi, hb, hb2⟩; refine ⟨_, rfl, ?_⟩; replace HB := Aside0.mk (hb); have HI846 := Aside0.mk (hi); (try clear hb); (try clear hb2); (try clear hi)) | ((with_reducible refine gate_callee (f := 50) rfl ?_); refine gL_ (some 9) Try.func50 #[.pointer (some ⟨g846, 0, none⟩), .int .i64 2] ?_; (with_reducible refine (spec_l1Once.calls g846 t843 t844 t845 2 false t848 t849 w _ ?side1 ?side2 A3.out).mono ?_); (case side1 => exact IsS64.q_ HI846); (case side2 => exact bi_ HB (IsS64.ge HI846.out)); rintro e w25 ⟨rfl, hi, hb, hk⟩; refine ⟨_, rfl, ?_⟩; replace HB := Aside0.mk (hb); replace HI846 := Aside0.mk (hi); (try clear hb); (try clear hk); (try clear hi)) | ((with_reducible refine gate_callee (f := 50) rfl ?_); refine gL_ (some 32) Try.func50 #[.pointer (some ⟨g846, 0, none⟩), .int .i64 3] ?_; (with_reducible refine (spec_l1Once.calls g846 t843 t848 t849 3 false t863 t864 w _ ?side1 ?side2 A15.out).mono ?_); (case side1 => exact IsS64.q_ HI846); (case side2 => exact bi_ HB (IsS64.ge HI846.out)); rintro e w26 ⟨rfl, hi, hb, hk⟩; refine ⟨_, rfl, ?_⟩; replace HB := Aside0.mk (hb); replace HI846 := Aside0.mk (hi); (try clear hb); (try clear hk); (try clear hi)) | ((with_reducible refine gate_dst (N := 35) rfl ?_); refine Kd.R_lit (Kd.int .i64) _ 3 ?hg (N := 35) ?hd (xs := ([] : List Int)) (inner := []) (ok := fun _ => True) (okp := fun _ => True) ?hr ?hp (fun _ hk => hk) trivial (Below.refl _ _) (Nat.le_refl _) (by simp) ?_; (case hd => rfl); (case hg => rfl); (case hr => first | (go_simp; done) | (go_simp; rfl)); (case hp => exact (Reps.none _ _)); intro v871 w27 ho28 hb hg_ hnew_; clear hg_ hnew_; (first | rw [← Ny870.out] at ho28 | (simp only [Int.reduceToNat] at ho28; rw [← Ny870.out] at ho28)); have HO872 := Aside0.mk (Kd.R_lower ho28 (below_size (bi_ HB (IsS64.ge HI846.out)))); replace HB := Aside0.mk (below_step (bi_ HB (IsS64.ge HI846.out)) hb); replace HI846 := Aside0.mk (IsS64.below (IsS64.q_ HI846) hb); clear hb ho28) | ((with_reducible refine gate_callee (f := 63) rfl ?_); refine gL_ (some 37) Try.func63 #[.pointer (some ⟨g846, 0, none⟩)] ?_; (with_reducible refine (spec_l3Draw.calls k g846 t843 t863 t864 t873 t876 t877 w _ ?side1 ?side2 A22.out).mono ?_); (case side1 => exact IsS64.q_ HI846); (case side2 => exact bi_ HB (IsS64.ge HI846.out)); rintro e w29 ⟨v874, rfl, ho0, hi, hb, hk⟩; refine ⟨_, rfl, ?_⟩; have HO875 := Aside0.mk (Kd.R_lower (Kd.R_new' ho0 (Kd.R_lt (re_ HO872.out))) (below_size (bi_ HB (IsS64.ge HI846.out)))); replace HO872 := Aside0.mk (Kd.R_mono (Kd.R_told (Kd.R_oldK (IsS64.apart (show IsS64 w _ g846 t843 t863 t864 from IsS64.q_ HI846) (re_ HO872.out) (by decide)) hk) (Kd.R_base ho0)) (fun _ h_ => h_.1)); replace HB := Aside0.mk (hb); replace HI846 := Aside0.mk (hi); (try clear hb); (try clear hk); (try clear hi); (try clear ho0); obtain ⟨Ao31, co31, eo31⟩ := Kd.R_slice HO875.out; subst eo31) | ((with_reducible refine gate_builtin (b := .append) (xs := #[.tmp 35, .tmp 38]) rfl ?_); at_builtin; refine Kd.R_append_rows (Kd.int .i64) (w0 := w) w.heap.size rfl (.tmp 35) (.tmp 38) 24 3 (.int .i64 0) 8 rfl Try.underlying24 info3 rfl (by decide) (by omega) v871 y870 t873 _ _ _ (fun k_ => some k_ ≠ (.slice Ao31 t873.length co31 : Value).ownBlock) (fun _ => False) rfl rfl ?aO ?aR (fun _ _ h => h) (fun _ h => h.elim) ?aF ?aB ?aS ?aL ?_; (case aR => exact ce_ ((Kd.R_reads' HO875.out).2.2)); (case aB => exact (bi_ HB (IsS64.ge HI846.out))); (case aF => exact (fun k_ hk => Kd.fresh' (Kd.R_lt (re_ HO875.out)) k_ hk)); (case aO => exact (by (with_reducible repeat (first | apply Kd.R_alloc | apply Kd.R_drewN | apply Kd.R_drew)); exact Kd.R_mono HO872.out (fun _ hk => hk.2))); (case aS => exact (below_size (bi_ HB (IsS64.ge HI846.out)))); (case aL => have := LMc23.out; omega); intro v879 w30 ho hb hg hat; rw [← Ny878.out] at ho; replace HI846 := Aside0.mk (IsS64.grown (IsS64.q_ HI846) hg (IsS64.own_ne HI846.out HO872.out (by decide))); replace HO875 := Aside0.mk (Kd.R_after (ok := (fun _ => True)) (re_ HO875.out) hg hat); replace HB := Aside0.mk (hb); have HO880 := Aside0.mk (ho); clear HO872; clear ho hb hg hat))
 go_ret
 exact ⟨_, rf_, by (with_reducible repeat (first | apply Kd.R_alloc | apply Kd.R_drewN | apply Kd.R_drew)); exact Kd.R_mono HO880.out (fun _ hk => trivial), bi_ HB (IsS64.ge HI846.out)⟩
def spec_DrawIsTelescopic.f (k : Nat) (l0 : List Int) : Option (List Int) := (spec_l22List.f k l0).bind fun t881 => (some t881)
theorem spec_DrawIsTelescopic.calls (k : Nat) (A0 : Option Addr) (c0 : Nat) (l0 : List Int) (r : List Int) (w : World) (hr0 : Kd.C (Kd.int .u8) w A0 l0.length l0) (hc0 : l0.length ≤ c0) (h : spec_DrawIsTelescopic.f k l0 = some r) :
 Calls Try.prog 9 #[.slice A0 l0.length c0] w fun e w' => ∃ v0_ : Value, e = .returned (v0_) ∧ Kd.R (Kd.int .i64) 3 w' w.heap.size (fun _ => True) v0_ r ∧ Below w.heap.size w w' := by
 have HR0 := Aside0.mk hr0
 have HC0 := Aside0.mk hc0
 clear hr0 hc0
 have HB := Aside0.mk (Below.refl w.heap.size w)
 have H := h
 clear h
 unfold spec_DrawIsTelescopic.f at H
 obtain ⟨t881, A2, H⟩ := ob_ H
 obtain rfl := Option.some.inj H
 go_enter Try.func9, Try.ntmps9
 go_wp2_with (first | ((with_reducible refine gate_callee (f := 31) rfl ?_); refine gL_ (some 4) Try.func31 #[.slice A0 l0.length c0] ?_; (with_reducible refine (spec_l22List.calls k _ _ l0 t881 _ ?side1 ?side2 A2.out).mono ?_); (case side1 => exact ce_ (HR0.out)); (case side2 => exact HC0.out); rintro e w3 ⟨v882, rfl, ho0, hb⟩; refine ⟨_, rfl, ?_⟩; have HO883 := Aside0.mk (Kd.R_lower ho0 (below_size (bl_ HB.out))); replace HB := bo_ HB hb; (try clear hb); (try clear ho0)))
 go_ret
 exact ⟨_, rf_, re_ HO883.out, bl_ HB.out⟩
def impl_shared.l0 : Nat → List Int → List Int → Int → Int → Option (List Int)
 | 0, _, _, _, _ => none
 | k + 1, x0, x3, x7, x8 => if x8 < x7 then (if 0 ≤ (wrap64 (x8 + 1)) then (if (wrap64 (x8 + 1)) ≤ (x0.length : Int) then ((impl_GcdOfList.f k (x0.take ((wrap64 (x8 + 1)) : Int).toNat)).bind fun t888 => (if x3.length < 17592186044416 then (impl_shared.l0 k x0 (x3 ++ [t888]) x7 (wrap64 (x8 + 1))) else (none))) else (none)) else (none)) else (some x3)
def impl_shared.f (k : Nat) (l0 : List Int) : Option (List Int) := impl_shared.l0 k l0 (([] : List Int)) (l0.length : Int) 0
theorem impl_shared.calls (k : Nat) (A0 : Option Addr) (c0 : Nat) (l0 : List Int) (r : List Int) (w : World) (hr0 : Kd.C (Kd.int .i64) w A0 l0.length l0) (hc0 : l0.length ≤ c0) (h : impl_shared.f k l0 = some r) :
 Calls Try.prog 34 #[.slice A0 l0.length c0] w fun e w' => ∃ v0_ : Value, e = .returned (v0_) ∧ Kd.R (Kd.int .i64) 3 w' w.heap.size (fun _ => True) v0_ r ∧ Below w.heap.size w w' := by
 have HR0 := Aside0.mk hr0
 have HC0 := Aside0.mk hc0
 clear hr0 hc0
 have HB := Aside0.mk (Below.refl w.heap.size w)
 have H := h
 clear h
 unfold impl_shared.f at H
 obtain ⟨y884, hy884⟩ : ∃ y_ : List Int, y_ = (([] : List Int)) := ⟨_, rfl⟩
 replace H : (impl_shared.l0 k l0 y884 (l0.length : Int) 0) = some r := by subst hy884; exact H
 have Ny884 := Aside0.mk hy884
 clear hy884
 have H' := Aside0.mk H
 clear H
 go_enter Try.func34, Try.ntmps34
 go_wp2_with (first | ((with_reducible refine gate_dst (N := 5) rfl ?_); refine Kd.R_lit (Kd.int .i64) _ 3 ?hg (N := 5) ?hd (xs := ([] : List Int)) (inner := []) (ok := fun _ => True) (okp := fun _ => True) ?hr ?hp (fun _ hk => hk) trivial (Below.refl _ _) (Nat.le_refl _) (by simp) ?_; (case hd => rfl); (case hg => rfl); (case hr => first | (go_simp; done) | (go_simp; rfl)); (case hp => exact (Reps.none _ _)); intro v885 w2 ho3 hb hg_ hnew_; clear hg_ hnew_; (first | rw [← Ny884.out] at ho3 | (simp only [Int.reduceToNat] at ho3; rw [← Ny884.out] at ho3)); have HO886 := Aside0.mk (Kd.R_lower ho3 (below_size (bl_ HB.out))); replace HB := bo_ HB hb; clear hb ho3))
 go_loopg [3, 8] k (fun kq v3 v8 w' => ∃ (x3_1 : List Int) (x8_1 : Int), v8 = .int .i64 x8_1 ∧ Aside0 (impl_shared.l0 kq l0 x3_1 (l0.length : Int) x8_1 = some r) ∧ Aside0 (kq ≤ k) ∧ Aside0 (Kd.R (Kd.int .i64) 3 w' w.heap.size (fun _ => True) v3 x3_1) ∧ Aside0 (Below w.heap.size w w'))
 case atStart => exact ⟨(y884), (0), rs_, H', ⟨Nat.le_refl _⟩, ⟨re_ HO886.out⟩, ⟨bl_ HB.out⟩⟩
 case round =>
  clear H'
  try clear p2
  try clear c3
  obtain ⟨x3_1, x8_1, rfl, HA, HK1, HO_3, HB⟩ := hrel
  cases gk with
  | zero => exact absurd HA.out (by simp [impl_shared.l0])
  | succ k1 =>
   have H := HA.out
   clear HA
   simp only [impl_shared.l0] at H
   by_cases c4 : x8_1 < (l0.length : Int)
   rotate_left
   · rw [if_neg c4] at H
     have c4b0 : decide (x8_1 < (l0.length : Int)) = false := decide_eq_false c4
     clear c4
     obtain rfl := Option.some.inj H
     go_wp2
     go_ret
     exact ⟨_, rf_, re_ HO_3.out, bl_ HB.out⟩
   rw [if_pos c4] at H
   have c4b0 : decide (x8_1 < (l0.length : Int)) = true := decide_eq_true c4
   clear c4
   obtain ⟨ji5, hji5⟩ : ∃ j_ : Int, (wrap64 (x8_1 + 1)) = j_ := ⟨_, rfl⟩
   replace H : (if 0 ≤ (ji5) then (if (ji5) ≤ (l0.length : Int) then ((impl_GcdOfList.f k1 (l0.take ((ji5) : Int).toNat)).bind fun t888 => (if x3_1.length < 17592186044416 then (impl_shared.l0 k1 l0 (x3_1 ++ [t888]) (l0.length : Int) ji5) else (none))) else (none)) else (none)) = some r := by first | (rw [hji5] at H; exact H) | (simp only [hji5] at H ⊢; exact H)
   have hji5w : (IntKind.i64.wrap (x8_1 + 1)) = ji5 := (i64_w _).trans hji5
   by_cases c6 : 0 ≤ (ji5)
   rotate_left
   · rw [if_neg c6] at H
     cases H
   rw [if_pos c6] at H
   have c6b0 := eq_true c6
   have c6b1 : decide (0 ≤ (ji5)) = true := decide_eq_true c6
   clear c6
   by_cases c7 : (ji5) ≤ (l0.length : Int)
   rotate_left
   · rw [if_neg c7] at H
     cases H
   rw [if_pos c7] at H
   have c7b0 := eq_true c7
   have c7b1 : decide ((ji5) ≤ (l0.length : Int)) = true := decide_eq_true c7
   clear c7
   obtain ⟨t888, A8, H⟩ := ob_ H
   by_cases c9 : x3_1.length < 17592186044416
   rotate_left
   · rw [if_neg c9] at H
     cases H
   rw [if_pos c9] at H
   have LMc9 := Aside0.mk c9
   clear c9
   obtain ⟨y889, hy889⟩ : ∃ y_ : List Int, y_ = (x3_1 ++ [t888]) := ⟨_, rfl⟩
   replace H : (impl_shared.l0 k1 l0 y889 (l0.length : Int) ji5) = some r := by subst hy889; exact H
   have Ny889 := Aside0.mk hy889
   clear hy889
   have H' := Aside0.mk H
   clear H
   obtain ⟨i010, hi010, _, hsz10, _⟩ := info_parts info3
   obtain ⟨hcut10, hA10, hC10⟩ := print_take_of (P := Try.prog) (Value.int .i64) 0 24 3 .i64 Try.underlying24 hi010 hsz10 A0 c0 l0 (ji5) (od_) (od_) HC0.out
   have HR887 := Aside0.mk (Kd.C_of_reads (h1 := fun _ => rfl) (hA10 _ (Kd.reads_of_C HR0.out)))
   have HC887 := Aside0.mk hC10
   clear hA10 hC10 hi010 hsz10
   go_wp2_with (first | ((with_reducible refine gate_callee (f := 33) rfl ?_); refine goesL_ (some 16) rfl rfl Try.func33 (by kernel_rfl) rfl #[.slice A0 (l0.take ((ji5) : Int).toNat).length c0] rfl (by (try simp only [List.map_toArray, List.map_cons, List.map_nil]); first | done | (rw [show (l0.take ((ji5) : Int).toNat).length = (ji5).toNat from (by rw [List.length_take]; have h_ : ((ji5) : Int) ≤ (l0.length : Int) := od_; omega)] <;> rfl) | (simp only [hji5]; rfl) | rfl | (simp only [List.length_drop, List.length_take]; rfl)) ?_; (with_reducible refine (impl_GcdOfList.calls k1 _ _ (l0.take ((ji5) : Int).toNat) t888 _ ?side1 ?side2 A8.out).mono ?_); (case side1 => exact ch_ HR887 HB); (case side2 => exact HC887.out); rintro e w11 ⟨rfl, hb⟩; refine ⟨_, rfl, ?_⟩; replace HO_3 := Aside0.mk (Kd.R_below (re_ HO_3.out) hb); replace HB := bo_ HB hb; (try clear hb)) | ((with_reducible refine gate_builtin (b := .append) (xs := #[.tmp 11, .tmp 17]) rfl ?_); at_builtin; refine Kd.R_append (Kd.int .i64) (w0 := w) w.heap.size rfl (.tmp 11) (.tmp 17) 24 3 (.int .i64 0) 8 rfl Try.underlying24 info3 rfl (by decide) (by omega) u3 x3_1 t888 [.int .i64 t888] (fun _ => True) (fun _ => False) rfl rfl ?aP (fun _ hk => hk.elim) ?aF ?aO ?aB ?aS ?aL ?_; (case aP => exact rfl); (case aB => exact (bl_ HB.out)); (case aF => exact (fun _ _ => trivial)); (case aO => exact (re_ HO_3.out)); (case aS => exact (below_size (bl_ HB.out))); (case aL => have := LMc9.out; omega); intro v890 w12 ho hb hg hat; rw [← Ny889.out] at ho; replace HB := Aside0.mk (hb); have HO891 := Aside0.mk (ho); clear HO_3; clear ho hb hg hat))
   go_roundg k1
   case measure => have := HK1.out; omega
   case rel => exact ⟨(y889), (ji5), (by first | rfl | (simp; done) | (simp only [← hji5] <;> (first | rfl | simp)) | (simp [*]; done)), H', ⟨by have := HK1.out; omega⟩, ⟨re_ HO891.out⟩, ⟨bl_ HB.out⟩⟩
mutual
def impl_IsTelescopic.j0 : Nat → List Int → Bool → Option (Bool)
 | 0, _, _ => none
 | k + 1, x0, x15 => if x15 = true then (some false) else ((impl_shared.f k x0).bind fun t894 => (impl_IsTelescopic.l0 k x0 t894 1))
def impl_IsTelescopic.l0 : Nat → List Int → List Int → Int → Option (Bool)
 | 0, _, _, _ => none
 | k + 1, x0, x3, x4 => if x4 < (x0.length : Int) then (if 0 ≤ x4 then (if x4 ≤ (x0.length : Int) then (impl_IsTelescopic.l1 k x0 x3 x4 (([] : List Int)) (x0.take (x4 : Int).toNat) ((x0.take (x4 : Int).toNat).length : Int) 0) else (none)) else (none)) else (some true)
def impl_IsTelescopic.l1 : Nat → List Int → List Int → Int → List Int → List Int → Int → Int → Option (Bool)
 | 0, _, _, _, _, _, _, _ => none
 | k + 1, x0, x3, x4, x5, x27, x28, x29 => if x29 < x28 then (if 0 ≤ x29 then (if x29 < (x27.length : Int) then (if 0 ≤ (wrap64 (x4 - 1)) then (if (wrap64 (x4 - 1)) < (x3.length : Int) then (if (rd x3 (wrap64 (x4 - 1))) = 0 then (none) else (if x5.length < 17592186044416 then (impl_IsTelescopic.l1 k x0 x3 x4 (x5 ++ [wrap64 (Int.tdiv (rd x27 x29) (rd x3 (wrap64 (x4 - 1))))]) x27 x28 (wrap64 (x29 + 1))) else (none))) else (none)) else (none)) else (none)) else (none)) else (if 0 ≤ x4 then (if x4 < (x0.length : Int) then (if x4 < (x3.length : Int) then (if (rd x3 x4) = 0 then (none) else ((impl_Generates.f k x5 (wrap64 (Int.tdiv (rd x0 x4) (rd x3 x4)))).bind fun t908 => (if t908 = true then (impl_IsTelescopic.l0 k x0 x3 (wrap64 (x4 + 1))) else (some false)))) else (none)) else (none)) else (none))
end
def impl_IsTelescopic.f (k : Nat) (l0 : List Int) : Option (Bool) := (impl_usable.f k l0).bind fun t892 => (if t892 = true then ((impl_GcdOfList.f k l0).bind fun t893 => (impl_IsTelescopic.j0 k l0 (t893 != 1))) else (impl_IsTelescopic.j0 k l0 true))
def impl_IsTelescopic.T13 : Bool × List (List Nat × List Nat) := (true, [([], []), ([], []), ([], []), ([1, 2], [1, 2]), ([3], [3]), ([], []), ([], []), ([5, 6], [5, 6]), ([7], [7]), ([4, 8], [4, 8]), ([0, 9], [0, 9]), ([10], [10])])
def impl_IsTelescopic.B13 : List Nat := [0, 0, 0, 6, 14, 0, 0, 96, 224, 510, 1023, 2047]
theorem impl_IsTelescopic.tab13 : rtab .any (opsOf Try.f10 13) = impl_IsTelescopic.T13 := by kernel_rfl
theorem impl_IsTelescopic.bits13 : waitsOk impl_IsTelescopic.T13.2 impl_IsTelescopic.B13 = true := by kernel_rfl
theorem impl_IsTelescopic.calls (k : Nat) (A0 : Option Addr) (c0 : Nat) (l0 : List Int) (r : Bool) (w : World) (hr0 : Kd.C (Kd.int .i64) w A0 l0.length l0) (hc0 : l0.length ≤ c0) (h : impl_IsTelescopic.f k l0 = some r) :
 Calls Try.prog 10 #[.slice A0 l0.length c0] w fun e w' => e = .returned (.bool r) ∧ Below w.heap.size w w' := by
 have HR0 := Aside0.mk hr0
 have HC0 := Aside0.mk hc0
 clear hr0 hc0
 have HB := Aside0.mk (Below.refl w.heap.size w)
 have H := h
 clear h
 unfold impl_IsTelescopic.f at H
 have HC2 := Aside0.mk H
 clear H
 go_enter Try.func10, Try.ntmps10
 go_upto_region 1 with (fail)
 go_cut [15] (fun v15 wc => ∃ (kq : Nat) (x15_1 : Bool), v15 = .bool x15_1 ∧ Aside0 (impl_IsTelescopic.j0 kq l0 x15_1 = some r) ∧ Aside0 (kq ≤ k) ∧ Aside0 (Below w.heap.size w wc))
 case first =>
  have H := HC2.out
  clear HC2
  obtain ⟨t892, A3, H⟩ := ob_ H
  by_cases c4 : t892 = true
  rotate_left
  · replace c4 := Bool.eq_false_iff.mpr c4
    subst c4
    rw [if_neg (show ¬ (false = true) by decide)] at H
    have H' := Aside0.mk H
    clear H
    go_wp2_with (first | ((with_reducible refine gate_callee (f := 32) rfl ?_); refine gL_ (some 9) Try.func32 #[.slice A0 l0.length c0] ?_; (with_reducible refine (impl_usable.calls k _ _ l0 false _ ?side1 ?side2 A3.out).mono ?_); (case side1 => exact ch_ HR0 HB); (case side2 => exact HC0.out); rintro e w' ⟨rfl, ⟨nd, rfl⟩⟩; refine ⟨_, rfl, ?_⟩))
    go_meet
    case rel => exact ⟨_, (true), rs_, H', ⟨by first | omega | exact Nat.le_refl _⟩, ⟨bl_ HB.out⟩⟩
  subst c4
  rw [if_pos rfl] at H
  obtain ⟨t893, A5, H⟩ := ob_ H
  have H' := Aside0.mk H
  clear H
  go_wp2_with (first | ((with_reducible refine gate_callee (f := 32) rfl ?_); refine gL_ (some 9) Try.func32 #[.slice A0 l0.length c0] ?_; (with_reducible refine (impl_usable.calls k _ _ l0 true _ ?side1 ?side2 A3.out).mono ?_); (case side1 => exact ch_ HR0 HB); (case side2 => exact HC0.out); rintro e w' ⟨rfl, ⟨nd, rfl⟩⟩; refine ⟨_, rfl, ?_⟩) | (go_at_call 33; (with_reducible refine (impl_GcdOfList.calls k _ _ l0 t893 _ ?side1 ?side2 A5.out).mono ?_); (case side1 => exact Kd.C_below HR0.out (bl_ HB.out)); (case side2 => exact HC0.out); rintro e w6 ⟨rfl, hb⟩; replace HB := bo_ HB hb; (try clear hb)))
  go_meet
  case rel => exact ⟨_, ((t893 != 1)), rs_, H', ⟨by first | omega | exact Nat.le_refl _⟩, ⟨bl_ HB.out⟩⟩
 case rest =>
  clear HC2
  try clear c1
  try clear p2
  try clear c3
  try clear c4
  obtain ⟨kq, x15_1, rfl, HA, HJ1, HB⟩ := hcut
  cases kq with
  | zero => exact absurd HA.out (by simp [impl_IsTelescopic.j0])
  | succ kj1 =>
   have H := HA.out
   clear HA
   simp only [impl_IsTelescopic.j0] at H
   by_cases c7 : x15_1 = true
   · subst c7
     rw [if_pos rfl] at H
     obtain rfl := Option.some.inj H
     go_wp2
     go_ret
     exact ⟨rf_, bl_ HB.out⟩
   replace c7 := Bool.eq_false_iff.mpr c7
   subst c7
   rw [if_neg (show ¬ (false = true) by decide)] at H
   obtain ⟨t894, A8, H⟩ := ob_ H
   have H' := Aside0.mk H
   clear H
   go_wp2_with (first | ((with_reducible refine gate_callee (f := 34) rfl ?_); refine gL_ (some 17) Try.func34 #[.slice A0 l0.length c0] ?_; (with_reducible refine (impl_shared.calls kj1 _ _ l0 t894 _ ?side1 ?side2 A8.out).mono ?_); (case side1 => exact ch_ HR0 HB); (case side2 => exact HC0.out); rintro e w9 ⟨v895, rfl, ho0, hb⟩; refine ⟨_, rfl, ?_⟩; have HO896 := Aside0.mk (Kd.R_lower ho0 (below_size (bl_ HB.out))); replace HB := bo_ HB hb; (try clear hb); (try clear ho0)))
   go_loopg [4] kj1 (fun kq v4 w' => ∃ (x4_2 : Int), v4 = .int .i64 x4_2 ∧ Aside0 (impl_IsTelescopic.l0 kq l0 t894 x4_2 = some r) ∧ Aside0 (kq ≤ kj1) ∧ Aside0 (Kd.R (Kd.int .i64) 3 w' w.heap.size (fun _ => True) v895 t894) ∧ Aside0 (Below w.heap.size w w'))
   case atStart => exact ⟨(1), rs_, H', ⟨Nat.le_refl _⟩, ⟨re_ HO896.out⟩, ⟨bl_ HB.out⟩⟩
   case round =>
    clear H'
    try clear c1
    try clear p2
    try clear c3
    try clear c4
    try clear c7
    try clear p2
    obtain ⟨x4_2, rfl, HA, HK2, HO_3, HB⟩ := hrel
    cases gk with
    | zero => exact absurd HA.out (by simp [impl_IsTelescopic.l0])
    | succ k2 =>
     have H := HA.out
     clear HA
     simp only [impl_IsTelescopic.l0] at H
     by_cases c10 : x4_2 < (l0.length : Int)
     rotate_left
     · rw [if_neg c10] at H
       have c10b0 : decide (x4_2 < (l0.length : Int)) = false := decide_eq_false c10
       clear c10
       obtain rfl := Option.some.inj H
       go_wp2
       go_ret
       exact ⟨rf_, bl_ HB.out⟩
     rw [if_pos c10] at H
     have c10b0 : decide (x4_2 < (l0.length : Int)) = true := decide_eq_true c10
     clear c10
     obtain ⟨y897, hy897⟩ : ∃ y_ : List Int, y_ = (([] : List Int)) := ⟨_, rfl⟩
     replace H : (if 0 ≤ x4_2 then (if x4_2 ≤ (l0.length : Int) then (impl_IsTelescopic.l1 k2 l0 t894 x4_2 y897 (l0.take (x4_2 : Int).toNat) ((l0.take (x4_2 : Int).toNat).length : Int) 0) else (none)) else (none)) = some r := by subst hy897; exact H
     have Ny897 := Aside0.mk hy897
     clear hy897
     by_cases c11 : 0 ≤ x4_2
     rotate_left
     · rw [if_neg c11] at H
       cases H
     rw [if_pos c11] at H
     have c11b0 := eq_true c11
     have c11b1 : decide (0 ≤ x4_2) = true := decide_eq_true c11
     clear c11
     by_cases c12 : x4_2 ≤ (l0.length : Int)
     rotate_left
     · rw [if_neg c12] at H
       cases H
     rw [if_pos c12] at H
     have c12b0 := eq_true c12
     have c12b1 : decide (x4_2 ≤ (l0.length : Int)) = true := decide_eq_true c12
     have LQx4_2 := Aside0.mk c12
     clear c12
     have H' := Aside0.mk H
     clear H
     go_wp2_with (first | ((with_reducible refine gate_dst (N := 24) rfl ?_); refine Kd.R_lit (Kd.int .i64) _ 3 ?hg (N := 24) ?hd (xs := ([] : List Int)) (inner := []) (ok := fun _ => True) (okp := fun _ => True) ?hr ?hp (fun _ hk => hk) trivial (Below.refl _ _) (Nat.le_refl _) (by simp) ?_; (case hd => rfl); (case hg => rfl); (case hr => first | (go_simp; done) | (go_simp; rfl)); (case hp => exact (Reps.none _ _)); intro v898 w13 ho14 hb hg_ hnew_; clear hg_ hnew_; (first | rw [← Ny897.out] at ho14 | (simp only [Int.reduceToNat] at ho14; rw [← Ny897.out] at ho14)); have HO899 := Aside0.mk (Kd.R_lower (Kd.R_new' ho14 (Kd.R_lt (re_ HO_3.out))) (below_size (bl_ HB.out))); replace HO_3 := Aside0.mk (Kd.R_elder' (re_ HO_3.out) (Kd.R_base ho14) hb); replace HB := bo_ HB hb; clear hb ho14; obtain ⟨i015, hi015, _, hsz15, _⟩ := info_parts info3; obtain ⟨hcut15, hA15, hC15⟩ := print_take_of (P := Try.prog) (Value.int .i64) 0 24 3 .i64 Try.underlying24 hi015 hsz15 A0 c0 l0 x4_2 (od_) (od_) HC0.out; have HR900 := Aside0.mk (Kd.C_of_reads (h1 := fun _ => rfl) (hA15 _ (Kd.reads_of_C HR0.out))); have HC900 := Aside0.mk hC15; clear hA15 hC15 hi015 hsz15))
     go_loopg [5, 29] k2 (fun kq v5 v29 w' => ∃ (x5_3 : List Int) (x29_3 : Int), v29 = .int .i64 x29_3 ∧ Aside0 (impl_IsTelescopic.l1 kq l0 t894 x4_2 x5_3 (l0.take (x4_2 : Int).toNat) ((l0.take (x4_2 : Int).toNat).length : Int) x29_3 = some r) ∧ Aside0 (kq ≤ k2) ∧ Aside0 (Kd.R (Kd.int .i64) 3 w' w.heap.size (fun k_ => some k_ ≠ (v5 : Value).ownBlock) v895 t894) ∧ Aside0 (Kd.R (Kd.int .i64) 3 w' w.heap.size (fun k_ => some k_ ≠ (v895 : Value).ownBlock) v5 x5_3) ∧ Aside0 (Below w.heap.size w w'))
     case atStart => exact ⟨(y897), (0), rs_, H', ⟨Nat.le_refl _⟩, ⟨by (with_reducible repeat (first | apply Kd.R_alloc | apply Kd.R_drewN | apply Kd.R_drew)); exact Kd.R_mono HO_3.out (fun _ hk => hk.2)⟩, ⟨by (with_reducible repeat (first | apply Kd.R_alloc | apply Kd.R_drewN | apply Kd.R_drew)); exact Kd.R_mono HO899.out (fun _ hk => hk.2)⟩, ⟨bl_ HB.out⟩⟩
     case round =>
      clear H'
      try clear c1
      try clear p2
      try clear c3
      try clear c4
      try clear c7
      try clear c10
      try clear c10b0
      try clear c11
      try clear c11b0
      try clear c11b1
      try clear c12
      try clear c12b0
      try clear c12b1
      try clear p2
      obtain ⟨x5_3, x29_3, rfl, HA, HK3, HO_3, HO_5, HB⟩ := hrel
      cases gk with
      | zero => exact absurd HA.out (by simp [impl_IsTelescopic.l1])
      | succ k3 =>
       have H := HA.out
       clear HA
       simp only [impl_IsTelescopic.l1] at H
       by_cases c16 : x29_3 < ((l0.take (x4_2 : Int).toNat).length : Int)
       · rw [if_pos c16] at H
         have c16b0 : decide (x29_3 < ((l0.take (x4_2 : Int).toNat).length : Int)) = true := decide_eq_true c16
         (try (have c16q : decide (x29_3 < max x4_2 0) = true := by have u_ := LQx4_2.out; (first | rw [decide_eq_true_eq] | rw [decide_eq_false_iff_not]); (first | have l_ := of_decide_eq_true c16b0 | have l_ := of_decide_eq_false c16b0); rw [List.length_take] at l_; omega))
         (try (have c16r : (x29_3 < max x4_2 0) = True := eq_true (of_decide_eq_true c16q); have c16s : (max x4_2 0 ≤ x29_3) = False := eq_false (by have := of_eq_true c16r; omega)))
         clear c16
         by_cases c17 : 0 ≤ x29_3
         rotate_left
         · rw [if_neg c17] at H
           cases H
         rw [if_pos c17] at H
         have c17b0 : decide (0 ≤ x29_3) = true := decide_eq_true c17
         clear c17
         by_cases c18 : x29_3 < ((l0.take (x4_2 : Int).toNat).length : Int)
         rotate_left
         · rw [if_neg c18] at H
           cases H
         rw [if_pos c18] at H
         have c18b0 : decide (x29_3 < ((l0.take (x4_2 : Int).toNat).length : Int)) = true := decide_eq_true c18
         (try (have c18q : decide (x29_3 < max x4_2 0) = true := by have u_ := LQx4_2.out; (first | rw [decide_eq_true_eq] | rw [decide_eq_false_iff_not]); (first | have l_ := of_decide_eq_true c18b0 | have l_ := of_decide_eq_false c18b0); rw [List.length_take] at l_; omega))
         (try (have c18r : (x29_3 < max x4_2 0) = True := eq_true (of_decide_eq_true c18q); have c18s : (max x4_2 0 ≤ x29_3) = False := eq_false (by have := of_eq_true c18r; omega)))
         clear c18
         obtain ⟨ji19, hji19⟩ : ∃ j_ : Int, (wrap64 (x4_2 - 1)) = j_ := ⟨_, rfl⟩
         replace H : (if 0 ≤ (ji19) then (if (ji19) < (t894.length : Int) then (if (rd t894 (ji19)) = 0 then (none) else (if x5_3.length < 17592186044416 then (impl_IsTelescopic.l1 k3 l0 t894 x4_2 (x5_3 ++ [wrap64 (Int.tdiv (rd (l0.take (x4_2 : Int).toNat) x29_3) (rd t894 (ji19)))]) (l0.take (x4_2 : Int).toNat) ((l0.take (x4_2 : Int).toNat).length : Int) (wrap64 (x29_3 + 1))) else (none))) else (none)) else (none)) = some r := by first | (rw [hji19] at H; exact H) | (simp only [hji19] at H ⊢; exact H)
         have hji19w : (IntKind.i64.wrap (x4_2 - 1)) = ji19 := (i64_w _).trans hji19
         by_cases c20 : 0 ≤ (ji19)
         rotate_left
         · rw [if_neg c20] at H
           cases H
         rw [if_pos c20] at H
         have c20b0 : decide (0 ≤ (ji19)) = true := decide_eq_true c20
         clear c20
         by_cases c21 : (ji19) < (t894.length : Int)
         rotate_left
         · rw [if_neg c21] at H
           cases H
         rw [if_pos c21] at H
         have c21b0 : decide ((ji19) < (t894.length : Int)) = true := decide_eq_true c21
         clear c21
         by_cases c22 : (rd t894 (ji19)) = 0
         · rw [if_pos c22] at H
           cases H
         rw [if_neg c22] at H
         have c22b0 : ((rd t894 (ji19)) == 0) = false := beq_eq_false_iff_ne.mpr c22
         have c22b1 : ((rd t894 (ji19)) != 0) = true := bne_iff_ne.mpr c22
         by_cases c23 : x5_3.length < 17592186044416
         rotate_left
         · rw [if_neg c23] at H
           cases H
         rw [if_pos c23] at H
         have LMc23 := Aside0.mk c23
         clear c23
         obtain ⟨y903, hy903⟩ : ∃ y_ : List Int, y_ = (x5_3 ++ [wrap64 (Int.tdiv (rd (l0.take (x4_2 : Int).toNat) x29_3) (rd t894 (ji19)))]) := ⟨_, rfl⟩
         replace H : (impl_IsTelescopic.l1 k3 l0 t894 x4_2 y903 (l0.take (x4_2 : Int).toNat) ((l0.take (x4_2 : Int).toNat).length : Int) (wrap64 (x29_3 + 1))) = some r := by subst hy903; exact H
         have Ny903 := Aside0.mk hy903
         clear hy903
         have H' := Aside0.mk H
         clear H
         have p901 : 0 ≤ (x29_3 : Int) := od_
         have q901 : x29_3 < ((l0.take (x4_2 : Int).toNat).length : Int) := od_
         obtain ⟨ad901, e901, hx901_0⟩ := Kd.at_int HR900.out x29_3 p901 q901
         cases e901
         (try replace hx901_0 := (HB.out.cell (World.block_lt_of_cell? w _ hx901_0)).trans hx901_0)
         replace p901 := eq_true p901
         replace q901 := eq_true q901
         obtain ⟨Ao24, co24, eo24⟩ := Kd.R_slice HO_3.out
         subst eo24
         have p902 : 0 ≤ ((ji19) : Int) := od_
         have q902 : (ji19) < (t894.length : Int) := od_
         obtain ⟨ad902, e902, hx902_0⟩ := Kd.at_int (Kd.R_reads' HO_3.out).2.2 (ji19) p902 q902
         cases e902
         replace p902 := eq_true p902
         replace q902 := eq_true q902
         go_wp2_with (first | ((with_reducible refine gate_builtin (b := .append) (xs := #[.tmp 33, .tmp 41]) rfl ?_); at_builtin; refine Kd.R_append (Kd.int .i64) (w0 := w) w.heap.size rfl (.tmp 33) (.tmp 41) 24 3 (.int .i64 0) 8 rfl Try.underlying24 info3 rfl (by decide) (by omega) u5 x5_3 (wrap64 (Int.tdiv (rd (l0.take (x4_2 : Int).toNat) x29_3) (rd t894 (ji19)))) [.int .i64 (wrap64 (Int.tdiv (rd (l0.take (x4_2 : Int).toNat) x29_3) (rd t894 (ji19))))] (fun k_ => some k_ ≠ (.slice (some ad902) t894.length co24 : Value).ownBlock) (fun _ => False) rfl rfl ?aP (fun _ hk => hk.elim) ?aF ?aO ?aB ?aS ?aL ?_; (case aP => exact rfl); (case aB => exact (bl_ HB.out)); (case aF => exact (fun k_ hk => Kd.fresh' (Kd.R_lt (re_ HO_3.out)) k_ hk)); (case aO => exact (re_ HO_5.out)); (case aS => exact (below_size (bl_ HB.out))); (case aL => have := LMc23.out; omega); intro v904 w25 ho hb hg hat; rw [← Ny903.out] at ho; replace HO_3 := Aside0.mk (Kd.R_after (ok := (fun _ => True)) (by (with_reducible repeat (first | apply Kd.R_alloc | apply Kd.R_drewN | apply Kd.R_drew)); exact Kd.R_mono HO_3.out (fun _ hk => ⟨trivial, hk⟩)) hg hat); replace HB := Aside0.mk (hb); have HO905 := Aside0.mk (ho); clear HO_5; clear ho hb hg hat))
         go_roundg k3
         case measure => have := HJ1.out; have := HK2.out; have := HK3.out; omega
         case rel => exact ⟨(y903), (wrap64 (x29_3 + 1)), rs_, H', ⟨by have := HJ1.out; have := HK2.out; have := HK3.out; omega⟩, ⟨by (with_reducible repeat (first | apply Kd.R_alloc | apply Kd.R_drewN | apply Kd.R_drew)); exact Kd.R_mono HO_3.out (fun _ hk => hk.2)⟩, ⟨re_ HO905.out⟩, ⟨bl_ HB.out⟩⟩
       rw [if_neg c16] at H
       have c16b0 : decide (x29_3 < ((l0.take (x4_2 : Int).toNat).length : Int)) = false := decide_eq_false c16
       (try (have c16q : decide (x29_3 < max x4_2 0) = false := by have u_ := LQx4_2.out; (first | rw [decide_eq_true_eq] | rw [decide_eq_false_iff_not]); (first | have l_ := of_decide_eq_true c16b0 | have l_ := of_decide_eq_false c16b0); rw [List.length_take] at l_; omega))
       clear c16
       by_cases c26 : 0 ≤ x4_2
       rotate_left
       · rw [if_neg c26] at H
         cases H
       rw [if_pos c26] at H
       have c26b0 : decide (0 ≤ x4_2) = true := decide_eq_true c26
       clear c26
       by_cases c27 : x4_2 < (l0.length : Int)
       rotate_left
       · rw [if_neg c27] at H
         cases H
       rw [if_pos c27] at H
       have c27b0 : decide (x4_2 < (l0.length : Int)) = true := decide_eq_true c27
       clear c27
       by_cases c28 : x4_2 < (t894.length : Int)
       rotate_left
       · rw [if_neg c28] at H
         cases H
       rw [if_pos c28] at H
       have c28b0 : decide (x4_2 < (t894.length : Int)) = true := decide_eq_true c28
       clear c28
       by_cases c29 : (rd t894 x4_2) = 0
       · rw [if_pos c29] at H
         cases H
       rw [if_neg c29] at H
       have c29b0 : ((rd t894 x4_2) == 0) = false := beq_eq_false_iff_ne.mpr c29
       have c29b1 : ((rd t894 x4_2) != 0) = true := bne_iff_ne.mpr c29
       obtain ⟨t908, A30, H⟩ := ob_ H
       by_cases c31 : t908 = true
       rotate_left
       · replace c31 := Bool.eq_false_iff.mpr c31
         subst c31
         rw [if_neg (show ¬ (false = true) by decide)] at H
         obtain rfl := Option.some.inj H
         try go_wp2
         replace HO_3 := Aside0.mk (Kd.R_drew HO_3.out)
         replace HO_5 := Aside0.mk (Kd.R_drew HO_5.out)
         replace HB := Aside0.mk (below_drew1 HB.out)
         have p906 : 0 ≤ (x4_2 : Int) := od_
         have q906 : x4_2 < (l0.length : Int) := od_
         obtain ⟨ad906, e906, hx906_0⟩ := Kd.at_int HR0.out x4_2 p906 q906
         have hw906_0 := hx906_0
         cases e906
         (try replace hx906_0 := (HB.out.cell (World.block_lt_of_cell? w _ hx906_0)).trans hx906_0)
         replace p906 := eq_true p906
         replace q906 := eq_true q906
         obtain ⟨Ao37, co37, eo37⟩ := Kd.R_slice HO_3.out
         (first | subst eo37 | (injection eo37 with f1_ f2_ f3_; have f4_ := f1_.symm; have f5_ := f3_.symm; clear f1_ f2_ f3_; subst f4_; subst f5_))
         have p907 : 0 ≤ (x4_2 : Int) := od_
         have q907 : x4_2 < (t894.length : Int) := od_
         obtain ⟨ad907, e907, hx907_0⟩ := Kd.at_int (Kd.R_reads' HO_3.out).2.2 x4_2 p907 q907
         cases e907
         replace p907 := eq_true p907
         replace q907 := eq_true q907
         obtain ⟨Ao38, co38, eo38⟩ := Kd.R_slice HO_5.out
         (first | subst eo38 | (injection eo38 with f1_ f2_ f3_; have f4_ := f1_.symm; have f5_ := f3_.symm; clear f1_ f2_ f3_; subst f4_; subst f5_))
         refine start_ (n := 12) (S := fun w' => w'.cell? (ad906.add (x4_2).toNat) = some (.int .i64 (rd l0 x4_2)) ∧ w'.cell? (ad907.add (x4_2).toNat) = some (.int .i64 (rd t894 x4_2))) (ds := []) (B_ 0 12) (by kernel_rfl) rfl rfl ⟨((HB.out.cell (World.block_lt_of_cell? w _ hw906_0)).trans hw906_0), hx907_0⟩ (fun hHeld => ?_); refine with_tabW impl_IsTelescopic.tab13 impl_IsTelescopic.bits13 (fun HT_ HW_ => ?_)
         generalize wr.drew = w36 at HO_3 HO_5 HB hx906_0 hx907_0 hHeld ⊢
         refine pu_ HT_ 0 44 (B_ 1 12) ?_
         refine pu_ HT_ 1 45 (B_ 3 12) ?_
         refine pu_ HT_ 2 46 (B_ 7 12) ?_
         refine pu_ HT_ 3 47 (B_ 15 12) ?_
         refine pu_ HT_ 5 49 (B_ 47 12) ?_
         refine pu_ HT_ 6 50 (B_ 111 12) ?_
         refine pu_ HT_ 7 51 (B_ 239 12) ?_
         refine tk2_ HT_ HW_ hHeld 4 48 (B_ 255 12) ?_
         refine tk2_ HT_ HW_ hHeld 8 52 (B_ 511 12) ?_
         refine pu_ HT_ 9 53 (B_ 1023 12) ?_
         refine on_ HT_ 10 54 (B_ 2047 12) (fun K hK => ?_)
         refine goes_ Try.func35 (by kernel_rfl) rfl #[.slice Ao38 x5_3.length co38, .int .i64 (wrap64 (Int.tdiv (rd l0 x4_2) (rd t894 x4_2)))] (by rfl) rfl rfl (by (try simp only [List.map_toArray, List.map_cons, List.map_nil]); first | done | rfl | (simp only [List.length_drop, List.length_take]; rfl)) ?_
         with_reducible refine (impl_Generates.calls k3 _ _ x5_3 (wrap64 (Int.tdiv (rd l0 x4_2) (rd t894 x4_2))) false _ ?side1 ?side2 A30.out).mono ?_
         (case side1 => exact ce_ ((Kd.R_reads' HO_5.out).2.2))
         (case side2 => exact (Kd.R_reads' HO_5.out).2.1)
         rintro e w39 ⟨rfl, hb⟩
         have HS1_ := (hb.cell (World.block_lt_of_cell? _ _ (hHeld.2))).trans (hHeld.2)
         refine ⟨_, rfl, ?_⟩
         replace HO_3 := Aside0.mk (Kd.R_below (re_ HO_3.out) hb)
         replace HO_5 := Aside0.mk (Kd.R_below (re_ HO_5.out) hb)
         replace HB := bo_ HB hb
         (try clear hb)
         refine hK.out _ _ ⟨((HB.out.cell (World.block_lt_of_cell? w _ hw906_0)).trans hw906_0), HS1_⟩ (fun hHeld => ?_)
         clear hK K
         refine norm_ (a' := ?_) ?_ ?_
         rotate_left
         · show Act.put _ (some 54) _ = _
           simp only [Act.put, z1_, z2_, z3_, i64_w, i32_w]
           rfl
         refine pu_ HT_ 11 55 (B_ 4095 12) ?_
         refine done_ (done_of HT_.out (by kernel_rfl)) ?_
         try go_wp2
         go_ret
         exact ⟨rf_, bl_ HB.out⟩
       subst c31
       rw [if_pos rfl] at H
       have H' := Aside0.mk H
       clear H
       try go_wp2
       replace HO_3 := Aside0.mk (Kd.R_drew HO_3.out)
       replace HO_5 := Aside0.mk (Kd.R_drew HO_5.out)
       replace HB := Aside0.mk (below_drew1 HB.out)
       have p906 : 0 ≤ (x4_2 : Int) := od_
       have q906 : x4_2 < (l0.length : Int) := od_
       obtain ⟨ad906, e906, hx906_0⟩ := Kd.at_int HR0.out x4_2 p906 q906
       have hw906_0 := hx906_0
       cases e906
       (try replace hx906_0 := (HB.out.cell (World.block_lt_of_cell? w _ hx906_0)).trans hx906_0)
       replace p906 := eq_true p906
       replace q906 := eq_true q906
       obtain ⟨Ao33, co33, eo33⟩ := Kd.R_slice HO_3.out
       (first | subst eo33 | (injection eo33 with f1_ f2_ f3_; have f4_ := f1_.symm; have f5_ := f3_.symm; clear f1_ f2_ f3_; subst f4_; subst f5_))
       have p907 : 0 ≤ (x4_2 : Int) := od_
       have q907 : x4_2 < (t894.length : Int) := od_
       obtain ⟨ad907, e907, hx907_0⟩ := Kd.at_int (Kd.R_reads' HO_3.out).2.2 x4_2 p907 q907
       cases e907
       replace p907 := eq_true p907
       replace q907 := eq_true q907
       obtain ⟨Ao34, co34, eo34⟩ := Kd.R_slice HO_5.out
       (first | subst eo34 | (injection eo34 with f1_ f2_ f3_; have f4_ := f1_.symm; have f5_ := f3_.symm; clear f1_ f2_ f3_; subst f4_; subst f5_))
       refine start_ (n := 12) (S := fun w' => w'.cell? (ad906.add (x4_2).toNat) = some (.int .i64 (rd l0 x4_2)) ∧ w'.cell? (ad907.add (x4_2).toNat) = some (.int .i64 (rd t894 x4_2))) (ds := []) (B_ 0 12) (by kernel_rfl) rfl rfl ⟨((HB.out.cell (World.block_lt_of_cell? w _ hw906_0)).trans hw906_0), hx907_0⟩ (fun hHeld => ?_); refine with_tabW impl_IsTelescopic.tab13 impl_IsTelescopic.bits13 (fun HT_ HW_ => ?_)
       generalize wr.drew = w32 at HO_3 HO_5 HB hx906_0 hx907_0 hHeld ⊢
       refine pu_ HT_ 0 44 (B_ 1 12) ?_
       refine pu_ HT_ 1 45 (B_ 3 12) ?_
       refine pu_ HT_ 2 46 (B_ 7 12) ?_
       refine pu_ HT_ 3 47 (B_ 15 12) ?_
       refine pu_ HT_ 5 49 (B_ 47 12) ?_
       refine pu_ HT_ 6 50 (B_ 111 12) ?_
       refine pu_ HT_ 7 51 (B_ 239 12) ?_
       refine tk2_ HT_ HW_ hHeld 4 48 (B_ 255 12) ?_
       refine tk2_ HT_ HW_ hHeld 8 52 (B_ 511 12) ?_
       refine pu_ HT_ 9 53 (B_ 1023 12) ?_
       refine on_ HT_ 10 54 (B_ 2047 12) (fun K hK => ?_)
       refine goes_ Try.func35 (by kernel_rfl) rfl #[.slice Ao34 x5_3.length co34, .int .i64 (wrap64 (Int.tdiv (rd l0 x4_2) (rd t894 x4_2)))] (by rfl) rfl rfl (by (try simp only [List.map_toArray, List.map_cons, List.map_nil]); first | done | rfl | (simp only [List.length_drop, List.length_take]; rfl)) ?_
       with_reducible refine (impl_Generates.calls k3 _ _ x5_3 (wrap64 (Int.tdiv (rd l0 x4_2) (rd t894 x4_2))) true _ ?side1 ?side2 A30.out).mono ?_
       (case side1 => exact ce_ ((Kd.R_reads' HO_5.out).2.2))
       (case side2 => exact (Kd.R_reads' HO_5.out).2.1)
       rintro e w35 ⟨rfl, hb⟩
       have HS1_ := (hb.cell (World.block_lt_of_cell? _ _ (hHeld.2))).trans (hHeld.2)
       refine ⟨_, rfl, ?_⟩
       replace HO_3 := Aside0.mk (Kd.R_below (re_ HO_3.out) hb)
       replace HO_5 := Aside0.mk (Kd.R_below (re_ HO_5.out) hb)
       replace HB := bo_ HB hb
       (try clear hb)
       refine hK.out _ _ ⟨((HB.out.cell (World.block_lt_of_cell? w _ hw906_0)).trans hw906_0), HS1_⟩ (fun hHeld => ?_)
       clear hK K
       refine norm_ (a' := ?_) ?_ ?_
       rotate_left
       · show Act.put _ (some 54) _ = _
         simp only [Act.put, z1_, z2_, z3_, i64_w, i32_w]
         rfl
       refine pu_ HT_ 11 55 (B_ 4095 12) ?_
       refine done_ (done_of HT_.out (by kernel_rfl)) ?_
       try go_wp2
       go_roundg k3
       case measure => have := HJ1.out; have := HK2.out; have := HK3.out; omega
       case rel => exact ⟨(wrap64 (x4_2 + 1)), rs_, H', ⟨by have := HJ1.out; have := HK2.out; have := HK3.out; omega⟩, ⟨by (with_reducible repeat (first | apply Kd.R_alloc | apply Kd.R_drewN | apply Kd.R_drew)); exact Kd.R_mono HO_3.out (fun _ hk => trivial)⟩, ⟨bl_ HB.out⟩⟩
def impl_total.l0 : Nat → Int → List Int → Int → Int → Option (Int)
 | 0, _, _, _, _ => none
 | k + 1, x3, x6, x7, x8 => if x8 < x7 then (if 0 ≤ x8 then (if x8 < (x6.length : Int) then (impl_total.l0 k (wrap64 (x3 + (rd x6 x8))) x6 x7 (wrap64 (x8 + 1))) else (none)) else (none)) else (some x3)
def impl_total.f (k : Nat) (l0 : List Int) : Option (Int) := impl_total.l0 k 0 l0 (l0.length : Int) 0
theorem impl_total.calls (k : Nat) (A0 : Option Addr) (c0 : Nat) (l0 : List Int) (r : Int) (w : World) (hr0 : Kd.C (Kd.int .i64) w A0 l0.length l0) (hc0 : l0.length ≤ c0) (h : impl_total.f k l0 = some r) :
 Calls Try.prog 36 #[.slice A0 l0.length c0] w fun e w' => e = .returned (.int .i64 r) ∧ Drawn0 w w' := by
 have HR0 := Aside0.mk hr0
 have HC0 := Aside0.mk hc0
 clear hr0 hc0
 have H := h
 clear h
 unfold impl_total.f at H
 have H' := Aside0.mk H
 clear H
 go_enter Try.func36, Try.ntmps36
 go_wp2
 go_loopg [3, 8] k (fun kq v3 v8 w' => ∃ (x3_1 : Int) (x8_1 : Int), v3 = .int .i64 x3_1 ∧ v8 = .int .i64 x8_1 ∧ Aside0 (impl_total.l0 kq x3_1 l0 (l0.length : Int) x8_1 = some r) ∧ Aside0 (kq ≤ k) ∧ Drawn0 w w')
 case atStart => exact ⟨(0), (0), rs_, rs_, H', ⟨Nat.le_refl _⟩, by repeat (first | exact Drawn0.refl _ | apply Drawn0.step)⟩
 case round =>
  clear H'
  obtain ⟨x3_1, x8_1, rfl, rfl, HA, HK1, ⟨m1, rfl⟩⟩ := hrel
  cases gk with
  | zero => exact absurd HA.out (by simp [impl_total.l0])
  | succ k1 =>
   have H := HA.out
   clear HA
   simp only [impl_total.l0] at H
   by_cases c2 : x8_1 < (l0.length : Int)
   rotate_left
   · rw [if_neg c2] at H
     have c2b0 : decide (x8_1 < (l0.length : Int)) = false := decide_eq_false c2
     clear c2
     obtain rfl := Option.some.inj H
     go_wp2
     go_ret
     exact ⟨by first | rfl | (simp; done) | (simp [*]; done), by repeat (first | exact Drawn0.refl _ | apply Drawn0.step)⟩
   rw [if_pos c2] at H
   have c2b0 : decide (x8_1 < (l0.length : Int)) = true := decide_eq_true c2
   clear c2
   by_cases c3 : 0 ≤ x8_1
   rotate_left
   · rw [if_neg c3] at H
     cases H
   rw [if_pos c3] at H
   have c3b0 : decide (0 ≤ x8_1) = true := decide_eq_true c3
   clear c3
   by_cases c4 : x8_1 < (l0.length : Int)
   rotate_left
   · rw [if_neg c4] at H
     cases H
   rw [if_pos c4] at H
   have c4b0 : decide (x8_1 < (l0.length : Int)) = true := decide_eq_true c4
   clear c4
   have H' := Aside0.mk H
   clear H
   have p909 : 0 ≤ (x8_1 : Int) := od_
   have q909 : x8_1 < (l0.length : Int) := od_
   obtain ⟨ad909, e909, hx909_0⟩ := Kd.at_int HR0.out x8_1 p909 q909
   cases e909
   replace p909 := eq_true p909
   replace q909 := eq_true q909
   go_wp2
   go_roundg k1
   case measure => have := HK1.out; omega
   case rel => exact ⟨(wrap64 (x3_1 + (rd l0 x8_1))), (wrap64 (x8_1 + 1)), rs_, rs_, H', ⟨by have := HK1.out; omega⟩, by repeat (first | exact Drawn0.refl _ | apply Drawn0.step)⟩
end Go.Proofs.Ytjjajcldmkmgkaa.PA
end
